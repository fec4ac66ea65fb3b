/- Contracts: the disk. -/
import Derived.Test.YtnebjbgcibjohaaGreatKK
import Derived.Test.YtnebjbgcibjohaaGreatRR
import Derived.Test.YtnebjbgcibjohaaGreatRS
import Derived.Test.YtnebjbgcibjohaaGreatProg
import Derived.Test.YtnebjbgcibjohaaGreatRR1
section
namespace Go.Proofs.YtnebjbgcibjohaaGreat.K
open Go.RowKit Go.Rill Go.Proofs
set_option linter.unusedVariables false
set_option linter.unusedSimpArgs false
/-- A disk: what lasts, what its cache has, its power, how often it was written and read; ps: the bytes of all slices that it has. -/
structure Dsk where
  n : Nat
  lasts : List Value
  cache : List IE
  clock : Nat
  armed : Bool
  left : Int
  off : Bool
  writes : Int
  reads : List Int
  ps : List (Value × List UInt8)
def w64 (x : Int) : Int := IntKind.i64.wrap x
def Dsk.wrote (S : Dsk) (i : Int) (v : Value) (l : List UInt8) : Dsk := { S with left := w64 (S.left - 1), cache := (iput i v S.clock S.cache).1, clock := (iput i v S.clock S.cache).2, writes := w64 (S.writes + 1), ps := (v, l) :: S.ps }
theorem ic_set (l : List Int) (j : Nat) (x : Int) : (ic l).set (j * 1) (.int .i64 x) = ic (l.set j x) := by
  rw [Nat.mul_one]
  simp only [ic, List.map_set]
theorem perm5 {α : Type} (a b c d e : α) : [a, b, c, d, e].Perm [e, a, b, c, d] := by
  have := List.perm_append_comm (l₁ := [a, b, c, d]) (l₂ := [e])
  exact this
structure Dsk.Ok (S : Dsk) : Prop where
  len : S.lasts.length = S.n
  rlen : S.reads.length = S.n
  max : S.n ≤ 4096
  lasts : ∀ v ∈ S.lasts, ∃ l, (v, l) ∈ S.ps ∧ l.length ≤ 1024
  cache : ∀ e ∈ S.cache, ∃ l, (e.val, l) ∈ S.ps ∧ l.length ≤ 1024
abbrev dsk (gd gm : Nat) (lv rv : Value) (S : Dsk) : List Ent := [.blk gd (.cells #[lv, .map (some gm), .bool S.armed, .int .i64 S.left, .bool S.off, .int .i64 S.writes, rv] 71 (0, 0)), .row 36 1 lv S.n S.lasts, .blk gm (.map (imap S.cache) S.clock), .row 3 1 rv S.n (ic S.reads), .pool S.ps]
set_option maxRecDepth 100000 in
theorem there_1 {gd gm : Nat} {lv rv : Value} {S : Dsk} {w0 : World} (H : Has w0 (dsk gd gm lv rv S)) (hS : S.Ok) {i : Int} (h : 0 ≤ i) : Does Tryz.prog 43 [.pointer (some ⟨gd, 0, none⟩), .int .i64 i] w0 (dsk gd gm lv rv S) (fun _ : Unit => .bool (decide (i < (S.n : Int)))) (fun _ => dsk gd gm lv rv S) (fun _ => True) := by
  refine enter (n := 16) Tryz.func43 rfl rfl rfl ?_
  intro fr E
  have M : Mem w0 (feet (dsk gd gm lv rv S)) (dsk gd gm lv rv S) (fun _ => True) w0 := Mem.begin H (fun _ _ => trivial)
  refine code_region ?_
  refine sw E (run_assignC rfl) fun fr E => ?_
  refine seq_nil' ?_
  refine code_region ?_
  refine mv E fun fr E => ?_
  refine sw (v := .bool true) E (tst rfl (decide_eq_true h)) fun fr E => ?_
  refine mv E fun fr E => ?_
  refine mv E fun fr E => ?_
  refine mv E fun fr E => ?_
  refine sw E (run_nilCheck rfl rfl) fun fr E => ?_
  refine sw (v := .pointer (some ⟨_, 0, none⟩)) E (run_fieldAddr rfl rfl T.fld71_0) fun fr E => ?_
  refine sw E (run_loadB rfl rfl T.one68 (M.row (i := 0) rfl) rfl) fun fr E => ?_
  refine sw (v := .int .i64 _) E (run_lenR rfl rfl rfl rfl T.slice68 (M.reads 1 rfl)) fun fr E => ?_
  refine sw (v := .bool _) E (rfl) fun fr E => ?_
  refine sw (v := .bool _) E (rfl) fun fr E => ?_
  refine ma E fun fr E => ?_
  refine seq_nil' ?_
  refine wp_ret ?_
  refine ret1 E rfl rfl ?_
  exact ⟨(), rfl, M.fin (List.Sublist.refl _) trivial⟩

set_option maxRecDepth 100000 in
theorem there_2 {gd gm : Nat} {lv rv : Value} {S : Dsk} {w0 : World} (H : Has w0 (dsk gd gm lv rv S)) (hS : S.Ok) {i : Int} (h : ¬ 0 ≤ i) : Does Tryz.prog 43 [.pointer (some ⟨gd, 0, none⟩), .int .i64 i] w0 (dsk gd gm lv rv S) (fun _ : Unit => .bool false) (fun _ => dsk gd gm lv rv S) (fun _ => True) := by
  refine enter (n := 16) Tryz.func43 rfl rfl rfl ?_
  intro fr E
  have M : Mem w0 (feet (dsk gd gm lv rv S)) (dsk gd gm lv rv S) (fun _ => True) w0 := Mem.begin H (fun _ _ => trivial)
  refine code_region ?_
  refine sw E (run_assignC rfl) fun fr E => ?_
  refine seq_nil' ?_
  refine code_region ?_
  refine mv E fun fr E => ?_
  refine sw (v := .bool false) E (tst rfl (decide_eq_false h)) fun fr E => ?_
  refine mv E fun fr E => ?_
  refine sno E rfl rfl rfl rfl fun fr E => ?_
  refine sno E rfl rfl rfl rfl fun fr E => ?_
  refine sno E rfl rfl rfl rfl fun fr E => ?_
  refine sno E rfl rfl rfl rfl fun fr E => ?_
  refine sno E rfl rfl rfl rfl fun fr E => ?_
  refine sno E rfl rfl rfl rfl fun fr E => ?_
  refine sno E rfl rfl rfl rfl fun fr E => ?_
  refine sw (v := .bool _) E (rfl) fun fr E => ?_
  refine ma E fun fr E => ?_
  refine seq_nil' ?_
  refine wp_ret ?_
  refine ret1 E rfl rfl ?_
  exact ⟨(), rfl, M.fin (List.Sublist.refl _) trivial⟩

theorem there_x {gd gm : Nat} {lv rv : Value} {S : Dsk} {w0 : World} (H : Has w0 (dsk gd gm lv rv S)) (hS : S.Ok) (i : Int) : Does Tryz.prog 43 [.pointer (some ⟨gd, 0, none⟩), .int .i64 i] w0 (dsk gd gm lv rv S) (fun _ : Unit => .bool (decide (0 ≤ i ∧ i < (S.n : Int)))) (fun _ => dsk gd gm lv rv S) (fun _ => True) := by
  by_cases h : 0 ≤ i
  · have e : decide (0 ≤ i ∧ i < (S.n : Int)) = decide (i < (S.n : Int)) := by simp [h]
    rw [e]; exact there_1 H hS h
  · have e : decide (0 ≤ i ∧ i < (S.n : Int)) = false := by simp [h]
    rw [e]; exact there_2 H hS h

set_option maxRecDepth 100000 in
theorem wrong_out {gd gm : Nat} {lv rv : Value} {S : Dsk} {w0 : World} (H : Has w0 (dsk gd gm lv rv S)) (hS : S.Ok) {i : Int} {b : Value} {l : List UInt8} (hb : Bytes w0 b l) (hap : ∀ g, b.ownBlock = some g → ¬ feet (dsk gd gm lv rv S) g) (h : ¬ (0 ≤ i ∧ i < (S.n : Int))) : Does Tryz.prog 31 [.pointer (some ⟨gd, 0, none⟩), .int .i64 i, b] w0 (dsk gd gm lv rv S) (fun _ : Unit => .int .i64 7) (fun _ => dsk gd gm lv rv S) (fun _ => True) := by
  refine enter (n := 16) Tryz.func31 rfl rfl rfl ?_
  intro fr E
  have M : Mem w0 (feet (dsk gd gm lv rv S)) (dsk gd gm lv rv S) (fun w' => Bytes w' b l) w0 := Mem.begin H (fun w' h => Reads.held hb h hap)
  refine code_region ?_
  refine sw E (run_assignC rfl) fun fr E => ?_
  refine seq_nil' ?_
  refine wp_seq ?_
  refine wp_block ?_
  refine code_region ?_
  refine mv E fun fr E => ?_
  refine mv E fun fr E => ?_
  refine scallI (dsk gd gm lv rv S) E M rfl rfl rfl rfl rfl (run_call rfl rfl T.fn43) rfl (fun H => there_x H hS i) ?_
  rintro _ fr w - M E
  rw [decide_eq_false h] at E
  refine sw (v := .bool _) E (rfl) fun fr E => ?_
  refine ma E fun fr E => ?_
  refine seq_nil' ?_
  refine cond_true E rfl (rfl) ?_
  refine code_region ?_
  refine sw E (run_assignC rfl) fun fr E => ?_
  refine seq_nil' ?_
  refine wp_ret ?_
  refine block_ret ?_
  refine then_ret ?_
  refine ret1 E rfl rfl ?_
  exact ⟨(), rfl, M.fin (List.Sublist.refl _) trivial⟩

set_option maxRecDepth 100000 in
theorem wrong_long {gd gm : Nat} {lv rv : Value} {S : Dsk} {w0 : World} (H : Has w0 (dsk gd gm lv rv S)) (hS : S.Ok) {i : Int} {b : Value} {l : List UInt8} (hb : Bytes w0 b l) (hap : ∀ g, b.ownBlock = some g → ¬ feet (dsk gd gm lv rv S) g) (h : 0 ≤ i ∧ i < (S.n : Int)) (hl : 1024 < l.length) : Does Tryz.prog 31 [.pointer (some ⟨gd, 0, none⟩), .int .i64 i, b] w0 (dsk gd gm lv rv S) (fun _ : Unit => .int .i64 3) (fun _ => dsk gd gm lv rv S) (fun _ => True) := by
  refine enter (n := 16) Tryz.func31 rfl rfl rfl ?_
  intro fr E
  have M : Mem w0 (feet (dsk gd gm lv rv S)) (dsk gd gm lv rv S) (fun w' => Bytes w' b l) w0 := Mem.begin H (fun w' h => Reads.held hb h hap)
  refine code_region ?_
  refine sw E (run_assignC rfl) fun fr E => ?_
  refine seq_nil' ?_
  refine wp_seq ?_
  refine wp_block ?_
  refine code_region ?_
  refine mv E fun fr E => ?_
  refine mv E fun fr E => ?_
  refine scallI (dsk gd gm lv rv S) E M rfl rfl rfl rfl rfl (run_call rfl rfl T.fn43) rfl (fun H => there_x H hS i) ?_
  rintro _ fr w - M E
  rw [decide_eq_true h] at E
  refine sw (v := .bool _) E (rfl) fun fr E => ?_
  refine ma E fun fr E => ?_
  refine seq_nil' ?_
  refine cond_false E rfl (rfl) ?_
  refine code_region ?_
  refine mv E fun fr E => ?_
  refine sw (v := .int .i64 _) E (run_lenR rfl rfl rfl rfl T.slice36 M.fact) fun fr E => ?_
  refine sw (v := .bool true) E (tst rfl (decide_eq_true (by omega))) fun fr E => ?_
  refine ma E fun fr E => ?_
  refine seq_nil' ?_
  refine cond_true E rfl (rfl) ?_
  refine code_region ?_
  refine sw E (run_assignC rfl) fun fr E => ?_
  refine seq_nil' ?_
  refine wp_ret ?_
  refine block_ret ?_
  refine then_ret ?_
  refine ret1 E rfl rfl ?_
  exact ⟨(), rfl, M.fin (List.Sublist.refl _) trivial⟩

set_option maxRecDepth 100000 in
theorem wrong_ok {gd gm : Nat} {lv rv : Value} {S : Dsk} {w0 : World} (H : Has w0 (dsk gd gm lv rv S)) (hS : S.Ok) {i : Int} {b : Value} {l : List UInt8} (hb : Bytes w0 b l) (hap : ∀ g, b.ownBlock = some g → ¬ feet (dsk gd gm lv rv S) g) (h : 0 ≤ i ∧ i < (S.n : Int)) (hl : ¬ 1024 < l.length) : Does Tryz.prog 31 [.pointer (some ⟨gd, 0, none⟩), .int .i64 i, b] w0 (dsk gd gm lv rv S) (fun _ : Unit => .int .i64 0) (fun _ => dsk gd gm lv rv S) (fun _ => True) := by
  refine enter (n := 16) Tryz.func31 rfl rfl rfl ?_
  intro fr E
  have M : Mem w0 (feet (dsk gd gm lv rv S)) (dsk gd gm lv rv S) (fun w' => Bytes w' b l) w0 := Mem.begin H (fun w' h => Reads.held hb h hap)
  refine code_region ?_
  refine sw E (run_assignC rfl) fun fr E => ?_
  refine seq_nil' ?_
  refine wp_seq ?_
  refine wp_block ?_
  refine code_region ?_
  refine mv E fun fr E => ?_
  refine mv E fun fr E => ?_
  refine scallI (dsk gd gm lv rv S) E M rfl rfl rfl rfl rfl (run_call rfl rfl T.fn43) rfl (fun H => there_x H hS i) ?_
  rintro _ fr w - M E
  rw [decide_eq_true h] at E
  refine sw (v := .bool _) E (rfl) fun fr E => ?_
  refine ma E fun fr E => ?_
  refine seq_nil' ?_
  refine cond_false E rfl (rfl) ?_
  refine code_region ?_
  refine mv E fun fr E => ?_
  refine sw (v := .int .i64 _) E (run_lenR rfl rfl rfl rfl T.slice36 M.fact) fun fr E => ?_
  refine sw (v := .bool false) E (tst rfl (decide_eq_false (by omega))) fun fr E => ?_
  refine ma E fun fr E => ?_
  refine seq_nil' ?_
  refine cond_false E rfl (rfl) ?_
  refine wp_skip ?_
  refine block_normal ?_
  refine then_normal ?_
  refine code_region ?_
  refine sw E (run_assignC rfl) fun fr E => ?_
  refine seq_nil' ?_
  refine wp_ret ?_
  refine ret1 E rfl rfl ?_
  exact ⟨(), rfl, M.fin (List.Sublist.refl _) trivial⟩

set_option maxRecDepth 100000 in
theorem Spend_off {gd gm : Nat} {lv rv : Value} {S : Dsk} {w0 : World} (H : Has w0 (dsk gd gm lv rv S)) (hS : S.Ok) (h : S.off = true) : Does Tryz.prog 61 [.pointer (some ⟨gd, 0, none⟩)] w0 (dsk gd gm lv rv S) (fun _ : Unit => .int .i64 12) (fun _ => dsk gd gm lv rv S) (fun _ => True) := by
  refine enter (n := 30) Tryz.func61 rfl rfl rfl ?_
  intro fr E
  obtain ⟨n, lasts, cache, clock, armed, left, off, writes, reads, ps⟩ := S
  simp only at h
  subst h
  have M : Mem w0 (feet (dsk gd gm lv rv _)) (dsk gd gm lv rv _) (fun _ => True) w0 := Mem.begin H (fun _ _ => trivial)
  refine code_region ?_
  refine sw E (run_assignC rfl) fun fr E => ?_
  refine seq_nil' ?_
  refine wp_seq ?_
  refine wp_block ?_
  refine code_region ?_
  refine mv E fun fr E => ?_
  refine sw E (run_nilCheck rfl rfl) fun fr E => ?_
  refine sw (v := .pointer (some ⟨_, 4, none⟩)) E (run_fieldAddr rfl rfl T.fld71_4) fun fr E => ?_
  refine sw (v := .bool _) E (run_loadB rfl rfl T.one4 (M.row (i := 0) rfl) rfl) fun fr E => ?_
  refine ma E fun fr E => ?_
  refine seq_nil' ?_
  refine cond_true E rfl (rfl) ?_
  refine code_region ?_
  refine sw E (run_assignC rfl) fun fr E => ?_
  refine seq_nil' ?_
  refine wp_ret ?_
  refine block_ret ?_
  refine then_ret ?_
  refine ret1 E rfl rfl ?_
  exact ⟨(), rfl, M.fin (List.Sublist.refl _) trivial⟩

set_option maxRecDepth 100000 in
theorem Spend_fail {gd gm : Nat} {lv rv : Value} {S : Dsk} {w0 : World} (H : Has w0 (dsk gd gm lv rv S)) (hS : S.Ok) (h : S.off = false) (ha : S.armed = true) (hl : S.left = 0) : Does Tryz.prog 61 [.pointer (some ⟨gd, 0, none⟩)] w0 (dsk gd gm lv rv S) (fun _ : Unit => .int .i64 12) (fun _ => dsk gd gm lv rv { S with off := true }) (fun _ => True) := by
  refine enter (n := 30) Tryz.func61 rfl rfl rfl ?_
  intro fr E
  obtain ⟨n, lasts, cache, clock, armed, left, off, writes, reads, ps⟩ := S
  simp only at h ha hl
  subst h; subst ha
  have M : Mem w0 (feet (dsk gd gm lv rv _)) (dsk gd gm lv rv _) (fun _ => True) w0 := Mem.begin H (fun _ _ => trivial)
  refine code_region ?_
  refine sw E (run_assignC rfl) fun fr E => ?_
  refine seq_nil' ?_
  refine wp_seq ?_
  refine wp_block ?_
  refine code_region ?_
  refine mv E fun fr E => ?_
  refine sw E (run_nilCheck rfl rfl) fun fr E => ?_
  refine sw (v := .pointer (some ⟨_, 4, none⟩)) E (run_fieldAddr rfl rfl T.fld71_4) fun fr E => ?_
  refine sw (v := .bool _) E (run_loadB rfl rfl T.one4 (M.row (i := 0) rfl) rfl) fun fr E => ?_
  refine ma E fun fr E => ?_
  refine seq_nil' ?_
  refine cond_false E rfl (rfl) ?_
  refine code_region ?_
  refine mv E fun fr E => ?_
  refine sw E (run_nilCheck rfl rfl) fun fr E => ?_
  refine sw (v := .pointer (some ⟨_, 2, none⟩)) E (run_fieldAddr rfl rfl T.fld71_2) fun fr E => ?_
  refine sw (v := .bool _) E (run_loadB rfl rfl T.one4 (M.row (i := 0) rfl) rfl) fun fr E => ?_
  refine mv E fun fr E => ?_
  refine mv E fun fr E => ?_
  refine sw E (run_nilCheck rfl rfl) fun fr E => ?_
  refine sw (v := .pointer (some ⟨_, 3, none⟩)) E (run_fieldAddr rfl rfl T.fld71_3) fun fr E => ?_
  refine sw (v := .int .i64 _) E (run_loadB rfl rfl T.one3 (M.row (i := 0) rfl) rfl) fun fr E => ?_
  refine sw (v := .bool true) E (tst rfl (decide_eq_true hl)) fun fr E => ?_
  refine sw (v := .bool _) E (rfl) fun fr E => ?_
  refine ma E fun fr E => ?_
  refine seq_nil' ?_
  refine cond_true E rfl (rfl) ?_
  refine code_region ?_
  refine mv E fun fr E => ?_
  refine sw E (run_nilCheck rfl rfl) fun fr E => ?_
  refine sw (v := .pointer (some ⟨_, 4, none⟩)) E (run_fieldAddr rfl rfl T.fld71_4) fun fr E => ?_
  refine sset (i := 0) (cs' := #[_, _, _, _, _, _, _]) E M rfl rfl rfl rfl rfl (run_store1' (v := _) rfl rfl rfl T.size4 (M.row (i := 0) rfl) (rfl) (rfl) (rfl)) rfl fun fr w M E => ?_
  refine seq_nil' ?_
  refine code_region ?_
  refine sw E (run_assignC rfl) fun fr E => ?_
  refine seq_nil' ?_
  refine wp_ret ?_
  refine block_ret ?_
  refine then_ret ?_
  refine ret1 E rfl rfl ?_
  exact ⟨(), rfl, M.fin (List.Sublist.refl _) trivial⟩

set_option maxRecDepth 100000 in
theorem Spend_armed {gd gm : Nat} {lv rv : Value} {S : Dsk} {w0 : World} (H : Has w0 (dsk gd gm lv rv S)) (hS : S.Ok) (h : S.off = false) (ha : S.armed = true) (hl : ¬ S.left = 0) : Does Tryz.prog 61 [.pointer (some ⟨gd, 0, none⟩)] w0 (dsk gd gm lv rv S) (fun _ : Unit => .int .i64 0) (fun _ => dsk gd gm lv rv { S with left := w64 (S.left - 1) }) (fun _ => True) := by
  refine enter (n := 30) Tryz.func61 rfl rfl rfl ?_
  intro fr E
  obtain ⟨n, lasts, cache, clock, armed, left, off, writes, reads, ps⟩ := S
  simp only at h ha hl
  subst h; subst ha
  have M : Mem w0 (feet (dsk gd gm lv rv _)) (dsk gd gm lv rv _) (fun _ => True) w0 := Mem.begin H (fun _ _ => trivial)
  refine code_region ?_
  refine sw E (run_assignC rfl) fun fr E => ?_
  refine seq_nil' ?_
  refine wp_seq ?_
  refine wp_block ?_
  refine code_region ?_
  refine mv E fun fr E => ?_
  refine sw E (run_nilCheck rfl rfl) fun fr E => ?_
  refine sw (v := .pointer (some ⟨_, 4, none⟩)) E (run_fieldAddr rfl rfl T.fld71_4) fun fr E => ?_
  refine sw (v := .bool _) E (run_loadB rfl rfl T.one4 (M.row (i := 0) rfl) rfl) fun fr E => ?_
  refine ma E fun fr E => ?_
  refine seq_nil' ?_
  refine cond_false E rfl (rfl) ?_
  refine code_region ?_
  refine mv E fun fr E => ?_
  refine sw E (run_nilCheck rfl rfl) fun fr E => ?_
  refine sw (v := .pointer (some ⟨_, 2, none⟩)) E (run_fieldAddr rfl rfl T.fld71_2) fun fr E => ?_
  refine sw (v := .bool _) E (run_loadB rfl rfl T.one4 (M.row (i := 0) rfl) rfl) fun fr E => ?_
  refine mv E fun fr E => ?_
  refine mv E fun fr E => ?_
  refine sw E (run_nilCheck rfl rfl) fun fr E => ?_
  refine sw (v := .pointer (some ⟨_, 3, none⟩)) E (run_fieldAddr rfl rfl T.fld71_3) fun fr E => ?_
  refine sw (v := .int .i64 _) E (run_loadB rfl rfl T.one3 (M.row (i := 0) rfl) rfl) fun fr E => ?_
  refine sw (v := .bool false) E (tst rfl (decide_eq_false hl)) fun fr E => ?_
  refine sw (v := .bool _) E (rfl) fun fr E => ?_
  refine ma E fun fr E => ?_
  refine seq_nil' ?_
  refine cond_false E rfl (rfl) ?_
  refine wp_skip ?_
  refine block_normal ?_
  refine then_normal ?_
  refine code_region ?_
  refine mv E fun fr E => ?_
  refine sw E (run_nilCheck rfl rfl) fun fr E => ?_
  refine sw (v := .pointer (some ⟨_, 3, none⟩)) E (run_fieldAddr rfl rfl T.fld71_3) fun fr E => ?_
  refine sw (v := .int .i64 _) E (run_loadB rfl rfl T.one3 (M.row (i := 0) rfl) rfl) fun fr E => ?_
  refine sw (v := .int _ (w64 (left - 1))) E (num rfl (rfl)) fun fr E => ?_
  refine sw E (run_nilCheck rfl rfl) fun fr E => ?_
  refine sw (v := .pointer (some ⟨_, 3, none⟩)) E (run_fieldAddr rfl rfl T.fld71_3) fun fr E => ?_
  refine sset (i := 0) (cs' := #[_, _, _, _, _, _, _]) E M rfl rfl rfl rfl rfl (run_store1' (v := _) rfl rfl rfl T.size3 (M.row (i := 0) rfl) (rfl) (rfl) (rfl)) rfl fun fr w M E => ?_
  refine seq_nil' ?_
  refine code_region ?_
  refine sw E (run_assignC rfl) fun fr E => ?_
  refine seq_nil' ?_
  refine wp_ret ?_
  refine ret1 E rfl rfl ?_
  exact ⟨(), rfl, M.fin (List.Sublist.refl _) trivial⟩

set_option maxRecDepth 100000 in
theorem Spend_free {gd gm : Nat} {lv rv : Value} {S : Dsk} {w0 : World} (H : Has w0 (dsk gd gm lv rv S)) (hS : S.Ok) (h : S.off = false) (ha : S.armed = false) : Does Tryz.prog 61 [.pointer (some ⟨gd, 0, none⟩)] w0 (dsk gd gm lv rv S) (fun _ : Unit => .int .i64 0) (fun _ => dsk gd gm lv rv { S with left := w64 (S.left - 1) }) (fun _ => True) := by
  refine enter (n := 30) Tryz.func61 rfl rfl rfl ?_
  intro fr E
  obtain ⟨n, lasts, cache, clock, armed, left, off, writes, reads, ps⟩ := S
  simp only at h ha
  subst h; subst ha
  have M : Mem w0 (feet (dsk gd gm lv rv _)) (dsk gd gm lv rv _) (fun _ => True) w0 := Mem.begin H (fun _ _ => trivial)
  refine code_region ?_
  refine sw E (run_assignC rfl) fun fr E => ?_
  refine seq_nil' ?_
  refine wp_seq ?_
  refine wp_block ?_
  refine code_region ?_
  refine mv E fun fr E => ?_
  refine sw E (run_nilCheck rfl rfl) fun fr E => ?_
  refine sw (v := .pointer (some ⟨_, 4, none⟩)) E (run_fieldAddr rfl rfl T.fld71_4) fun fr E => ?_
  refine sw (v := .bool _) E (run_loadB rfl rfl T.one4 (M.row (i := 0) rfl) rfl) fun fr E => ?_
  refine ma E fun fr E => ?_
  refine seq_nil' ?_
  refine cond_false E rfl (rfl) ?_
  refine code_region ?_
  refine mv E fun fr E => ?_
  refine sw E (run_nilCheck rfl rfl) fun fr E => ?_
  refine sw (v := .pointer (some ⟨_, 2, none⟩)) E (run_fieldAddr rfl rfl T.fld71_2) fun fr E => ?_
  refine sw (v := .bool _) E (run_loadB rfl rfl T.one4 (M.row (i := 0) rfl) rfl) fun fr E => ?_
  refine mv E fun fr E => ?_
  refine sno E rfl rfl rfl rfl fun fr E => ?_
  refine sno E rfl rfl rfl rfl fun fr E => ?_
  refine sno E rfl rfl rfl rfl fun fr E => ?_
  refine sno E rfl rfl rfl rfl fun fr E => ?_
  refine sno E rfl rfl rfl rfl fun fr E => ?_
  refine sw (v := .bool _) E (rfl) fun fr E => ?_
  refine ma E fun fr E => ?_
  refine seq_nil' ?_
  refine cond_false E rfl (rfl) ?_
  refine wp_skip ?_
  refine block_normal ?_
  refine then_normal ?_
  refine code_region ?_
  refine mv E fun fr E => ?_
  refine sw E (run_nilCheck rfl rfl) fun fr E => ?_
  refine sw (v := .pointer (some ⟨_, 3, none⟩)) E (run_fieldAddr rfl rfl T.fld71_3) fun fr E => ?_
  refine sw (v := .int .i64 _) E (run_loadB rfl rfl T.one3 (M.row (i := 0) rfl) rfl) fun fr E => ?_
  refine sw (v := .int _ (w64 (left - 1))) E (num rfl (rfl)) fun fr E => ?_
  refine sw E (run_nilCheck rfl rfl) fun fr E => ?_
  refine sw (v := .pointer (some ⟨_, 3, none⟩)) E (run_fieldAddr rfl rfl T.fld71_3) fun fr E => ?_
  refine sset (i := 0) (cs' := #[_, _, _, _, _, _, _]) E M rfl rfl rfl rfl rfl (run_store1' (v := _) rfl rfl rfl T.size3 (M.row (i := 0) rfl) (rfl) (rfl) (rfl)) rfl fun fr w M E => ?_
  refine seq_nil' ?_
  refine code_region ?_
  refine sw E (run_assignC rfl) fun fr E => ?_
  refine seq_nil' ?_
  refine wp_ret ?_
  refine ret1 E rfl rfl ?_
  exact ⟨(), rfl, M.fin (List.Sublist.refl _) trivial⟩

set_option maxRecDepth 100000 in
theorem Write_off {gd gm : Nat} {lv rv : Value} {S : Dsk} {w0 : World} (H : Has w0 (dsk gd gm lv rv S)) (hS : S.Ok) {i : Int} {b : Value} {l : List UInt8} (hb : Bytes w0 b l) (hap : ∀ g, b.ownBlock = some g → ¬ feet (dsk gd gm lv rv S) g) (h0 : S.off = true) : Does Tryz.prog 58 [.pointer (some ⟨gd, 0, none⟩), .int .i64 i, b] w0 (dsk gd gm lv rv S) (fun _ : Unit => .int .i64 12) (fun _ => dsk gd gm lv rv S) (fun _ => True) := by
  refine enter (n := 39) Tryz.func58 rfl rfl rfl ?_
  intro fr E
  have M : Mem w0 (feet (dsk gd gm lv rv S)) (dsk gd gm lv rv S) (fun w' => Bytes w' b l) w0 := Mem.begin H (fun w' h => Reads.held hb h hap)
  refine code_region ?_
  refine sw E (run_assignC rfl) fun fr E => ?_
  refine seq_nil' ?_
  refine wp_seq ?_
  refine code_region ?_
  refine mv E fun fr E => ?_
  refine sw E (run_nilCheck rfl rfl) fun fr E => ?_
  refine sw (v := .pointer (some ⟨_, 4, none⟩)) E (run_fieldAddr rfl rfl T.fld71_4) fun fr E => ?_
  refine sw (v := .bool _) E (run_loadB rfl rfl T.one4 (M.row (i := 0) rfl) rfl) fun fr E => ?_
  refine seq_nil' ?_
  refine cond_true E rfl (h0) ?_
  refine code_region ?_
  refine sw E (run_assignC rfl) fun fr E => ?_
  refine seq_nil' ?_
  refine wp_ret ?_
  refine then_ret ?_
  refine ret1 E rfl rfl ?_
  exact ⟨(), rfl, M.fin (List.Sublist.refl _) trivial⟩

set_option maxRecDepth 100000 in
theorem Write_out {gd gm : Nat} {lv rv : Value} {S : Dsk} {w0 : World} (H : Has w0 (dsk gd gm lv rv S)) (hS : S.Ok) {i : Int} {b : Value} {l : List UInt8} (hb : Bytes w0 b l) (hap : ∀ g, b.ownBlock = some g → ¬ feet (dsk gd gm lv rv S) g) (h0 : S.off = false) (h : ¬ (0 ≤ i ∧ i < (S.n : Int))) : Does Tryz.prog 58 [.pointer (some ⟨gd, 0, none⟩), .int .i64 i, b] w0 (dsk gd gm lv rv S) (fun _ : Unit => .int .i64 7) (fun _ => dsk gd gm lv rv S) (fun _ => True) := by
  refine enter (n := 39) Tryz.func58 rfl rfl rfl ?_
  intro fr E
  have M : Mem w0 (feet (dsk gd gm lv rv S)) (dsk gd gm lv rv S) (fun w' => Bytes w' b l) w0 := Mem.begin H (fun w' h => Reads.held hb h hap)
  refine code_region ?_
  refine sw E (run_assignC rfl) fun fr E => ?_
  refine seq_nil' ?_
  refine wp_seq ?_
  refine code_region ?_
  refine mv E fun fr E => ?_
  refine sw E (run_nilCheck rfl rfl) fun fr E => ?_
  refine sw (v := .pointer (some ⟨_, 4, none⟩)) E (run_fieldAddr rfl rfl T.fld71_4) fun fr E => ?_
  refine sw (v := .bool _) E (run_loadB rfl rfl T.one4 (M.row (i := 0) rfl) rfl) fun fr E => ?_
  refine seq_nil' ?_
  refine cond_false E rfl (h0) ?_
  refine wp_skip ?_
  refine then_normal ?_
  refine wp_seq ?_
  refine code_region ?_
  refine mv E fun fr E => ?_
  refine mv E fun fr E => ?_
  refine mv E fun fr E => ?_
  refine scallI (dsk gd gm lv rv S) E M rfl rfl rfl rfl rfl (run_call rfl rfl T.fn31) rfl (fun H => wrong_out H hS M.fact hap h) ?_
  rintro _ fr w - M E
  refine ma E fun fr E => ?_
  refine seq_nil' ?_
  refine code_region ?_
  refine mv E fun fr E => ?_
  refine sw (v := .bool _) E (rfl) fun fr E => ?_
  refine seq_nil' ?_
  refine cond_true E rfl (rfl) ?_
  refine code_region ?_
  refine mv E fun fr E => ?_
  refine ma E fun fr E => ?_
  refine seq_nil' ?_
  refine wp_ret ?_
  refine then_ret ?_
  refine ret1 E rfl rfl ?_
  exact ⟨(), rfl, M.fin (List.Sublist.refl _) trivial⟩

set_option maxRecDepth 100000 in
theorem Write_long {gd gm : Nat} {lv rv : Value} {S : Dsk} {w0 : World} (H : Has w0 (dsk gd gm lv rv S)) (hS : S.Ok) {i : Int} {b : Value} {l : List UInt8} (hb : Bytes w0 b l) (hap : ∀ g, b.ownBlock = some g → ¬ feet (dsk gd gm lv rv S) g) (h0 : S.off = false) (h : 0 ≤ i ∧ i < (S.n : Int)) (hl : 1024 < l.length) : Does Tryz.prog 58 [.pointer (some ⟨gd, 0, none⟩), .int .i64 i, b] w0 (dsk gd gm lv rv S) (fun _ : Unit => .int .i64 3) (fun _ => dsk gd gm lv rv S) (fun _ => True) := by
  refine enter (n := 39) Tryz.func58 rfl rfl rfl ?_
  intro fr E
  have M : Mem w0 (feet (dsk gd gm lv rv S)) (dsk gd gm lv rv S) (fun w' => Bytes w' b l) w0 := Mem.begin H (fun w' h => Reads.held hb h hap)
  refine code_region ?_
  refine sw E (run_assignC rfl) fun fr E => ?_
  refine seq_nil' ?_
  refine wp_seq ?_
  refine code_region ?_
  refine mv E fun fr E => ?_
  refine sw E (run_nilCheck rfl rfl) fun fr E => ?_
  refine sw (v := .pointer (some ⟨_, 4, none⟩)) E (run_fieldAddr rfl rfl T.fld71_4) fun fr E => ?_
  refine sw (v := .bool _) E (run_loadB rfl rfl T.one4 (M.row (i := 0) rfl) rfl) fun fr E => ?_
  refine seq_nil' ?_
  refine cond_false E rfl (h0) ?_
  refine wp_skip ?_
  refine then_normal ?_
  refine wp_seq ?_
  refine code_region ?_
  refine mv E fun fr E => ?_
  refine mv E fun fr E => ?_
  refine mv E fun fr E => ?_
  refine scallI (dsk gd gm lv rv S) E M rfl rfl rfl rfl rfl (run_call rfl rfl T.fn31) rfl (fun H => wrong_long H hS M.fact hap h hl) ?_
  rintro _ fr w - M E
  refine ma E fun fr E => ?_
  refine seq_nil' ?_
  refine code_region ?_
  refine mv E fun fr E => ?_
  refine sw (v := .bool _) E (rfl) fun fr E => ?_
  refine seq_nil' ?_
  refine cond_true E rfl (rfl) ?_
  refine code_region ?_
  refine mv E fun fr E => ?_
  refine ma E fun fr E => ?_
  refine seq_nil' ?_
  refine wp_ret ?_
  refine then_ret ?_
  refine ret1 E rfl rfl ?_
  exact ⟨(), rfl, M.fin (List.Sublist.refl _) trivial⟩

set_option maxRecDepth 100000 in
theorem Write_fail {gd gm : Nat} {lv rv : Value} {S : Dsk} {w0 : World} (H : Has w0 (dsk gd gm lv rv S)) (hS : S.Ok) {i : Int} {b : Value} {l : List UInt8} (hb : Bytes w0 b l) (hap : ∀ g, b.ownBlock = some g → ¬ feet (dsk gd gm lv rv S) g) (h0 : S.off = false) (h : 0 ≤ i ∧ i < (S.n : Int)) (hl : ¬ 1024 < l.length) (ha : S.armed = true) (hl2 : S.left = 0) : Does Tryz.prog 58 [.pointer (some ⟨gd, 0, none⟩), .int .i64 i, b] w0 (dsk gd gm lv rv S) (fun _ : Unit => .int .i64 12) (fun _ => dsk gd gm lv rv { S with off := true }) (fun _ => True) := by
  refine enter (n := 39) Tryz.func58 rfl rfl rfl ?_
  intro fr E
  have M : Mem w0 (feet (dsk gd gm lv rv S)) (dsk gd gm lv rv S) (fun w' => Bytes w' b l) w0 := Mem.begin H (fun w' h => Reads.held hb h hap)
  refine code_region ?_
  refine sw E (run_assignC rfl) fun fr E => ?_
  refine seq_nil' ?_
  refine wp_seq ?_
  refine code_region ?_
  refine mv E fun fr E => ?_
  refine sw E (run_nilCheck rfl rfl) fun fr E => ?_
  refine sw (v := .pointer (some ⟨_, 4, none⟩)) E (run_fieldAddr rfl rfl T.fld71_4) fun fr E => ?_
  refine sw (v := .bool _) E (run_loadB rfl rfl T.one4 (M.row (i := 0) rfl) rfl) fun fr E => ?_
  refine seq_nil' ?_
  refine cond_false E rfl (h0) ?_
  refine wp_skip ?_
  refine then_normal ?_
  refine wp_seq ?_
  refine code_region ?_
  refine mv E fun fr E => ?_
  refine mv E fun fr E => ?_
  refine mv E fun fr E => ?_
  refine scallI (dsk gd gm lv rv S) E M rfl rfl rfl rfl rfl (run_call rfl rfl T.fn31) rfl (fun H => wrong_ok H hS M.fact hap h hl) ?_
  rintro _ fr w - M E
  refine ma E fun fr E => ?_
  refine seq_nil' ?_
  refine code_region ?_
  refine mv E fun fr E => ?_
  refine sw (v := .bool _) E (rfl) fun fr E => ?_
  refine seq_nil' ?_
  refine cond_false E rfl (rfl) ?_
  refine wp_skip ?_
  refine then_normal ?_
  refine wp_seq ?_
  refine code_region ?_
  refine mv E fun fr E => ?_
  refine scallI (dsk gd gm lv rv S) E M rfl rfl rfl rfl rfl (run_call rfl rfl T.fn61) rfl (fun H => Spend_fail H hS h0 ha hl2) ?_
  rintro _ fr w - M E
  refine ma E fun fr E => ?_
  refine seq_nil' ?_
  refine code_region ?_
  refine mv E fun fr E => ?_
  refine sw (v := .bool _) E (rfl) fun fr E => ?_
  refine seq_nil' ?_
  refine cond_true E rfl (rfl) ?_
  refine code_region ?_
  refine mv E fun fr E => ?_
  refine ma E fun fr E => ?_
  refine seq_nil' ?_
  refine wp_ret ?_
  refine then_ret ?_
  refine ret1 E rfl rfl ?_
  exact ⟨(), rfl, M.fin (List.Sublist.refl _) trivial⟩

set_option maxRecDepth 100000 in
theorem Write_ok_armed {gd gm : Nat} {lv rv : Value} {S : Dsk} {w0 : World} (H : Has w0 (dsk gd gm lv rv S)) (hS : S.Ok) {i : Int} {b : Value} {l : List UInt8} (hb : Bytes w0 b l) (hap : ∀ g, b.ownBlock = some g → ¬ feet (dsk gd gm lv rv S) g) (h0 : S.off = false) (h : 0 ≤ i ∧ i < (S.n : Int)) (hl : ¬ 1024 < l.length) (ha : S.armed = true) (hl2 : ¬ S.left = 0) : Does Tryz.prog 58 [.pointer (some ⟨gd, 0, none⟩), .int .i64 i, b] w0 (dsk gd gm lv rv S) (fun _ : Value => .int .i64 0) (fun v => dsk gd gm lv rv (S.wrote i v l)) (fun _ => True) := by
  refine enter (n := 39) Tryz.func58 rfl rfl rfl ?_
  intro fr E
  have M : Mem w0 (feet (dsk gd gm lv rv S)) (dsk gd gm lv rv S) (fun w' => Bytes w' b l) w0 := Mem.begin H (fun w' h => Reads.held hb h hap)
  refine code_region ?_
  refine sw E (run_assignC rfl) fun fr E => ?_
  refine seq_nil' ?_
  refine wp_seq ?_
  refine code_region ?_
  refine mv E fun fr E => ?_
  refine sw E (run_nilCheck rfl rfl) fun fr E => ?_
  refine sw (v := .pointer (some ⟨_, 4, none⟩)) E (run_fieldAddr rfl rfl T.fld71_4) fun fr E => ?_
  refine sw (v := .bool _) E (run_loadB rfl rfl T.one4 (M.row (i := 0) rfl) rfl) fun fr E => ?_
  refine seq_nil' ?_
  refine cond_false E rfl (h0) ?_
  refine wp_skip ?_
  refine then_normal ?_
  refine wp_seq ?_
  refine code_region ?_
  refine mv E fun fr E => ?_
  refine mv E fun fr E => ?_
  refine mv E fun fr E => ?_
  refine scallI (dsk gd gm lv rv S) E M rfl rfl rfl rfl rfl (run_call rfl rfl T.fn31) rfl (fun H => wrong_ok H hS M.fact hap h hl) ?_
  rintro _ fr w - M E
  refine ma E fun fr E => ?_
  refine seq_nil' ?_
  refine code_region ?_
  refine mv E fun fr E => ?_
  refine sw (v := .bool _) E (rfl) fun fr E => ?_
  refine seq_nil' ?_
  refine cond_false E rfl (rfl) ?_
  refine wp_skip ?_
  refine then_normal ?_
  refine wp_seq ?_
  refine code_region ?_
  refine mv E fun fr E => ?_
  refine scallI (dsk gd gm lv rv S) E M rfl rfl rfl rfl rfl (run_call rfl rfl T.fn61) rfl (fun H => Spend_armed H hS h0 ha hl2) ?_
  rintro _ fr w - M E
  refine ma E fun fr E => ?_
  refine seq_nil' ?_
  refine code_region ?_
  refine mv E fun fr E => ?_
  refine sw (v := .bool _) E (rfl) fun fr E => ?_
  refine seq_nil' ?_
  refine cond_false E rfl (rfl) ?_
  refine wp_skip ?_
  refine then_normal ?_
  refine wp_seq (free_last (B := T.tab58_9_b) (Vs := (.exact (.pointer (some ⟨gd, 0, none⟩)) :: .exact (.pointer (some ⟨gd, 0, none⟩)) :: .exact (.pointer (some ⟨gd, 1, none⟩)) :: .exact (.map (some gm)) :: .exact (.int .i64 i) :: .exact (b) :: CameV w.heap.size (fun v => [.bytes 5 v l]) (fun _ => True) :: [])) T.tab58_9_j 7 E T.mixed T.tab58_9 rfl rfl rfl (AllS.lasts ⟨trivial, trivial, trivial, trivial, trivial, trivial, LastsS.cameV, trivial⟩) ⟨fv rfl rfl (fun x w hx hk => run_move rfl rfl),
      fv rfl rfl (fun x w hx hk => run_nilCheck rfl rfl),
      fv rfl rfl (fun x w hx hk => run_fieldAddr rfl rfl T.fld71_1),
      fv rfl rfl (fun x w hx hk => run_loadB rfl rfl T.one69 ((M.ext ((Ext.drew _).trans hx)).row (i := 0) rfl) rfl),
      fv rfl rfl (fun x w hx hk => run_move rfl rfl),
      fv rfl rfl (fun x w hx hk => run_move rfl rfl),
      fs_ext rfl rfl (fun x w hx hk => ⟨_, _, rfl, rfl, rfl, run_call rfl rfl T.fn32, (Clone_x (M.ext ((Ext.drew _).trans hx)).fact (by omega)).extV hx.size⟩), trivial⟩ ?_)
  intro x fr w hx hk E
  have M := M.adopts hx (hk 6 (by decide)).1 (hk 6 (by decide)).2.1
  refine last_map (i := 3) E M rfl rfl rfl rfl rfl rfl rfl rfl rfl rfl T.map69 fun fr w M E => ?_
  refine then_normal ?_
  refine code_region ?_
  refine mv E fun fr E => ?_
  refine sw E (run_nilCheck rfl rfl) fun fr E => ?_
  refine sw (v := .pointer (some ⟨_, 5, none⟩)) E (run_fieldAddr rfl rfl T.fld71_5) fun fr E => ?_
  refine sw (v := .int .i64 _) E (run_loadB rfl rfl T.one3 (M.row (i := 1) rfl) rfl) fun fr E => ?_
  refine sw (v := .int _ (w64 (S.writes + 1))) E (num rfl (rfl)) fun fr E => ?_
  refine sw E (run_nilCheck rfl rfl) fun fr E => ?_
  refine sw (v := .pointer (some ⟨_, 5, none⟩)) E (run_fieldAddr rfl rfl T.fld71_5) fun fr E => ?_
  refine sset (i := 1) (cs' := #[_, _, _, _, _, _, _]) E M rfl rfl rfl rfl rfl (run_store1' (v := _) rfl rfl rfl T.size3 (M.row (i := 1) rfl) (rfl) (rfl) (rfl)) rfl fun fr w M E => ?_
  refine seq_nil' ?_
  refine code_region ?_
  refine sw E (run_assignC rfl) fun fr E => ?_
  refine seq_nil' ?_
  refine wp_ret ?_
  refine ret1 E rfl rfl ?_
  have M := (M.pull 5 rfl).pull 1 rfl
  have M := M.pour.perm (L' := dsk gd gm lv rv (S.wrote i _ l)) (perm5 _ _ _ _ _)
  exact ⟨_, rfl, M.fin (List.Sublist.refl _) trivial⟩

set_option maxRecDepth 100000 in
theorem Write_ok_free {gd gm : Nat} {lv rv : Value} {S : Dsk} {w0 : World} (H : Has w0 (dsk gd gm lv rv S)) (hS : S.Ok) {i : Int} {b : Value} {l : List UInt8} (hb : Bytes w0 b l) (hap : ∀ g, b.ownBlock = some g → ¬ feet (dsk gd gm lv rv S) g) (h0 : S.off = false) (h : 0 ≤ i ∧ i < (S.n : Int)) (hl : ¬ 1024 < l.length) (ha : S.armed = false) : Does Tryz.prog 58 [.pointer (some ⟨gd, 0, none⟩), .int .i64 i, b] w0 (dsk gd gm lv rv S) (fun _ : Value => .int .i64 0) (fun v => dsk gd gm lv rv (S.wrote i v l)) (fun _ => True) := by
  refine enter (n := 39) Tryz.func58 rfl rfl rfl ?_
  intro fr E
  have M : Mem w0 (feet (dsk gd gm lv rv S)) (dsk gd gm lv rv S) (fun w' => Bytes w' b l) w0 := Mem.begin H (fun w' h => Reads.held hb h hap)
  refine code_region ?_
  refine sw E (run_assignC rfl) fun fr E => ?_
  refine seq_nil' ?_
  refine wp_seq ?_
  refine code_region ?_
  refine mv E fun fr E => ?_
  refine sw E (run_nilCheck rfl rfl) fun fr E => ?_
  refine sw (v := .pointer (some ⟨_, 4, none⟩)) E (run_fieldAddr rfl rfl T.fld71_4) fun fr E => ?_
  refine sw (v := .bool _) E (run_loadB rfl rfl T.one4 (M.row (i := 0) rfl) rfl) fun fr E => ?_
  refine seq_nil' ?_
  refine cond_false E rfl (h0) ?_
  refine wp_skip ?_
  refine then_normal ?_
  refine wp_seq ?_
  refine code_region ?_
  refine mv E fun fr E => ?_
  refine mv E fun fr E => ?_
  refine mv E fun fr E => ?_
  refine scallI (dsk gd gm lv rv S) E M rfl rfl rfl rfl rfl (run_call rfl rfl T.fn31) rfl (fun H => wrong_ok H hS M.fact hap h hl) ?_
  rintro _ fr w - M E
  refine ma E fun fr E => ?_
  refine seq_nil' ?_
  refine code_region ?_
  refine mv E fun fr E => ?_
  refine sw (v := .bool _) E (rfl) fun fr E => ?_
  refine seq_nil' ?_
  refine cond_false E rfl (rfl) ?_
  refine wp_skip ?_
  refine then_normal ?_
  refine wp_seq ?_
  refine code_region ?_
  refine mv E fun fr E => ?_
  refine scallI (dsk gd gm lv rv S) E M rfl rfl rfl rfl rfl (run_call rfl rfl T.fn61) rfl (fun H => Spend_free H hS h0 ha) ?_
  rintro _ fr w - M E
  refine ma E fun fr E => ?_
  refine seq_nil' ?_
  refine code_region ?_
  refine mv E fun fr E => ?_
  refine sw (v := .bool _) E (rfl) fun fr E => ?_
  refine seq_nil' ?_
  refine cond_false E rfl (rfl) ?_
  refine wp_skip ?_
  refine then_normal ?_
  refine wp_seq (free_last (B := T.tab58_9_b) (Vs := (.exact (.pointer (some ⟨gd, 0, none⟩)) :: .exact (.pointer (some ⟨gd, 0, none⟩)) :: .exact (.pointer (some ⟨gd, 1, none⟩)) :: .exact (.map (some gm)) :: .exact (.int .i64 i) :: .exact (b) :: CameV w.heap.size (fun v => [.bytes 5 v l]) (fun _ => True) :: [])) T.tab58_9_j 7 E T.mixed T.tab58_9 rfl rfl rfl (AllS.lasts ⟨trivial, trivial, trivial, trivial, trivial, trivial, LastsS.cameV, trivial⟩) ⟨fv rfl rfl (fun x w hx hk => run_move rfl rfl),
      fv rfl rfl (fun x w hx hk => run_nilCheck rfl rfl),
      fv rfl rfl (fun x w hx hk => run_fieldAddr rfl rfl T.fld71_1),
      fv rfl rfl (fun x w hx hk => run_loadB rfl rfl T.one69 ((M.ext ((Ext.drew _).trans hx)).row (i := 0) rfl) rfl),
      fv rfl rfl (fun x w hx hk => run_move rfl rfl),
      fv rfl rfl (fun x w hx hk => run_move rfl rfl),
      fs_ext rfl rfl (fun x w hx hk => ⟨_, _, rfl, rfl, rfl, run_call rfl rfl T.fn32, (Clone_x (M.ext ((Ext.drew _).trans hx)).fact (by omega)).extV hx.size⟩), trivial⟩ ?_)
  intro x fr w hx hk E
  have M := M.adopts hx (hk 6 (by decide)).1 (hk 6 (by decide)).2.1
  refine last_map (i := 3) E M rfl rfl rfl rfl rfl rfl rfl rfl rfl rfl T.map69 fun fr w M E => ?_
  refine then_normal ?_
  refine code_region ?_
  refine mv E fun fr E => ?_
  refine sw E (run_nilCheck rfl rfl) fun fr E => ?_
  refine sw (v := .pointer (some ⟨_, 5, none⟩)) E (run_fieldAddr rfl rfl T.fld71_5) fun fr E => ?_
  refine sw (v := .int .i64 _) E (run_loadB rfl rfl T.one3 (M.row (i := 1) rfl) rfl) fun fr E => ?_
  refine sw (v := .int _ (w64 (S.writes + 1))) E (num rfl (rfl)) fun fr E => ?_
  refine sw E (run_nilCheck rfl rfl) fun fr E => ?_
  refine sw (v := .pointer (some ⟨_, 5, none⟩)) E (run_fieldAddr rfl rfl T.fld71_5) fun fr E => ?_
  refine sset (i := 1) (cs' := #[_, _, _, _, _, _, _]) E M rfl rfl rfl rfl rfl (run_store1' (v := _) rfl rfl rfl T.size3 (M.row (i := 1) rfl) (rfl) (rfl) (rfl)) rfl fun fr w M E => ?_
  refine seq_nil' ?_
  refine code_region ?_
  refine sw E (run_assignC rfl) fun fr E => ?_
  refine seq_nil' ?_
  refine wp_ret ?_
  refine ret1 E rfl rfl ?_
  have M := (M.pull 5 rfl).pull 1 rfl
  have M := M.pour.perm (L' := dsk gd gm lv rv (S.wrote i _ l)) (perm5 _ _ _ _ _)
  exact ⟨_, rfl, M.fin (List.Sublist.refl _) trivial⟩

set_option maxRecDepth 100000 in
theorem Read_cached {gd gm : Nat} {lv rv : Value} {S : Dsk} {w0 : World} (H : Has w0 (dsk gd gm lv rv S)) (hS : S.Ok) {j : Nat} {v : Value} {l : List UInt8} (hj : j < S.n) (hp : (v, l) ∈ S.ps) (hl : l.length ≤ 1024) (hc : iget S.cache (j : Int) = some v) : Does Tryz.prog 21 [.pointer (some ⟨gd, 0, none⟩), .int .i64 (j : Int)] w0 (dsk gd gm lv rv S) (fun c : Value => .tuple #[c, .int .i64 0]) (fun c => .bytes 5 c l :: dsk gd gm lv rv { S with reads := S.reads.set j (w64 ((S.reads[j]'(by rw [hS.rlen]; exact hj)) + 1)) }) (fun _ => True) := by
  refine enter (n := 41) Tryz.func21 rfl rfl rfl ?_
  intro fr E
  have M : Mem w0 (feet (dsk gd gm lv rv S)) (dsk gd gm lv rv S) (fun _ => True) w0 := Mem.begin H (fun _ _ => trivial)
  refine code_region ?_
  refine sw E (run_assignC rfl) fun fr E => ?_
  refine sw E (run_assignC rfl) fun fr E => ?_
  refine seq_nil' ?_
  refine wp_seq ?_
  refine code_region ?_
  refine mv E fun fr E => ?_
  refine mv E fun fr E => ?_
  refine scallI (dsk gd gm lv rv S) E M rfl rfl rfl rfl rfl (run_call rfl rfl T.fn43) rfl (fun H => there_x H hS j) ?_
  rintro _ fr w - M E
  rw [decide_eq_true (by omega)] at E
  refine sw (v := .bool _) E (rfl) fun fr E => ?_
  refine seq_nil' ?_
  refine cond_false E rfl (rfl) ?_
  refine wp_skip ?_
  refine then_normal ?_
  refine code_region ?_
  refine mv E fun fr E => ?_
  refine sw E (run_nilCheck rfl rfl) fun fr E => ?_
  refine sw (v := .pointer (some ⟨_, 6, none⟩)) E (run_fieldAddr rfl rfl T.fld71_6) fun fr E => ?_
  refine sw E (run_loadB rfl rfl T.one33 (M.row (i := 0) rfl) rfl) fun fr E => ?_
  refine mv E fun fr E => ?_
  refine sw E (run_indexR (i := j) rfl (M.reads 3 rfl) rfl rfl (rfl) (hj) T.slice33 T.size3) fun fr E => ?_
  refine sw (v := .int .i64 (S.reads[j]'(by rw [hS.rlen]; exact hj))) E (run_loadR rfl (M.reads 3 rfl) rfl T.one3 (by rw [Nat.mul_one]; exact ic_get (by rw [hS.rlen]; exact hj))) fun fr E => ?_
  refine sw (v := .int _ (w64 ((S.reads[j]'(by rw [hS.rlen]; exact hj)) + 1))) E (num rfl (rfl)) fun fr E => ?_
  refine sw E (run_indexR (i := j) rfl (M.reads 3 rfl) rfl rfl (rfl) (hj) T.slice33 T.size3) fun fr E => ?_
  refine ssetR (i := 3) (k := (j * 1)) (xs' := ic (S.reads.set j (w64 ((S.reads[j]'(by rw [hS.rlen]; exact hj)) + 1)))) E M rfl rfl rfl rfl rfl rfl rfl rfl T.size3 (by omega) rfl (ic_set _ _ _) fun fr w M E => ?_
  refine seq_nil' ?_
  refine wp_seq ?_
  refine code_region ?_
  refine mv E fun fr E => ?_
  refine sw E (run_nilCheck rfl rfl) fun fr E => ?_
  refine sw (v := .pointer (some ⟨_, 1, none⟩)) E (run_fieldAddr rfl rfl T.fld71_1) fun fr E => ?_
  refine sw (v := .map _) E (run_loadB rfl rfl T.one69 (M.row (i := 0) rfl) rfl) fun fr E => ?_
  refine mv E fun fr E => ?_
  refine sw (v := .tuple #[v, .bool true]) E (run_lookupI (v := v) (b := true) rfl rfl rfl T.map69 T.zero36 (M.row (i := 2) rfl) (by rw [hc])) fun fr E => ?_
  refine mv E fun fr E => ?_
  refine sw E (run_extract rfl rfl rfl) fun fr E => ?_
  refine sw E (run_extract rfl rfl rfl) fun fr E => ?_
  refine ma E fun fr E => ?_
  refine ma E fun fr E => ?_
  refine seq_nil' ?_
  refine code_region ?_
  refine mv E fun fr E => ?_
  refine seq_nil' ?_
  refine cond_true E rfl (rfl) ?_
  refine code_region ?_
  refine mv E fun fr E => ?_
  refine scall E M rfl rfl rfl rfl rfl (run_call rfl rfl T.fn32) (Clone_x (b := v) (l := l) (M.pooled (i := 4) rfl hp) (by omega)) rfl ?_
  rintro cl fr w - M E
  refine ma E fun fr E => ?_
  refine sw E (run_assignC rfl) fun fr E => ?_
  refine seq_nil' ?_
  refine wp_ret ?_
  refine then_ret ?_
  refine ret2 E rfl rfl rfl ?_
  exact ⟨_, rfl, M.fin (List.Sublist.refl _) trivial⟩

set_option maxRecDepth 100000 in
theorem Read_lasts {gd gm : Nat} {lv rv : Value} {S : Dsk} {w0 : World} (H : Has w0 (dsk gd gm lv rv S)) (hS : S.Ok) {j : Nat} {v : Value} {l : List UInt8} (hj : j < S.n) (hp : (v, l) ∈ S.ps) (hl : l.length ≤ 1024) (hc : iget S.cache (j : Int) = none) (hv : S.lasts[j]? = some v) : Does Tryz.prog 21 [.pointer (some ⟨gd, 0, none⟩), .int .i64 (j : Int)] w0 (dsk gd gm lv rv S) (fun c : Value => .tuple #[c, .int .i64 0]) (fun c => .bytes 5 c l :: dsk gd gm lv rv { S with reads := S.reads.set j (w64 ((S.reads[j]'(by rw [hS.rlen]; exact hj)) + 1)) }) (fun _ => True) := by
  refine enter (n := 41) Tryz.func21 rfl rfl rfl ?_
  intro fr E
  have M : Mem w0 (feet (dsk gd gm lv rv S)) (dsk gd gm lv rv S) (fun _ => True) w0 := Mem.begin H (fun _ _ => trivial)
  refine code_region ?_
  refine sw E (run_assignC rfl) fun fr E => ?_
  refine sw E (run_assignC rfl) fun fr E => ?_
  refine seq_nil' ?_
  refine wp_seq ?_
  refine code_region ?_
  refine mv E fun fr E => ?_
  refine mv E fun fr E => ?_
  refine scallI (dsk gd gm lv rv S) E M rfl rfl rfl rfl rfl (run_call rfl rfl T.fn43) rfl (fun H => there_x H hS j) ?_
  rintro _ fr w - M E
  rw [decide_eq_true (by omega)] at E
  refine sw (v := .bool _) E (rfl) fun fr E => ?_
  refine seq_nil' ?_
  refine cond_false E rfl (rfl) ?_
  refine wp_skip ?_
  refine then_normal ?_
  refine code_region ?_
  refine mv E fun fr E => ?_
  refine sw E (run_nilCheck rfl rfl) fun fr E => ?_
  refine sw (v := .pointer (some ⟨_, 6, none⟩)) E (run_fieldAddr rfl rfl T.fld71_6) fun fr E => ?_
  refine sw E (run_loadB rfl rfl T.one33 (M.row (i := 0) rfl) rfl) fun fr E => ?_
  refine mv E fun fr E => ?_
  refine sw E (run_indexR (i := j) rfl (M.reads 3 rfl) rfl rfl (rfl) (hj) T.slice33 T.size3) fun fr E => ?_
  refine sw (v := .int .i64 (S.reads[j]'(by rw [hS.rlen]; exact hj))) E (run_loadR rfl (M.reads 3 rfl) rfl T.one3 (by rw [Nat.mul_one]; exact ic_get (by rw [hS.rlen]; exact hj))) fun fr E => ?_
  refine sw (v := .int _ (w64 ((S.reads[j]'(by rw [hS.rlen]; exact hj)) + 1))) E (num rfl (rfl)) fun fr E => ?_
  refine sw E (run_indexR (i := j) rfl (M.reads 3 rfl) rfl rfl (rfl) (hj) T.slice33 T.size3) fun fr E => ?_
  refine ssetR (i := 3) (k := (j * 1)) (xs' := ic (S.reads.set j (w64 ((S.reads[j]'(by rw [hS.rlen]; exact hj)) + 1)))) E M rfl rfl rfl rfl rfl rfl rfl rfl T.size3 (by omega) rfl (ic_set _ _ _) fun fr w M E => ?_
  refine seq_nil' ?_
  refine wp_seq ?_
  refine code_region ?_
  refine mv E fun fr E => ?_
  refine sw E (run_nilCheck rfl rfl) fun fr E => ?_
  refine sw (v := .pointer (some ⟨_, 1, none⟩)) E (run_fieldAddr rfl rfl T.fld71_1) fun fr E => ?_
  refine sw (v := .map _) E (run_loadB rfl rfl T.one69 (M.row (i := 0) rfl) rfl) fun fr E => ?_
  refine mv E fun fr E => ?_
  refine sw (v := .tuple #[.slice none 0 0, .bool false]) E (run_lookupI (v := .slice none 0 0) (b := false) rfl rfl rfl T.map69 T.zero36 (M.row (i := 2) rfl) (by rw [hc])) fun fr E => ?_
  refine mv E fun fr E => ?_
  refine sw E (run_extract rfl rfl rfl) fun fr E => ?_
  refine sw E (run_extract rfl rfl rfl) fun fr E => ?_
  refine ma E fun fr E => ?_
  refine ma E fun fr E => ?_
  refine seq_nil' ?_
  refine code_region ?_
  refine mv E fun fr E => ?_
  refine seq_nil' ?_
  refine cond_false E rfl (rfl) ?_
  refine wp_skip ?_
  refine then_normal ?_
  refine code_region ?_
  refine mv E fun fr E => ?_
  refine sw E (run_nilCheck rfl rfl) fun fr E => ?_
  refine sw (v := .pointer (some ⟨_, 0, none⟩)) E (run_fieldAddr rfl rfl T.fld71_0) fun fr E => ?_
  refine sw E (run_loadB rfl rfl T.one68 (M.row (i := 0) rfl) rfl) fun fr E => ?_
  refine mv E fun fr E => ?_
  refine sw E (run_indexR (i := j) rfl (M.reads 1 rfl) rfl rfl (rfl) (hj) T.slice68 T.size36) fun fr E => ?_
  refine sw (v := v) E (run_loadR rfl (M.reads 1 rfl) rfl T.one36 (by rw [Nat.mul_one]; exact hv)) fun fr E => ?_
  refine scall E M rfl rfl rfl rfl rfl (run_call rfl rfl T.fn32) (Clone_x (b := v) (l := l) (M.pooled (i := 4) rfl hp) (by omega)) rfl ?_
  rintro cl fr w - M E
  refine ma E fun fr E => ?_
  refine sw E (run_assignC rfl) fun fr E => ?_
  refine seq_nil' ?_
  refine wp_ret ?_
  refine ret2 E rfl rfl rfl ?_
  exact ⟨_, rfl, M.fin (List.Sublist.refl _) trivial⟩
end Go.Proofs.YtnebjbgcibjohaaGreat.K
end
section
namespace Go.Proofs.YtnebjbgcibjohaaGreat.K
open Go.RowKit Go.Rill Go.Proofs
set_option linter.unusedVariables false
set_option linter.unusedSimpArgs false
/-- The first so many of these, one behind the other. -/
def pl (ps : List (Value × List UInt8)) (i : Nat) : List UInt8 := ((ps.take i).map (·.2)).flatten
theorem pl_step {ps : List (Value × List UInt8)} {i : Nat} (h : i < ps.length) : pl ps (i + 1) = pl ps i ++ (ps[i]).2 := by
  unfold pl
  rw [List.take_succ_eq_append_getElem h, List.map_append, List.flatten_append]
  simp
theorem pl_len {ps : List (Value × List UInt8)} {i : Nat} (h : i < ps.length) : (pl ps (i + 1)).length = (pl ps i).length + (ps[i]).2.length := by rw [pl_step h, List.length_append]
theorem pl_le {ps : List (Value × List UInt8)} : ∀ (j i : Nat), i + j ≤ ps.length → (pl ps i).length ≤ (pl ps (i + j)).length
  | 0, i, _ => Nat.le_refl _
  | j + 1, i, h => Nat.le_trans (pl_le j i (by omega)) (by rw [show i + (j + 1) = i + j + 1 by omega, pl_len (by omega)]; omega)
theorem pl_mono {ps : List (Value × List UInt8)} {i : Nat} (h : i < ps.length) : (pl ps (i + 1)).length ≤ (pl ps ps.length).length := by
  have := pl_le (ps := ps) (ps.length - (i + 1)) (i + 1) (by omega)
  rwa [show i + 1 + (ps.length - (i + 1)) = ps.length by omega] at this
theorem tmod_bounds (k : Int) {m : Int} (h : 0 < m) : -m < k.tmod m ∧ k.tmod m < m := by
  have h1 := Int.tmod_lt_of_pos k h
  have h2 := Int.tmod_lt_of_pos (-k) h
  rw [Int.neg_tmod] at h2
  omega
theorem run_remK {P : Program} {ρ : Operand → Value} {o : Oper} {w : World} {t t' : TypeId} {X Y : Operand} {x y : Int} (ho : o.op = .binOp .rem t X Y t') (hX : ρ X = .int .i64 x) (hY : ρ Y = .int .i64 y) (h0 : y ≠ 0) (h1 : 0 < y) : (execOp ρ o).run P w = .ok (.value (.int .i64 (x.tmod y))) w := by
  have hg : (eqGuard .rem t X Y (.int .i64 x) (.int .i64 y)).run P w = .ok () w := rfl
  have hb : (binOp .rem t (.int .i64 x) (.int .i64 y)).run P w = .ok (.int .i64 (x.tmod y)) w := by
    simp [binOp, Op.intDiv, h0]
  simp only [execOp, ho, hX, hY, Sem.run_bind, hg, Result.andThen_ok, hb]
  rfl
set_option maxRecDepth 100000 in
theorem Grow_0 (w0 : World) : Does Tryz.prog 138 [.slice none 0 0, .int .i64 0] w0 [] (fun s : Value => s) (fun s => [.bytes 5 s []]) (fun _ => True) := by
  refine enter (n := 27) Tryz.func138 rfl rfl rfl ?_
  intro fr E
  have M : Mem w0 (feet []) [] (fun _ => True) w0 := Mem.begin (Has.nil w0) (fun _ _ => trivial)
  refine code_region ?_
  refine sw E (run_assignC rfl) fun fr E => ?_
  refine seq_nil' ?_
  refine wp_seq ?_
  refine code_region ?_
  refine mv E fun fr E => ?_
  refine sw (v := .bool false) E (tst rfl (decide_eq_false (by omega))) fun fr E => ?_
  refine seq_nil' ?_
  refine cond_false E rfl (rfl) ?_
  refine wp_skip ?_
  refine then_normal ?_
  refine wp_seq ?_
  refine code_region ?_
  refine mv E fun fr E => ?_
  refine mv E fun fr E => ?_
  refine sw (v := .int .i64 0) E (run_capNil rfl rfl rfl rfl T.slice36) fun fr E => ?_
  refine mv E fun fr E => ?_
  refine sw (v := .int .i64 _) E (run_lenR rfl rfl rfl rfl T.slice36 (Bytes.nil _)) fun fr E => ?_
  refine sw (v := .int _ (0)) E (num rfl (rfl)) fun fr E => ?_
  refine sw (v := .int _ (0)) E (num rfl (rfl)) fun fr E => ?_
  refine ma E fun fr E => ?_
  refine seq_nil' ?_
  refine code_region ?_
  refine mv E fun fr E => ?_
  refine sw (v := .bool false) E (tst rfl (decide_eq_false (by omega))) fun fr E => ?_
  refine seq_nil' ?_
  refine cond_false E rfl (rfl) ?_
  refine wp_skip ?_
  refine then_normal ?_
  refine code_region ?_
  refine mv E fun fr E => ?_
  refine ma E fun fr E => ?_
  refine seq_nil' ?_
  refine wp_ret ?_
  refine ret1 E rfl rfl ?_
  have M := M.nilRow 5
  exact ⟨_, rfl, M.fin (.refl _) trivial⟩

set_option maxRecDepth 100000 in
theorem Grow_m {m : Nat} {w0 : World} (h0 : 0 < m) (hz : m ≤ 35184372088832) : Does Tryz.prog 138 [.slice none 0 0, .int .i64 (m : Int)] w0 [] (fun s : Value => s) (fun s => [.bytes 5 s []]) (fun _ => True) := by
  refine enter (n := 27) Tryz.func138 rfl rfl rfl ?_
  intro fr E
  have M : Mem w0 (feet []) [] (fun _ => True) w0 := Mem.begin (Has.nil w0) (fun _ _ => trivial)
  refine code_region ?_
  refine sw E (run_assignC rfl) fun fr E => ?_
  refine seq_nil' ?_
  refine wp_seq ?_
  refine code_region ?_
  refine mv E fun fr E => ?_
  refine sw (v := .bool false) E (tst rfl (decide_eq_false (by omega))) fun fr E => ?_
  refine seq_nil' ?_
  refine cond_false E rfl (rfl) ?_
  refine wp_skip ?_
  refine then_normal ?_
  refine wp_seq ?_
  refine code_region ?_
  refine mv E fun fr E => ?_
  refine mv E fun fr E => ?_
  refine sw (v := .int .i64 0) E (run_capNil rfl rfl rfl rfl T.slice36) fun fr E => ?_
  refine mv E fun fr E => ?_
  refine sw (v := .int .i64 _) E (run_lenR rfl rfl rfl rfl T.slice36 (Bytes.nil _)) fun fr E => ?_
  refine sw (v := .int _ (0)) E (num rfl (rfl)) fun fr E => ?_
  refine sw (v := .int _ ((m : Int))) E (num rfl (i64_id (x := (m : Int) - 0) (by omega) (by omega) |>.trans (by omega))) fun fr E => ?_
  refine ma E fun fr E => ?_
  refine seq_nil' ?_
  refine code_region ?_
  refine mv E fun fr E => ?_
  refine sw (v := .bool true) E (tst rfl (decide_eq_true (by omega))) fun fr E => ?_
  refine seq_nil' ?_
  refine cond_true E rfl (rfl) ?_
  refine code_last ?_
  refine mv E fun fr E => ?_
  refine mv E fun fr E => ?_
  refine sw (v := .int .i64 0) E (run_capNil rfl rfl rfl rfl T.slice36) fun fr E => ?_
  refine sw E (run_sliceR (lo := 0) (hi := 0) rfl (Bytes.nil _) rfl T.slice36 T.size5 (rfl) (⟨_, _, rfl, rfl⟩) (Nat.le_refl _) (Nat.le_refl _)) fun fr E => ?_
  refine mv E fun fr E => ?_
  refine sappzB (m := m) E M rfl rfl rfl rfl rfl rfl rfl rfl rfl rfl rfl T.slice36 T.intT T.zt5 T.zc5 T.by5 h0 (by omega) fun z fr w M E => ?_
  refine mv E fun fr E => ?_
  refine sw (v := .int .i64 _) E (run_lenR rfl rfl rfl rfl T.slice36 (Bytes.nil _)) fun fr E => ?_
  refine sw E (run_sliceR (lo := 0) (hi := 0) rfl (M.reads 0 rfl) rfl T.slice36 T.size5 rfl ⟨_, _, rfl, rfl⟩ (Nat.le_refl _) (Nat.zero_le _)) fun fr E => ?_
  refine ma E fun fr E => ?_
  refine seq_nil ?_
  refine then_normal ?_
  refine code_region ?_
  refine mv E fun fr E => ?_
  refine ma E fun fr E => ?_
  refine seq_nil' ?_
  refine wp_ret ?_
  refine ret1 E rfl rfl ?_
  have M := (M.cutRow 0 0 rfl (Nat.zero_le _)).as (L' := [.bytes 5 (cutV 1 z 0 0) []]) rfl
  exact ⟨_, rfl, M.fin (.refl _) trivial⟩

theorem Grow_x (m : Nat) (w0 : World) (hz : m ≤ 35184372088832) : Does Tryz.prog 138 [.slice none 0 0, .int .i64 (m : Int)] w0 [] (fun s : Value => s) (fun s => [.bytes 5 s []]) (fun _ => True) := by
  rcases Nat.eq_zero_or_pos m with rfl | h
  · exact Grow_0 w0
  · exact Grow_m h hz

set_option maxRecDepth 100000 in
theorem Concat_x {b : Value} {ps : List (Value × List UInt8)} {w0 : World} (hr : Reads 1 w0 b ps.length (ps.map (·.1))) (hb : ∀ p ∈ ps, Bytes w0 p.1 p.2) (hn : ps.length ≤ 1000) (hz : (pl ps ps.length).length ≤ 35184372088832) : Does Tryz.prog 135 [b] w0 [] (fun s : Value => s) (fun s => [.bytes 5 s (pl ps ps.length)]) (fun _ => True) := by
  refine enter (n := 36) Tryz.func135 rfl rfl rfl ?_
  intro fr E
  have M : Mem w0 (feet []) [] (fun w' => Reads 1 w' b ps.length (ps.map (·.1)) ∧ ∀ p ∈ ps, Bytes w' p.1 p.2) w0 := Mem.begin (Has.nil w0) (fun w' h => ⟨hr.held0 h, fun p hp => (hb p hp).held0 h⟩)
  refine code_region ?_
  refine sw E (run_assignC rfl) fun fr E => ?_
  refine seq_nil' ?_
  refine code_region ?_
  refine sw E (run_assignC rfl) fun fr E => ?_
  refine seq_nil' ?_
  refine wp_seq ?_
  refine code_region ?_
  refine mv E fun fr E => ?_
  refine sw (v := .int .i64 _) E (run_lenR rfl rfl rfl rfl T.slice68 M.fact.1) fun fr E => ?_
  refine sw E (run_moveC rfl) fun fr E => ?_
  refine seq_nil' ?_
  refine wp_block ?_
  refine loop_dec (fun d fr w => ∃ i : Nat, d = ps.length - i ∧ i ≤ ps.length ∧ Env [(11, .int .i64 i), (10, .int .i64 ps.length), (9, b), (3, .int .i64 ((pl ps i).length : Int)), (0, b)] 36 fr ∧ Mem w0 (feet []) [] (fun w' => Reads 1 w' b ps.length (ps.map (·.1)) ∧ ∀ p ∈ ps, Bytes w' p.1 p.2) w) (ps.length) ?_ ?_
  · refine ⟨0, rfl, Nat.zero_le _, (((((Env.nil E).add E (t := 0) rfl).add E (t := 3) rfl).add E (t := 9) rfl).add E (t := 10) rfl).add E (t := 11) rfl, M⟩
  · clear E M
    rintro d fr w ⟨i, rfl, hle, E, M⟩
    by_cases hi : i < ps.length
    · have hm := pl_mono (ps := ps) hi
      refine code_region ?_
      refine sw (v := .bool true) E (tst rfl (decide_eq_true (by omega))) fun fr E => ?_
      refine seq_nil' ?_
      refine wp_seq ?_
      refine cond_true E rfl (rfl) ?_
      refine wp_skip ?_
      refine then_normal ?_
      refine wp_seq ?_
      refine wp_block ?_
      refine code_region ?_
      refine sw E (run_indexR (i := i) rfl M.fact.1 rfl rfl (rfl) (hi) T.slice68 T.size36) fun fr E => ?_
      refine sw (v := (ps[i]).1) E (run_loadR rfl M.fact.1 rfl T.one36 (by rw [Nat.mul_one, List.getElem?_map, List.getElem?_eq_getElem hi]; rfl)) fun fr E => ?_
      refine ma E fun fr E => ?_
      refine seq_nil' ?_
      refine code_region ?_
      refine mv E fun fr E => ?_
      refine mv E fun fr E => ?_
      refine sw (v := .int .i64 _) E (run_lenR rfl rfl rfl rfl T.slice36 (M.fact.2 _ (List.getElem_mem hi))) fun fr E => ?_
      refine sw (v := .int _ (((pl ps (i + 1)).length : Int))) E (num rfl ((i64_id (by have := pl_len hi; omega) (by have := pl_len hi; omega)).trans (by have := pl_len hi; omega))) fun fr E => ?_
      refine ma E fun fr E => ?_
      refine seq_nil' ?_
      refine code_region ?_
      refine mv E fun fr E => ?_
      refine sw (v := .bool false) E (tst rfl (decide_eq_false (by omega))) fun fr E => ?_
      refine seq_nil' ?_
      refine cond_false E rfl (rfl) ?_
      refine wp_skip ?_
      refine block_normal ?_
      refine then_normal ?_
      refine code_last ?_
      refine sw (v := .int _ (((i + 1 : Nat) : Int))) E (num rfl ((i64_id (by omega) (by omega)).trans (by omega))) fun fr E => ?_
      refine mv E fun fr E => ?_
      refine seq_nil ?_
      refine then_any ?_
      refine ⟨ps.length - (i + 1), by omega, i + 1, rfl, by omega, (((((Env.nil E).add E (t := 0) rfl).add E (t := 3) rfl).add E (t := 9) rfl).add E (t := 10) rfl).add E (t := 11) rfl, M⟩
    · obtain rfl : i = ps.length := by omega
      refine code_region ?_
      refine sw (v := .bool false) E (tst rfl (decide_eq_false (by omega))) fun fr E => ?_
      refine seq_nil' ?_
      refine wp_seq ?_
      refine cond_false E rfl (rfl) ?_
      refine wp_exit ?_
      refine then_exit ?_
      refine then_exit ?_
      refine block_exit ?_
      refine then_normal ?_
      refine code_region ?_
      refine mv E fun fr E => ?_
      refine scall E M rfl rfl rfl rfl rfl (run_call rfl rfl T.fn138) (Grow_x _ _ hz) rfl ?_
      rintro gv fr w - M E
      refine ma E fun fr E => ?_
      refine seq_nil' ?_
      refine wp_seq ?_
      refine code_region ?_
      refine mv E fun fr E => ?_
      refine sw (v := .int .i64 _) E (run_lenR rfl rfl rfl rfl T.slice68 M.fact.1) fun fr E => ?_
      refine sw E (run_moveC rfl) fun fr E => ?_
      refine seq_nil' ?_
      refine wp_block ?_
      refine loop_dec (fun d fr w => ∃ (i : Nat) (v : Value), d = ps.length - i ∧ i ≤ ps.length ∧ Env [(27, .int .i64 i), (26, .int .i64 ps.length), (25, b), (6, v), (0, b)] 36 fr ∧ Mem w0 (feet []) [.bytes 5 v (pl ps i)] (fun w' => Reads 1 w' b ps.length (ps.map (·.1)) ∧ ∀ p ∈ ps, Bytes w' p.1 p.2) w) (ps.length) ?_ ?_
      · refine ⟨0, gv, rfl, Nat.zero_le _, (((((Env.nil E).add E (t := 0) rfl).add E (t := 6) rfl).add E (t := 25) rfl).add E (t := 26) rfl).add E (t := 27) rfl, M⟩
      · clear E M
        rintro d fr w ⟨i, v, rfl, hle, E, M⟩
        by_cases hi : i < ps.length
        · have hm := pl_mono (ps := ps) hi
          have hlen := pl_len hi
          refine code_region ?_
          refine sw (v := .bool true) E (tst rfl (decide_eq_true (by omega))) fun fr E => ?_
          refine seq_nil' ?_
          refine wp_seq ?_
          refine cond_true E rfl (rfl) ?_
          refine wp_skip ?_
          refine then_normal ?_
          refine wp_seq ?_
          refine wp_block ?_
          refine code_region ?_
          refine sw E (run_indexR (i := i) rfl M.fact.1 rfl rfl (rfl) (hi) T.slice68 T.size36) fun fr E => ?_
          refine sw (v := (ps[i]).1) E (run_loadR rfl M.fact.1 rfl T.one36 (by rw [Nat.mul_one, List.getElem?_map, List.getElem?_eq_getElem hi]; rfl)) fun fr E => ?_
          refine ma E fun fr E => ?_
          refine seq_nil' ?_
          refine code_last ?_
          refine mv E fun fr E => ?_
          refine mv E fun fr E => ?_
          refine sappB (i := 0) E M rfl rfl rfl rfl rfl rfl rfl rfl rfl rfl rfl T.slice36 T.slice36 T.zt5 T.by5 (M.fact.2 _ (List.getElem_mem hi)) (by omega) fun v fr w M E => ?_
          refine ma E fun fr E => ?_
          refine seq_nil ?_
          refine block_normal ?_
          refine then_normal ?_
          refine code_last ?_
          refine sw (v := .int _ (((i + 1 : Nat) : Int))) E (num rfl ((i64_id (by omega) (by omega)).trans (by omega))) fun fr E => ?_
          refine mv E fun fr E => ?_
          refine seq_nil ?_
          refine then_any ?_
          refine ⟨ps.length - (i + 1), by omega, i + 1, _, rfl, by omega, (((((Env.nil E).add E (t := 0) rfl).add E (t := 6) rfl).add E (t := 25) rfl).add E (t := 26) rfl).add E (t := 27) rfl, M.as (by rw [pl_step hi]; rfl)⟩
        · obtain rfl : i = ps.length := by omega
          refine code_region ?_
          refine sw (v := .bool false) E (tst rfl (decide_eq_false (by omega))) fun fr E => ?_
          refine seq_nil' ?_
          refine wp_seq ?_
          refine cond_false E rfl (rfl) ?_
          refine wp_exit ?_
          refine then_exit ?_
          refine then_exit ?_
          refine block_exit ?_
          refine then_normal ?_
          refine code_region ?_
          refine mv E fun fr E => ?_
          refine ma E fun fr E => ?_
          refine seq_nil' ?_
          refine wp_ret ?_
          refine ret1 E rfl rfl ?_
          exact ⟨_, rfl, M.fin (.refl _) trivial⟩


set_option maxRecDepth 100000 in
theorem Pick_pos {k m : Int} {w0 : World} (hm : 0 < m) (hz : m ≤ 4611686018427387904) (h2 : ¬ k.tmod m < 0) : Gives Tryz.prog 18 [.int .i64 k, .int .i64 m] w0 (.int .i64 (k.tmod m)) := by
  refine enter (n := 16) Tryz.func18 rfl rfl rfl ?_
  intro fr E
  have M : Mem w0 (feet []) [] (fun _ => True) w0 := Mem.begin (Has.nil w0) (fun _ _ => trivial)
  refine code_region ?_
  refine sw E (run_assignC rfl) fun fr E => ?_
  refine seq_nil' ?_
  refine wp_seq ?_
  refine code_region ?_
  refine mv E fun fr E => ?_
  refine sw (v := .bool false) E (tst rfl (decide_eq_false (by omega))) fun fr E => ?_
  refine seq_nil' ?_
  refine cond_false E rfl (rfl) ?_
  refine wp_skip ?_
  refine then_normal ?_
  refine code_region ?_
  refine mv E fun fr E => ?_
  refine mv E fun fr E => ?_
  refine sw (v := .int .i64 (k.tmod m)) E (run_remK rfl rfl rfl (by omega) (by omega)) fun fr E => ?_
  refine ma E fun fr E => ?_
  refine seq_nil' ?_
  refine wp_seq ?_
  refine code_region ?_
  refine mv E fun fr E => ?_
  refine sw (v := .bool false) E (tst rfl (decide_eq_false h2)) fun fr E => ?_
  refine seq_nil' ?_
  refine cond_false E rfl (rfl) ?_
  refine wp_skip ?_
  refine then_normal ?_
  refine code_region ?_
  refine mv E fun fr E => ?_
  refine ma E fun fr E => ?_
  refine seq_nil' ?_
  refine wp_ret ?_
  refine ret1 E rfl rfl ?_
  exact given M

set_option maxRecDepth 100000 in
theorem Pick_neg {k m : Int} {w0 : World} (hm : 0 < m) (hz : m ≤ 4611686018427387904) (h2 : k.tmod m < 0) : Gives Tryz.prog 18 [.int .i64 k, .int .i64 m] w0 (.int .i64 (k.tmod m + m)) := by
  refine enter (n := 16) Tryz.func18 rfl rfl rfl ?_
  intro fr E
  have M : Mem w0 (feet []) [] (fun _ => True) w0 := Mem.begin (Has.nil w0) (fun _ _ => trivial)
  refine code_region ?_
  refine sw E (run_assignC rfl) fun fr E => ?_
  refine seq_nil' ?_
  refine wp_seq ?_
  refine code_region ?_
  refine mv E fun fr E => ?_
  refine sw (v := .bool false) E (tst rfl (decide_eq_false (by omega))) fun fr E => ?_
  refine seq_nil' ?_
  refine cond_false E rfl (rfl) ?_
  refine wp_skip ?_
  refine then_normal ?_
  refine code_region ?_
  refine mv E fun fr E => ?_
  refine mv E fun fr E => ?_
  refine sw (v := .int .i64 (k.tmod m)) E (run_remK rfl rfl rfl (by omega) (by omega)) fun fr E => ?_
  refine ma E fun fr E => ?_
  refine seq_nil' ?_
  refine wp_seq ?_
  refine code_region ?_
  refine mv E fun fr E => ?_
  refine sw (v := .bool true) E (tst rfl (decide_eq_true h2)) fun fr E => ?_
  refine seq_nil' ?_
  refine cond_true E rfl (rfl) ?_
  refine code_last ?_
  refine mv E fun fr E => ?_
  refine mv E fun fr E => ?_
  refine sw (v := .int _ (k.tmod m + m)) E (num rfl (i64_id (by have := tmod_bounds k hm; omega) (by have := tmod_bounds k hm; omega))) fun fr E => ?_
  refine ma E fun fr E => ?_
  refine seq_nil ?_
  refine then_normal ?_
  refine code_region ?_
  refine mv E fun fr E => ?_
  refine ma E fun fr E => ?_
  refine seq_nil' ?_
  refine wp_ret ?_
  refine ret1 E rfl rfl ?_
  exact given M
end Go.Proofs.YtnebjbgcibjohaaGreat.K
end
section
namespace Go.Proofs.YtnebjbgcibjohaaGreat.K
open Go.RowKit Go.Rill Go.Proofs
set_option linter.unusedVariables false
set_option linter.unusedSimpArgs false
abbrev nmE (N : NV) : Ent := Ent.all (nms 82 189 N)
def inNum (n : Int) : Prop := 0 ≤ n ∧ n ≤ 1099511627776
instance (n : Int) : Decidable (inNum n) := by unfold inNum; infer_instance
def sealKs (ks : List NKey) (k : NKey) : List NKey := if k ∈ ks then ks else ks ++ [k]
def sealNo (ks : List NKey) (k : NKey) : Nat := match nat' k ks 0 with | some m => m + 1 | none => ks.length + 1
def tagOf (j : Nat) : List UInt8 := List.replicate 24 0 ++ be8 (j : Int)
/-- What is sealed: its bytes; what is remembered then. -/
def sealB (ks : List NKey) (e n : Int) (h p : List UInt8) : List UInt8 := if inNum e ∧ inNum n then p ++ tagOf (sealNo ks ⟨e, n, h, p⟩) else []
def sealS (ks : List NKey) (e n : Int) (h p : List UInt8) : List NKey := if inNum e ∧ inNum n then sealKs ks ⟨e, n, h, p⟩ else ks
def openN (ks : List NKey) (e n : Int) (h b : List UInt8) : Option (List UInt8) :=
  if b.length < 32 then none else match nat' (⟨e, n, h, b.take (b.length - 32)⟩ : NKey) ks 0 with
    | none => none
    | some m => if b.drop (b.length - 32) = tagOf (m + 1) then some (b.take (b.length - 32)) else none
theorem Equal_b {a b : Value} {l k : List UInt8} {w0 : World} {r : Bool} (ha : Bytes w0 a l) (hb : Bytes w0 b k) (hz : l.length ≤ 35184372088832) (h : decide (l = k) = r) : Gives Tryz.prog 134 [a, b] w0 (.bool r) := h ▸ Equal_x ha hb hz
theorem Concat_e {b : Value} {ls : List (List UInt8)} {l : List UInt8} {w0 : World} (h : RowsOf w0 b ls) (hl : ls.flatten = l) (hn : ls.length ≤ 1000) (hz : l.length ≤ 35184372088832) : Does Tryz.prog 135 [b] w0 [] (fun s : Value => s) (fun s => [.bytes 5 s l]) (fun _ => True) := by
  subst hl
  obtain ⟨ps, rfl, h2, h3⟩ := h
  have e : pl ps ps.length = (ps.map (·.2)).flatten := by unfold pl; rw [List.take_length]
  have := Concat_x h2 h3 (by simpa using hn) (by rw [e]; exact hz)
  rwa [e] at this
theorem ks_row (ks : List NKey) (k : NKey) : ((ks ++ [k]).map NKey.cells).flatten = (ks.map NKey.cells).flatten ++ k.cells := by simp
theorem row_snoc (TS : TypeId) (av : Value) (ks : List NKey) (k : NKey) : Ent.row TS 4 av (ks.length + 1) ((ks.map NKey.cells).flatten ++ k.cells) = Ent.row TS 4 av (ks ++ [k]).length ((ks ++ [k]).map NKey.cells).flatten := by rw [ks_row, List.length_append]; rfl
set_option maxRecDepth 100000 in
theorem nNew_x (w0 : World) : Does Tryz.prog 10 [] w0 [] (fun N : NV => .pointer (some ⟨N.gn, 0, none⟩)) (fun N => [nmE N]) (fun N => N.ks = [] ∧ N.ts = []) := by
  refine enter (n := 5) Tryz.func10 rfl rfl rfl ?_
  intro fr E
  have M : Mem w0 (feet []) [] (fun _ => True) w0 := Mem.begin (Has.nil w0) (fun _ _ => trivial)
  refine code_region ?_
  refine sw E (run_assignC rfl) fun fr E => ?_
  refine seq_nil' ?_
  refine code_region ?_
  refine snew (ob := .map #[] 0) (fun g => .map (some g)) E M rfl rfl rfl rfl rfl (run_makeMap rfl) fun gs fr w M E => ?_
  refine snew (ob := .map #[] 0) (fun g => .map (some g)) E M rfl rfl rfl rfl rfl (run_makeMap rfl) fun gt fr w M E => ?_
  refine sw (v := .agg #[.map (some gs), .slice none 0 0, .map (some gt)]) E (run_buildQ (us := #[.map (some gs), .slice none 0 0, .map (some gt)]) rfl rfl T.ts82 T.zeroL82 rfl) fun fr E => ?_
  refine snew (ob := .cells (#[.map (some gs), .slice none 0 0, .map (some gt)]) 82) (fun g => .pointer (some ⟨g, 0, none⟩)) E M rfl rfl rfl rfl rfl (run_boxN (cs := (#[.map (some gs), .slice none 0 0, .map (some gt)])) rfl rfl) fun g0 fr w M E => ?_
  refine ma E fun fr E => ?_
  refine seq_nil' ?_
  refine wp_ret ?_
  refine ret1 E rfl rfl ?_
  have M := M.nilAny 189 4
  have M := ((((M.pull 2 rfl).pull 3 rfl).pull 2 rfl).pull 3 rfl)
  have M : Mem w0 (feet []) (nms 82 189 ⟨g0, gs, gt, .slice none 0 0, [], []⟩ ++ []) (fun _ => True) w := M
  exact ⟨⟨g0, gs, gt, .slice none 0 0, [], []⟩, rfl, M.pack.fin (List.Sublist.refl _) ⟨rfl, rfl⟩⟩

set_option maxRecDepth 100000 in
theorem Seal_o1 {N : NV} {e n : Int} {h p : Value} {hl pl : List UInt8} {w0 : World} (H : Has w0 (nms 82 189 N)) (hh : Bytes w0 h hl) (hp : Bytes w0 p pl) (ah : ∀ g, h.ownBlock = some g → ¬ feet (nms 82 189 N) g) (ap : ∀ g, p.ownBlock = some g → ¬ feet (nms 82 189 N) g) (h1 : ¬ inNum e) : Does Tryz.prog 132 [.pointer (some ⟨N.gn, 0, none⟩), .int .i64 e, .int .i64 n, h, p] w0 (nms 82 189 N) (fun x : Value × NV => x.1) (fun x => .bytes 5 x.1 [] :: nms 82 189 x.2) (fun x => x.2.gn = N.gn ∧ x.2.ks = N.ks ∧ x.2.ts = N.ts) := by
  refine enter (n := 67) Tryz.func132 rfl rfl rfl ?_
  intro fr E
  have M : Mem w0 (feet (nms 82 189 N)) (nms 82 189 N) (fun w' => Bytes w' h hl ∧ Bytes w' p pl) w0 := Mem.begin H (fun w' k => ⟨Reads.held hh k ah, Reads.held hp k ap⟩)
  refine code_region ?_
  refine sw E (run_assignC rfl) fun fr E => ?_
  refine seq_nil' ?_
  refine wp_seq ?_
  refine code_region ?_
  refine mv E fun fr E => ?_
  refine sgive E M rfl rfl rfl rfl rfl (run_call rfl rfl T.fn137) (nwithin_x e _) fun fr w M E => ?_
  refine sw (v := .bool true) E (by rw [show decide (0 ≤ e ∧ e ≤ 1099511627776) = false from decide_eq_false h1]; rfl) fun fr E => ?_
  refine mv E fun fr E => ?_
  refine sno E rfl rfl rfl rfl fun fr E => ?_
  refine sno E rfl rfl rfl rfl fun fr E => ?_
  refine sno E rfl rfl rfl rfl fun fr E => ?_
  refine sw (v := .bool _) E (rfl) fun fr E => ?_
  refine seq_nil' ?_
  refine cond_true E rfl (rfl) ?_
  refine code_region ?_
  refine sw E (run_assignC rfl) fun fr E => ?_
  refine seq_nil' ?_
  refine wp_ret ?_
  refine then_ret ?_
  refine ret1 E rfl rfl ?_
  have M := M.nilRow 5
  exact ⟨(.slice none 0 0, N), rfl, M.fin (List.Sublist.refl _) ⟨rfl, rfl, rfl⟩⟩

set_option maxRecDepth 100000 in
theorem Seal_o2 {N : NV} {e n : Int} {h p : Value} {hl pl : List UInt8} {w0 : World} (H : Has w0 (nms 82 189 N)) (hh : Bytes w0 h hl) (hp : Bytes w0 p pl) (ah : ∀ g, h.ownBlock = some g → ¬ feet (nms 82 189 N) g) (ap : ∀ g, p.ownBlock = some g → ¬ feet (nms 82 189 N) g) (h1 : inNum e) (h2 : ¬ inNum n) : Does Tryz.prog 132 [.pointer (some ⟨N.gn, 0, none⟩), .int .i64 e, .int .i64 n, h, p] w0 (nms 82 189 N) (fun x : Value × NV => x.1) (fun x => .bytes 5 x.1 [] :: nms 82 189 x.2) (fun x => x.2.gn = N.gn ∧ x.2.ks = N.ks ∧ x.2.ts = N.ts) := by
  refine enter (n := 67) Tryz.func132 rfl rfl rfl ?_
  intro fr E
  have M : Mem w0 (feet (nms 82 189 N)) (nms 82 189 N) (fun w' => Bytes w' h hl ∧ Bytes w' p pl) w0 := Mem.begin H (fun w' k => ⟨Reads.held hh k ah, Reads.held hp k ap⟩)
  refine code_region ?_
  refine sw E (run_assignC rfl) fun fr E => ?_
  refine seq_nil' ?_
  refine wp_seq ?_
  refine code_region ?_
  refine mv E fun fr E => ?_
  refine sgive E M rfl rfl rfl rfl rfl (run_call rfl rfl T.fn137) (nwithin_x e _) fun fr w M E => ?_
  refine sw (v := .bool false) E (by rw [show decide (0 ≤ e ∧ e ≤ 1099511627776) = true from decide_eq_true h1]; rfl) fun fr E => ?_
  refine mv E fun fr E => ?_
  refine mv E fun fr E => ?_
  refine sgive E M rfl rfl rfl rfl rfl (run_call rfl rfl T.fn137) (nwithin_x n _) fun fr w M E => ?_
  refine sw (v := .bool true) E (by rw [show decide (0 ≤ n ∧ n ≤ 1099511627776) = false from decide_eq_false h2]; rfl) fun fr E => ?_
  refine sw (v := .bool _) E (rfl) fun fr E => ?_
  refine seq_nil' ?_
  refine cond_true E rfl (rfl) ?_
  refine code_region ?_
  refine sw E (run_assignC rfl) fun fr E => ?_
  refine seq_nil' ?_
  refine wp_ret ?_
  refine then_ret ?_
  refine ret1 E rfl rfl ?_
  have M := M.nilRow 5
  exact ⟨(.slice none 0 0, N), rfl, M.fin (List.Sublist.refl _) ⟨rfl, rfl, rfl⟩⟩

set_option maxRecDepth 100000 in
theorem Seal_old {N : NV} {e n : Int} {h p : Value} {hl pl : List UInt8} {w0 : World} (H : Has w0 (nms 82 189 N)) (hh : Bytes w0 h hl) (hp : Bytes w0 p pl) (ah : ∀ g, h.ownBlock = some g → ¬ feet (nms 82 189 N) g) (ap : ∀ g, p.ownBlock = some g → ¬ feet (nms 82 189 N) g) (h1 : inNum e) (h2 : inNum n) (hz : pl.length ≤ 1099511627776) (hkz : N.ks.length ≤ 1099511627776) {m : Nat} (hm : nat' (⟨e, n, hl, pl⟩ : NKey) N.ks 0 = some m) : Does Tryz.prog 132 [.pointer (some ⟨N.gn, 0, none⟩), .int .i64 e, .int .i64 n, h, p] w0 (nms 82 189 N) (fun x : Value × NV => x.1) (fun x => .bytes 5 x.1 (pl ++ (List.replicate 24 0 ++ be8 ((m + 1 : Nat) : Int))) :: nms 82 189 x.2) (fun x => x.2.gn = N.gn ∧ x.2.ks = N.ks ∧ x.2.ts = N.ts) := by
  refine enter (n := 67) Tryz.func132 rfl rfl rfl ?_
  intro fr E
  have M : Mem w0 (feet (nms 82 189 N)) (nms 82 189 N) (fun w' => Bytes w' h hl ∧ Bytes w' p pl) w0 := Mem.begin H (fun w' k => ⟨Reads.held hh k ah, Reads.held hp k ap⟩)
  refine code_region ?_
  refine sw E (run_assignC rfl) fun fr E => ?_
  refine seq_nil' ?_
  refine wp_seq ?_
  refine code_region ?_
  refine mv E fun fr E => ?_
  refine sgive E M rfl rfl rfl rfl rfl (run_call rfl rfl T.fn137) (nwithin_x e _) fun fr w M E => ?_
  refine sw (v := .bool false) E (by rw [show decide (0 ≤ e ∧ e ≤ 1099511627776) = true from decide_eq_true h1]; rfl) fun fr E => ?_
  refine mv E fun fr E => ?_
  refine mv E fun fr E => ?_
  refine sgive E M rfl rfl rfl rfl rfl (run_call rfl rfl T.fn137) (nwithin_x n _) fun fr w M E => ?_
  refine sw (v := .bool false) E (by rw [show decide (0 ≤ n ∧ n ≤ 1099511627776) = true from decide_eq_true h2]; rfl) fun fr E => ?_
  refine sw (v := .bool _) E (rfl) fun fr E => ?_
  refine seq_nil' ?_
  refine cond_false E rfl (rfl) ?_
  refine wp_skip ?_
  refine then_normal ?_
  refine code_region ?_
  refine mv E fun fr E => ?_
  refine mv E fun fr E => ?_
  refine mv E fun fr E => ?_
  refine sw (v := strV hl) E (run_b2s rfl rfl M.fact.1 T.slice36 T.u8T T.strT) fun fr E => ?_
  refine mv E fun fr E => ?_
  refine sw (v := strV pl) E (run_b2s rfl rfl M.fact.2 T.slice36 T.u8T T.strT) fun fr E => ?_
  refine sw (v := .agg ([_, _, _, _]).toArray) E (run_buildP (vs := [_, _, _, _]) (us := [_, _, _, _]) rfl rfl T.ts189 T.zeroL189 rfl rfl rfl rfl) fun fr E => ?_
  refine snew (ob := .cells #[_, _, _, _] 189) (fun g => .pointer (some ⟨g, 0, none⟩)) E M rfl rfl rfl rfl rfl (run_allocN rfl T.zero189) fun g0 fr w M E => ?_
  refine sset (i := 0) (cs' := #[.int .i64 e, .int .i64 n, strV hl, strV pl]) E M rfl rfl rfl rfl rfl (run_storeN' (vs := #[_, _, _, _]) rfl rfl rfl T.size189 rfl (M.row (i := 0) rfl) rfl rfl rfl) rfl fun fr w M E => ?_
  refine seq_nil' ?_
  refine wp_seq (free_reg (B := T.tab132_4_b) (Vs := (.exact _ :: .exact _ :: .exact (.pointer (some ⟨_, 0, none⟩)) :: .exact (.map _) :: .exact (.agg #[_, _, _, _]) :: .exact (.tuple #[(.int .i64 ((m + 1 : Nat) : Int)), .bool true]) :: .exact _ :: .exact ((.int .i64 ((m + 1 : Nat) : Int))) :: .exact (.bool true) :: .exact ((.int .i64 ((m + 1 : Nat) : Int))) :: .exact (.bool true) :: [])) T.tab132_4_i E T.mixed T.tab132_4 rfl (AllS.lasts ⟨trivial, trivial, trivial, trivial, trivial, trivial, trivial, trivial, trivial, trivial, trivial, trivial⟩) ⟨fv rfl rfl (fun x w hx hk => run_move rfl rfl),
      fv rfl rfl (fun x w hx hk => run_nilCheck rfl rfl),
      fv rfl rfl (fun x w hx hk => run_fieldAddr rfl rfl T.fld82_0),
      fv rfl rfl (fun x w hx hk => run_loadB rfl rfl T.one78 ((M.ext ((Ext.drew _).trans hx)).row (i := 1) rfl) rfl),
      fv rfl rfl (fun x w hx hk => run_loadAll rfl rfl T.agg189 ((M.ext ((Ext.drew _).trans hx)).row (i := 0) rfl) rfl),
      fv rfl rfl (fun x w hx hk => run_lookupN (V := sealK) (ks := N.ks) (k := (⟨e, n, hl, pl⟩ : NKey)) (v := (.int .i64 ((m + 1 : Nat) : Int))) (b := true) rfl rfl rfl (names_fits T.namesM) T.zero3 ((M.ext ((Ext.drew _).trans hx)).row (i := 3) rfl) (by rw [hm])),
      fv rfl rfl (fun x w hx hk => run_move rfl rfl),
      fv rfl rfl (fun x w hx hk => run_extract rfl rfl rfl),
      fv rfl rfl (fun x w hx hk => run_extract rfl rfl rfl),
      fv rfl rfl (fun x w hx hk => run_assign rfl rfl),
      fv rfl rfl (fun x w hx hk => run_assign rfl rfl), trivial⟩ ?_)
  intro x fr w hx hk E
  have M := M.ext hx
  refine then_normal ?_
  refine wp_seq ?_
  refine code_region ?_
  refine mv E fun fr E => ?_
  refine sw (v := .bool _) E (rfl) fun fr E => ?_
  refine seq_nil' ?_
  refine cond_false E rfl (rfl) ?_
  refine wp_skip ?_
  refine then_normal ?_
  refine wp_seq (free_reg (B := T.tab132_9_b) (Vs := (.exact _ :: (.rel fun w v => Bytes w v (List.replicate 24 0)) :: .exact _ :: CameV w.heap.size (fun v => [.bytes 5 v (be8 ((m + 1 : Nat) : Int))]) (fun _ => True) :: (.rel fun w v => RowsOf w v [pl, List.replicate 24 0, be8 ((m + 1 : Nat) : Int)]) :: CameV w.heap.size (fun v => [.bytes 5 v (pl ++ (List.replicate 24 0 ++ be8 ((m + 1 : Nat) : Int)))]) (fun _ => True) :: CameV w.heap.size (fun v => [.bytes 5 v (pl ++ (List.replicate 24 0 ++ be8 ((m + 1 : Nat) : Int)))]) (fun _ => True) :: [])) T.tab132_9_i E T.mixed T.tab132_9 rfl (AllS.lasts ⟨trivial, (fun w w' v hx h => Reads.ext h hx), trivial, LastsS.cameV, (fun w w' v hx h => h.ext hx), LastsS.cameV, LastsS.cameV, trivial⟩) ⟨fv rfl rfl (fun x w hx hk => run_move rfl rfl),
      fs_rel rfl rfl (fun x w hx hk => ⟨rfl, rfl, rfl, made_fs (k := 24) rfl rfl rfl rfl rfl T.slice36 T.zt5 T.zc5 T.by5 (by decide)⟩),
      fv rfl rfl (fun x w hx hk => run_move rfl rfl),
      fs_ext rfl rfl (fun x w hx hk => ⟨_, _, rfl, rfl, rfl, run_call rfl rfl T.fn136, (nnumber_x ((m + 1 : Nat) : Int) _).extV hx.size⟩),
      fs_rel rfl rfl (fun x w hx hk => ⟨rfl, rfl, rfl, rows_fs [(p, pl), (x 1, List.replicate 24 0), (x 3, be8 ((m + 1 : Nat) : Int))] rfl rfl rfl rfl T.slice68 T.size36 T.zl36 rfl (rows3 (M.ext ((Ext.drew _).trans hx)).fact.2 (hk 1 rfl) ((hk 3 rfl).1.reads 0 rfl)) rfl rfl⟩),
      fs_ext rfl rfl (fun x w hx hk => ⟨_, _, rfl, rfl, rfl, run_call rfl rfl T.fn135, (Concat_e (ls := [pl, List.replicate 24 0, be8 ((m + 1 : Nat) : Int)]) (hk 4 rfl) (by simp) (by simp) (by simp [be8]; omega)).extV hx.size⟩),
      fs_val rfl rfl (fun x w hx hk => ⟨_, _, rfl, rfl, rfl, run_assign rfl rfl, Ext.refl _, hk 5 rfl⟩), trivial⟩ ?_)
  intro x fr w hx hk E
  have M := M.adopts hx (hk 6 (by decide)).1 (hk 6 (by decide)).2.1
  refine then_normal ?_
  refine wp_ret ?_
  refine ret1 E rfl rfl ?_
  have M := M.pull 5 rfl
  have M := M.pull 5 rfl
  have M := M.pull 5 rfl
  have M := M.pull 5 rfl
  have M := M.pull 4 rfl
  exact ⟨(_, (⟨N.gn, N.gs, N.gt, N.av, N.ks, N.ts⟩ : NV)), rfl, Mem.fin (L := .bytes 5 _ (pl ++ (List.replicate 24 0 ++ be8 ((m + 1 : Nat) : Int))) :: nms 82 189 (⟨N.gn, N.gs, N.gt, N.av, N.ks, N.ts⟩ : NV) ++ _) M (List.sublist_append_left _ _) ⟨rfl, rfl, rfl⟩⟩

set_option maxRecDepth 100000 in
theorem Seal_new {N : NV} {e n : Int} {h p : Value} {hl pl : List UInt8} {w0 : World} (H : Has w0 (nms 82 189 N)) (hh : Bytes w0 h hl) (hp : Bytes w0 p pl) (ah : ∀ g, h.ownBlock = some g → ¬ feet (nms 82 189 N) g) (ap : ∀ g, p.ownBlock = some g → ¬ feet (nms 82 189 N) g) (h1 : inNum e) (h2 : inNum n) (hz : pl.length ≤ 1099511627776) (hkz : N.ks.length ≤ 1099511627776) (hn : (⟨e, n, hl, pl⟩ : NKey) ∉ N.ks) : Does Tryz.prog 132 [.pointer (some ⟨N.gn, 0, none⟩), .int .i64 e, .int .i64 n, h, p] w0 (nms 82 189 N) (fun x : Value × NV => x.1) (fun x => .bytes 5 x.1 (pl ++ (List.replicate 24 0 ++ be8 ((N.ks.length + 1 : Nat) : Int))) :: nms 82 189 x.2) (fun x => x.2.gn = N.gn ∧ x.2.ks = N.ks ++ [(⟨e, n, hl, pl⟩ : NKey)] ∧ x.2.ts = N.ts) := by
  refine enter (n := 67) Tryz.func132 rfl rfl rfl ?_
  intro fr E
  have M : Mem w0 (feet (nms 82 189 N)) (nms 82 189 N) (fun w' => Bytes w' h hl ∧ Bytes w' p pl) w0 := Mem.begin H (fun w' k => ⟨Reads.held hh k ah, Reads.held hp k ap⟩)
  refine code_region ?_
  refine sw E (run_assignC rfl) fun fr E => ?_
  refine seq_nil' ?_
  refine wp_seq ?_
  refine code_region ?_
  refine mv E fun fr E => ?_
  refine sgive E M rfl rfl rfl rfl rfl (run_call rfl rfl T.fn137) (nwithin_x e _) fun fr w M E => ?_
  refine sw (v := .bool false) E (by rw [show decide (0 ≤ e ∧ e ≤ 1099511627776) = true from decide_eq_true h1]; rfl) fun fr E => ?_
  refine mv E fun fr E => ?_
  refine mv E fun fr E => ?_
  refine sgive E M rfl rfl rfl rfl rfl (run_call rfl rfl T.fn137) (nwithin_x n _) fun fr w M E => ?_
  refine sw (v := .bool false) E (by rw [show decide (0 ≤ n ∧ n ≤ 1099511627776) = true from decide_eq_true h2]; rfl) fun fr E => ?_
  refine sw (v := .bool _) E (rfl) fun fr E => ?_
  refine seq_nil' ?_
  refine cond_false E rfl (rfl) ?_
  refine wp_skip ?_
  refine then_normal ?_
  refine code_region ?_
  refine mv E fun fr E => ?_
  refine mv E fun fr E => ?_
  refine mv E fun fr E => ?_
  refine sw (v := strV hl) E (run_b2s rfl rfl M.fact.1 T.slice36 T.u8T T.strT) fun fr E => ?_
  refine mv E fun fr E => ?_
  refine sw (v := strV pl) E (run_b2s rfl rfl M.fact.2 T.slice36 T.u8T T.strT) fun fr E => ?_
  refine sw (v := .agg ([_, _, _, _]).toArray) E (run_buildP (vs := [_, _, _, _]) (us := [_, _, _, _]) rfl rfl T.ts189 T.zeroL189 rfl rfl rfl rfl) fun fr E => ?_
  refine snew (ob := .cells #[_, _, _, _] 189) (fun g => .pointer (some ⟨g, 0, none⟩)) E M rfl rfl rfl rfl rfl (run_allocN rfl T.zero189) fun g0 fr w M E => ?_
  refine sset (i := 0) (cs' := #[.int .i64 e, .int .i64 n, strV hl, strV pl]) E M rfl rfl rfl rfl rfl (run_storeN' (vs := #[_, _, _, _]) rfl rfl rfl T.size189 rfl (M.row (i := 0) rfl) rfl rfl rfl) rfl fun fr w M E => ?_
  refine seq_nil' ?_
  refine wp_seq (free_reg (B := T.tab132_4_b) (Vs := (.exact _ :: .exact _ :: .exact (.pointer (some ⟨_, 0, none⟩)) :: .exact (.map _) :: .exact (.agg #[_, _, _, _]) :: .exact (.tuple #[(.int .i64 0), .bool false]) :: .exact _ :: .exact ((.int .i64 0)) :: .exact (.bool false) :: .exact ((.int .i64 0)) :: .exact (.bool false) :: [])) T.tab132_4_i E T.mixed T.tab132_4 rfl (AllS.lasts ⟨trivial, trivial, trivial, trivial, trivial, trivial, trivial, trivial, trivial, trivial, trivial, trivial⟩) ⟨fv rfl rfl (fun x w hx hk => run_move rfl rfl),
      fv rfl rfl (fun x w hx hk => run_nilCheck rfl rfl),
      fv rfl rfl (fun x w hx hk => run_fieldAddr rfl rfl T.fld82_0),
      fv rfl rfl (fun x w hx hk => run_loadB rfl rfl T.one78 ((M.ext ((Ext.drew _).trans hx)).row (i := 1) rfl) rfl),
      fv rfl rfl (fun x w hx hk => run_loadAll rfl rfl T.agg189 ((M.ext ((Ext.drew _).trans hx)).row (i := 0) rfl) rfl),
      fv rfl rfl (fun x w hx hk => run_lookupN (V := sealK) (ks := N.ks) (k := (⟨e, n, hl, pl⟩ : NKey)) (v := (.int .i64 0)) (b := false) rfl rfl rfl (names_fits T.namesM) T.zero3 ((M.ext ((Ext.drew _).trans hx)).row (i := 3) rfl) (by rw [nat_none hn])),
      fv rfl rfl (fun x w hx hk => run_move rfl rfl),
      fv rfl rfl (fun x w hx hk => run_extract rfl rfl rfl),
      fv rfl rfl (fun x w hx hk => run_extract rfl rfl rfl),
      fv rfl rfl (fun x w hx hk => run_assign rfl rfl),
      fv rfl rfl (fun x w hx hk => run_assign rfl rfl), trivial⟩ ?_)
  intro x fr w hx hk E
  have M := M.ext hx
  refine then_normal ?_
  refine wp_seq ?_
  refine code_region ?_
  refine mv E fun fr E => ?_
  refine sw (v := .bool _) E (rfl) fun fr E => ?_
  refine seq_nil' ?_
  refine cond_true E rfl (rfl) ?_
  have M := M.pull 2 rfl
  have M : Mem _ _ ([.row 189 4 N.av N.ks.length (N.ks.map NKey.cells).flatten] ++ _) _ _ := M
  refine wp_seq (free_lastR (B := T.tab132_6_b) (Vs := (.exact _ :: .exact _ :: .exact _ :: .exact (.pointer (some ⟨_, 1, none⟩)) :: .exact _ :: .exact (.agg #[_, _, _, _]) :: NewR w.heap.size 4 1 (⟨e, n, hl, pl⟩ : NKey).cells :: CameI w.heap.size ([.row 189 4 N.av N.ks.length (N.ks.map NKey.cells).flatten]) (fun v : Value => v) ((fun v' : Value => [Ent.row 189 4 v' (N.ks ++ [(⟨e, n, hl, pl⟩ : NKey)]).length ((N.ks ++ [(⟨e, n, hl, pl⟩ : NKey)]).map NKey.cells).flatten])) (fun _ => True) :: .exact _ :: .exact (.pointer (some ⟨_, 1, none⟩)) :: [])) (ownRoad (oneFs 7 ([.row 189 4 N.av N.ks.length (N.ks.map NKey.cells).flatten])) w.drew) T.tab132_6_j 10 E T.mixed T.tab132_6 rfl rfl rfl ?_ ⟨fr_val rfl rfl M (fun i g h => h.2) (fun x w' M' hB hk => ⟨_, _, rfl, rfl, rfl, run_move rfl rfl, Ext.refl _, rfl⟩),
      fr_val rfl rfl M (fun i g h => h.2) (fun x w' M' hB hk => ⟨_, _, rfl, rfl, rfl, run_move rfl rfl, Ext.refl _, rfl⟩),
      fr_val rfl rfl M (fun i g h => h.2) (fun x w' M' hB hk => ⟨_, _, rfl, rfl, rfl, run_nilCheck rfl rfl, Ext.refl _, rfl⟩),
      fr_val rfl rfl M (fun i g h => h.2) (fun x w' M' hB hk => ⟨_, _, rfl, rfl, rfl, run_fieldAddr rfl rfl T.fld82_1, Ext.refl _, rfl⟩),
      fr_val rfl rfl M (fun i g h => h.2) (fun x w' M' hB hk => ⟨_, _, rfl, rfl, rfl, run_loadB rfl rfl T.one80 (M'.row (i := 1) rfl) rfl, Ext.refl _, rfl⟩),
      fr_val rfl rfl M (fun i g h => h.2) (fun x w' M' hB hk => ⟨_, _, rfl, rfl, rfl, run_loadAll rfl rfl T.agg189 (M'.row (i := 0) rfl) rfl, Ext.refl _, rfl⟩),
      fr_rel rfl rfl M (fun i g h => h.2) (fun x w' M' hB hk => ⟨rfl, rfl, rfl, built1_fs (cs := (⟨e, n, hl, pl⟩ : NKey).cells) hB rfl rfl rfl T.slice80 T.size189 T.zl189 rfl rfl rfl⟩),
      fr_app (y := undef) rfl (by rw [show (fun v' : Value => [Ent.row 189 4 v' (N.ks.length + 1) ((N.ks.map NKey.cells).flatten ++ (⟨e, n, hl, pl⟩ : NKey).cells)]) = (fun v' : Value => [Ent.row 189 4 v' (N.ks ++ [(⟨e, n, hl, pl⟩ : NKey)]).length ((N.ks ++ [(⟨e, n, hl, pl⟩ : NKey)]).map NKey.cells).flatten]) from funext fun v' => by rw [row_snoc]]; rfl) M rfl rfl rfl T.slice80 T.slice80 T.zt189 T.by189 (by decide) (NKey.ones _) (by omega) (fun x w' hk => ⟨rfl, rfl, rfl, rfl, _, rfl, (hk 6 rfl).1⟩),
      fr_val rfl rfl M (fun i g h => h.2) (fun x w' M' hB hk => ⟨_, _, rfl, rfl, rfl, run_nilCheck rfl rfl, Ext.refl _, rfl⟩),
      fr_val rfl rfl M (fun i g h => h.2) (fun x w' M' hB hk => ⟨_, _, rfl, rfl, rfl, run_fieldAddr rfl rfl T.fld82_1, Ext.refl _, rfl⟩), trivial⟩ ?_)
  · exact one_okW rfl ((allY_ex (allY_ex (allY_ex (allY_ex (allY_ex (allY_ex (allY_any (LastsR.newR (fun g h => M.old g h)) (allY_in rfl LastsR.came1 (allY_ex (allY_ex allY_nil)))))))))))
  intro x fr w ⟨b, hb, hI⟩ hk E
  obtain ⟨av', hy, -, M⟩ := M.behind (val := fun v : Value => v) (outs := (fun v' : Value => [Ent.row 189 4 v' (N.ks ++ [(⟨e, n, hl, pl⟩ : NKey)]).length ((N.ks ++ [(⟨e, n, hl, pl⟩ : NKey)]).map NKey.cells).flatten])) (p := fun _ => True) hI (hk 7 (by decide))
  have E := Env.say (t := 47) E rfl hy
  refine last_set (i := 2) (cs' := #[.map (some N.gs), av', .map (some N.gt)]) E M rfl rfl rfl rfl rfl rfl (run_store1' (v := _) rfl rfl rfl T.size80 (M.row (i := 2) rfl) (rfl) (Reads.one (M.reads 0 rfl)) (rfl)) rfl fun fr w M E => ?_
  refine then_normal ?_
  skip
  refine code_region ?_
  refine mv E fun fr E => ?_
  refine sw E (run_nilCheck rfl rfl) fun fr E => ?_
  refine sw (v := .pointer (some ⟨_, 1, none⟩)) E (run_fieldAddr rfl rfl T.fld82_1) fun fr E => ?_
  refine sw E (run_loadB rfl rfl T.one80 (M.row (i := 2) rfl) rfl) fun fr E => ?_
  refine sw (v := .int .i64 ((N.ks.length + 1 : Nat) : Int)) E ((run_lenR rfl rfl rfl rfl T.slice80 (M.reads 0 rfl)).trans (by rw [List.length_append]; rfl)) fun fr E => ?_
  refine ma E fun fr E => ?_
  refine seq_nil' ?_
  refine (free_last (B := T.tab132_8_b) (Vs := (.exact _ :: .exact _ :: .exact (.pointer (some ⟨_, 0, none⟩)) :: .exact (.map _) :: .exact (.agg #[_, _, _, _]) :: .exact _ :: [])) T.tab132_8_j 6 E T.mixed T.tab132_8 rfl rfl rfl (AllS.lasts ⟨trivial, trivial, trivial, trivial, trivial, trivial, trivial⟩) ⟨fv rfl rfl (fun x w hx hk => run_move rfl rfl),
      fv rfl rfl (fun x w hx hk => run_nilCheck rfl rfl),
      fv rfl rfl (fun x w hx hk => run_fieldAddr rfl rfl T.fld82_0),
      fv rfl rfl (fun x w hx hk => run_loadB rfl rfl T.one78 ((M.ext ((Ext.drew _).trans hx)).row (i := 2) rfl) rfl),
      fv rfl rfl (fun x w hx hk => run_loadAll rfl rfl T.agg189 ((M.ext ((Ext.drew _).trans hx)).row (i := 1) rfl) rfl),
      fv rfl rfl (fun x w hx hk => run_move rfl rfl), trivial⟩ ?_)
  intro x fr w hx hk E
  have M := M.ext hx
  refine last_mapN (i := 3) (V := sealK) (k := (⟨e, n, hl, pl⟩ : NKey)) E M rfl rfl rfl rfl rfl rfl rfl rfl rfl rfl (names_fits T.namesM) hn rfl fun fr w M E => ?_
  refine then_normal ?_
  refine wp_seq (free_reg (B := T.tab132_9_b) (Vs := (.exact _ :: (.rel fun w v => Bytes w v (List.replicate 24 0)) :: .exact _ :: CameV w.heap.size (fun v => [.bytes 5 v (be8 ((N.ks.length + 1 : Nat) : Int))]) (fun _ => True) :: (.rel fun w v => RowsOf w v [pl, List.replicate 24 0, be8 ((N.ks.length + 1 : Nat) : Int)]) :: CameV w.heap.size (fun v => [.bytes 5 v (pl ++ (List.replicate 24 0 ++ be8 ((N.ks.length + 1 : Nat) : Int)))]) (fun _ => True) :: CameV w.heap.size (fun v => [.bytes 5 v (pl ++ (List.replicate 24 0 ++ be8 ((N.ks.length + 1 : Nat) : Int)))]) (fun _ => True) :: [])) T.tab132_9_i E T.mixed T.tab132_9 rfl (AllS.lasts ⟨trivial, (fun w w' v hx h => Reads.ext h hx), trivial, LastsS.cameV, (fun w w' v hx h => h.ext hx), LastsS.cameV, LastsS.cameV, trivial⟩) ⟨fv rfl rfl (fun x w hx hk => run_move rfl rfl),
      fs_rel rfl rfl (fun x w hx hk => ⟨rfl, rfl, rfl, made_fs (k := 24) rfl rfl rfl rfl rfl T.slice36 T.zt5 T.zc5 T.by5 (by decide)⟩),
      fv rfl rfl (fun x w hx hk => run_move rfl rfl),
      fs_ext rfl rfl (fun x w hx hk => ⟨_, _, rfl, rfl, rfl, run_call rfl rfl T.fn136, (nnumber_x ((N.ks.length + 1 : Nat) : Int) _).extV hx.size⟩),
      fs_rel rfl rfl (fun x w hx hk => ⟨rfl, rfl, rfl, rows_fs [(p, pl), (x 1, List.replicate 24 0), (x 3, be8 ((N.ks.length + 1 : Nat) : Int))] rfl rfl rfl rfl T.slice68 T.size36 T.zl36 rfl (rows3 (M.ext ((Ext.drew _).trans hx)).fact.2 (hk 1 rfl) ((hk 3 rfl).1.reads 0 rfl)) rfl rfl⟩),
      fs_ext rfl rfl (fun x w hx hk => ⟨_, _, rfl, rfl, rfl, run_call rfl rfl T.fn135, (Concat_e (ls := [pl, List.replicate 24 0, be8 ((N.ks.length + 1 : Nat) : Int)]) (hk 4 rfl) (by simp) (by simp) (by simp [be8]; omega)).extV hx.size⟩),
      fs_val rfl rfl (fun x w hx hk => ⟨_, _, rfl, rfl, rfl, run_assign rfl rfl, Ext.refl _, hk 5 rfl⟩), trivial⟩ ?_)
  intro x fr w hx hk E
  have M := M.adopts hx (hk 6 (by decide)).1 (hk 6 (by decide)).2.1
  refine then_normal ?_
  refine wp_ret ?_
  refine ret1 E rfl rfl ?_
  have M := M.pull 5 rfl
  have M := M.pull 5 rfl
  have M := M.pull 3 rfl
  have M := M.pull 5 rfl
  have M := M.pull 4 rfl
  exact ⟨(_, (⟨N.gn, N.gs, N.gt, av', N.ks ++ [(⟨e, n, hl, pl⟩ : NKey)], N.ts⟩ : NV)), rfl, Mem.fin (L := .bytes 5 _ (pl ++ (List.replicate 24 0 ++ be8 ((N.ks.length + 1 : Nat) : Int))) :: nms 82 189 (⟨N.gn, N.gs, N.gt, av', N.ks ++ [(⟨e, n, hl, pl⟩ : NKey)], N.ts⟩ : NV) ++ _) M (List.sublist_append_left _ _) ⟨rfl, rfl, rfl⟩⟩

theorem Seal_x {N : NV} {e n : Int} {h p : Value} {hl pl : List UInt8} {w0 : World} (H : Has w0 (nms 82 189 N)) (hh : Bytes w0 h hl) (hp : Bytes w0 p pl) (ah : ∀ g, h.ownBlock = some g → ¬ feet (nms 82 189 N) g) (ap : ∀ g, p.ownBlock = some g → ¬ feet (nms 82 189 N) g) (hz : pl.length ≤ 1099511627776) (hkz : N.ks.length ≤ 1099511627776) : Does Tryz.prog 132 [.pointer (some ⟨N.gn, 0, none⟩), .int .i64 e, .int .i64 n, h, p] w0 (nms 82 189 N) (fun x : Value × NV => x.1) (fun x => .bytes 5 x.1 (sealB N.ks e n hl pl) :: nms 82 189 x.2) (fun x => x.2.gn = N.gn ∧ x.2.ks = sealS N.ks e n hl pl ∧ x.2.ts = N.ts) := by
  by_cases h1 : inNum e
  · by_cases h2 : inNum n
    · have e1 : sealS N.ks e n hl pl = sealKs N.ks ⟨e, n, hl, pl⟩ := if_pos ⟨h1, h2⟩
      have e2 : sealB N.ks e n hl pl = pl ++ tagOf (sealNo N.ks ⟨e, n, hl, pl⟩) := if_pos ⟨h1, h2⟩
      rw [e1, e2]
      by_cases hk : (⟨e, n, hl, pl⟩ : NKey) ∈ N.ks
      · obtain ⟨m, hm⟩ := nat_mem hk
        have e3 : sealKs N.ks ⟨e, n, hl, pl⟩ = N.ks := if_pos hk
        have e4 : sealNo N.ks ⟨e, n, hl, pl⟩ = m + 1 := by unfold sealNo; rw [hm]
        rw [e3, e4]
        exact Seal_old H hh hp ah ap h1 h2 hz hkz hm
      · have e3 : sealKs N.ks ⟨e, n, hl, pl⟩ = N.ks ++ [⟨e, n, hl, pl⟩] := if_neg hk
        have e4 : sealNo N.ks ⟨e, n, hl, pl⟩ = N.ks.length + 1 := by unfold sealNo; rw [nat_none hk]
        rw [e3, e4]
        exact Seal_new H hh hp ah ap h1 h2 hz hkz hk
    · have e1 : sealS N.ks e n hl pl = N.ks := if_neg fun c => h2 c.2
      have e2 : sealB N.ks e n hl pl = [] := if_neg fun c => h2 c.2
      rw [e1, e2]
      exact Seal_o2 H hh hp ah ap h1 h2
  · have e1 : sealS N.ks e n hl pl = N.ks := if_neg fun c => h1 c.1
    have e2 : sealB N.ks e n hl pl = [] := if_neg fun c => h1 c.1
    rw [e1, e2]
    exact Seal_o1 H hh hp ah ap h1
theorem Seal_p {N : NV} {e n : Int} {h p : Value} {hl pl : List UInt8} {w0 : World} (H : Has w0 [nmE N]) (hh : Bytes w0 h hl) (hp : Bytes w0 p pl) (ah : ∀ g, h.ownBlock = some g → g ∉ (nmE N).foot) (ap : ∀ g, p.ownBlock = some g → g ∉ (nmE N).foot) (hz : pl.length ≤ 1099511627776) (hkz : N.ks.length ≤ 1099511627776) :
    Does Tryz.prog 132 [.pointer (some ⟨N.gn, 0, none⟩), .int .i64 e, .int .i64 n, h, p] w0 [nmE N] (fun x : Value × NV => x.1) (fun x => [.bytes 5 x.1 (sealB N.ks e n hl pl)] ++ [nmE x.2]) (fun x => x.2.gn = N.gn ∧ x.2.ks = sealS N.ks e n hl pl ∧ x.2.ts = N.ts) :=
  Does.packed (B := fun x : Value × NV => [.bytes 5 x.1 (sealB N.ks e n hl pl)]) (C := fun x => nms 82 189 x.2) (fun H' => Seal_x H' hh hp (fun g hg c => ah g hg (Ent.mem_all.2 c)) (fun g hg c => ap g hg (Ent.mem_all.2 c)) hz hkz) H fun x hx => ⟨x, rfl, rfl, hx⟩

set_option maxRecDepth 100000 in
theorem Open_short {N : NV} {e n : Int} {h b : Value} {hl bl : List UInt8} {w0 : World} (H : Has w0 (nms 82 189 N)) (hh : Bytes w0 h hl) (hb : Bytes w0 b bl) (hz : bl.length ≤ 1099511627776) (hs : bl.length < 32) : Gives Tryz.prog 131 [.pointer (some ⟨N.gn, 0, none⟩), .int .i64 e, .int .i64 n, h, b] w0 (.tuple #[.slice none 0 0, .bool false]) := by
  refine enter (n := 58) Tryz.func131 rfl rfl rfl ?_
  intro fr E
  have M : Mem w0 (feet []) [] (fun w' => Has w' (nms 82 189 N) ∧ Bytes w' h hl ∧ Bytes w' b bl) w0 := Mem.begin (Has.nil w0) (fun w' hw => ⟨H.held hw fun g hg c => feet_nil c, hh.held0 hw, hb.held0 hw⟩)
  refine code_region ?_
  refine sw E (run_assignC rfl) fun fr E => ?_
  refine sw E (run_assignC rfl) fun fr E => ?_
  refine seq_nil' ?_
  refine wp_seq ?_
  refine code_region ?_
  refine mv E fun fr E => ?_
  refine sw (v := .int .i64 _) E (run_lenR rfl rfl rfl rfl T.slice36 M.fact.2.2) fun fr E => ?_
  refine sw (v := .bool true) E (tst rfl (decide_eq_true (by omega))) fun fr E => ?_
  refine seq_nil' ?_
  refine cond_true E rfl (rfl) ?_
  refine code_region ?_
  refine sw E (run_assignC rfl) fun fr E => ?_
  refine sw E (run_assignC rfl) fun fr E => ?_
  refine seq_nil' ?_
  refine wp_ret ?_
  refine then_ret ?_
  refine ret2 E rfl rfl rfl ?_
  exact given M

set_option maxRecDepth 100000 in
theorem Open_none {N : NV} {e n : Int} {h b : Value} {hl bl : List UInt8} {w0 : World} (H : Has w0 (nms 82 189 N)) (hh : Bytes w0 h hl) (hb : Bytes w0 b bl) (hz : bl.length ≤ 1099511627776) (hs : ¬ bl.length < 32) (hm : nat' (⟨e, n, hl, bl.take (bl.length - 32)⟩ : NKey) N.ks 0 = none) : Gives Tryz.prog 131 [.pointer (some ⟨N.gn, 0, none⟩), .int .i64 e, .int .i64 n, h, b] w0 (.tuple #[.slice none 0 0, .bool false]) := by
  refine enter (n := 58) Tryz.func131 rfl rfl rfl ?_
  intro fr E
  have M : Mem w0 (feet []) [] (fun w' => Has w' (nms 82 189 N) ∧ Bytes w' h hl ∧ Bytes w' b bl) w0 := Mem.begin (Has.nil w0) (fun w' hw => ⟨H.held hw fun g hg c => feet_nil c, hh.held0 hw, hb.held0 hw⟩)
  refine code_region ?_
  refine sw E (run_assignC rfl) fun fr E => ?_
  refine sw E (run_assignC rfl) fun fr E => ?_
  refine seq_nil' ?_
  refine wp_seq ?_
  refine code_region ?_
  refine mv E fun fr E => ?_
  refine sw (v := .int .i64 _) E (run_lenR rfl rfl rfl rfl T.slice36 M.fact.2.2) fun fr E => ?_
  refine sw (v := .bool false) E (tst rfl (decide_eq_false (by omega))) fun fr E => ?_
  refine seq_nil' ?_
  refine cond_false E rfl (rfl) ?_
  refine wp_skip ?_
  refine then_normal ?_
  refine wp_seq (free_reg (B := T.tab131_3_b) (Vs := (.exact _ :: .exact _ :: .exact (.int .i64 _) :: .exact (.int _ (((bl.length - 32 : Nat) : Int))) :: .exact _ :: .exact _ :: .exact _ :: .exact (.int .i64 _) :: .exact (.int _ (((bl.length - 32 : Nat) : Int))) :: .exact _ :: .exact _ :: .exact _ :: [])) T.tab131_3_i E T.mixed T.tab131_3 rfl (AllS.lasts ⟨trivial, trivial, trivial, trivial, trivial, trivial, trivial, trivial, trivial, trivial, trivial, trivial, trivial⟩) ⟨fv rfl rfl (fun x w hx hk => run_move rfl rfl),
      fv rfl rfl (fun x w hx hk => run_move rfl rfl),
      fv rfl rfl (fun x w hx hk => run_lenR rfl rfl rfl rfl T.slice36 (M.ext ((Ext.drew _).trans hx)).fact.2.2),
      fv rfl rfl (fun x w hx hk => num rfl ((i64_id (by omega) (by omega)).trans (by omega))),
      fv rfl rfl (fun x w hx hk => run_sliceR (lo := 0) (hi := (bl.length - 32)) rfl (M.ext ((Ext.drew _).trans hx)).fact.2.2 rfl T.slice36 T.size5 (rfl) (⟨_, _, rfl, rfl⟩) (Nat.zero_le _) (Nat.sub_le _ _)),
      fv rfl rfl (fun x w hx hk => run_move rfl rfl),
      fv rfl rfl (fun x w hx hk => run_move rfl rfl),
      fv rfl rfl (fun x w hx hk => run_lenR rfl rfl rfl rfl T.slice36 (M.ext ((Ext.drew _).trans hx)).fact.2.2),
      fv rfl rfl (fun x w hx hk => num rfl ((i64_id (by omega) (by omega)).trans (by omega))),
      fv rfl rfl (fun x w hx hk => run_sliceR (lo := (bl.length - 32)) (hi := bl.length) rfl (M.ext ((Ext.drew _).trans hx)).fact.2.2 rfl T.slice36 T.size5 (⟨_, _, rfl, rfl⟩) (rfl) (Nat.sub_le _ _) (Nat.le_refl _)),
      fv rfl rfl (fun x w hx hk => run_assign rfl rfl),
      fv rfl rfl (fun x w hx hk => run_assign rfl rfl), trivial⟩ ?_)
  intro x fr w hx hk E
  have M := M.ext hx
  refine then_normal ?_
  refine wp_seq (free_reg (B := T.tab131_4_b) (Vs := (.exact _ :: .exact _ :: .exact (.pointer (some ⟨_, 0, none⟩)) :: .exact (.map _) :: .exact _ :: .exact _ :: .exact _ :: .exact (strV hl) :: .exact _ :: .exact (strV (bl.take (bl.length - 32))) :: .exact (.agg ([_, _, _, _]).toArray) :: .exact (.tuple #[(.int .i64 0), .bool false]) :: .exact _ :: .exact ((.int .i64 0)) :: .exact (.bool false) :: .exact ((.int .i64 0)) :: .exact (.bool false) :: [])) T.tab131_4_i E T.mixed T.tab131_4 rfl (AllS.lasts ⟨trivial, trivial, trivial, trivial, trivial, trivial, trivial, trivial, trivial, trivial, trivial, trivial, trivial, trivial, trivial, trivial, trivial, trivial⟩) ⟨fv rfl rfl (fun x w hx hk => run_move rfl rfl),
      fv rfl rfl (fun x w hx hk => run_nilCheck rfl rfl),
      fv rfl rfl (fun x w hx hk => run_fieldAddr rfl rfl T.fld82_0),
      fv rfl rfl (fun x w hx hk => run_loadB rfl rfl T.one78 ((M.ext ((Ext.drew _).trans hx)).fact.1.ent 0 rfl) rfl),
      fv rfl rfl (fun x w hx hk => run_move rfl rfl),
      fv rfl rfl (fun x w hx hk => run_move rfl rfl),
      fv rfl rfl (fun x w hx hk => run_move rfl rfl),
      fv rfl rfl (fun x w hx hk => run_b2s rfl rfl (M.ext ((Ext.drew _).trans hx)).fact.2.1 T.slice36 T.u8T T.strT),
      fv rfl rfl (fun x w hx hk => run_move rfl rfl),
      fv rfl rfl (fun x w hx hk => run_b2s rfl rfl (Bytes.pre (k := bl.length - 32) (M.ext ((Ext.drew _).trans hx)).fact.2.2 (Nat.sub_le _ _)) T.slice36 T.u8T T.strT),
      fv rfl rfl (fun x w hx hk => run_buildP (vs := [_, _, _, _]) (us := [_, _, _, _]) rfl rfl T.ts189 T.zeroL189 rfl rfl rfl rfl),
      fv rfl rfl (fun x w hx hk => run_lookupN (V := sealK) (ks := N.ks) (k := (⟨e, n, hl, bl.take (bl.length - 32)⟩ : NKey)) (v := (.int .i64 0)) (b := false) rfl rfl rfl (names_fits T.namesM) T.zero3 ((M.ext ((Ext.drew _).trans hx)).fact.1.ent 2 rfl) (by rw [hm])),
      fv rfl rfl (fun x w hx hk => run_move rfl rfl),
      fv rfl rfl (fun x w hx hk => run_extract rfl rfl rfl),
      fv rfl rfl (fun x w hx hk => run_extract rfl rfl rfl),
      fv rfl rfl (fun x w hx hk => run_assign rfl rfl),
      fv rfl rfl (fun x w hx hk => run_assign rfl rfl), trivial⟩ ?_)
  intro x fr w hx hk E
  have M := M.ext hx
  refine then_normal ?_
  refine wp_seq ?_
  refine wp_seq (free_reg (B := T.tab131_5_b) (Vs := (.exact _ :: .exact (.bool _) :: .exact _ :: .exact undef :: .exact undef :: .exact undef :: .exact undef :: .exact undef :: .exact undef :: .exact undef :: .exact undef :: .exact (.bool _) :: [])) T.tab131_5_i E T.mixed T.tab131_5 rfl (AllS.lasts ⟨trivial, trivial, trivial, trivial, trivial, trivial, trivial, trivial, trivial, trivial, trivial, trivial, trivial⟩) ⟨fv rfl rfl (fun x w hx hk => run_move rfl rfl),
      fv rfl rfl (fun x w hx hk => rfl),
      fv rfl rfl (fun x w hx hk => run_move rfl rfl),
      fs_no rfl rfl (fun x => ⟨rfl, rfl⟩),
      fs_no rfl rfl (fun x => ⟨rfl, rfl⟩),
      fs_no rfl rfl (fun x => ⟨rfl, rfl⟩),
      fs_no rfl rfl (fun x => ⟨rfl, rfl⟩),
      fs_no rfl rfl (fun x => ⟨rfl, rfl⟩),
      fs_no rfl rfl (fun x => ⟨rfl, rfl⟩),
      fs_no rfl rfl (fun x => ⟨rfl, rfl⟩),
      fs_no rfl rfl (fun x => ⟨rfl, rfl⟩),
      fv rfl rfl (fun x w hx hk => rfl), trivial⟩ ?_)
  intro x fr w hx hk E
  have M := M.ext hx
  refine then_normal ?_
  refine cond_true E rfl (rfl) ?_
  refine code_region ?_
  refine sw E (run_assignC rfl) fun fr E => ?_
  refine sw E (run_assignC rfl) fun fr E => ?_
  refine seq_nil' ?_
  refine wp_ret ?_
  refine then_ret ?_
  refine ret2 E rfl rfl rfl ?_
  exact given M

set_option maxRecDepth 100000 in
theorem Open_bad {N : NV} {e n : Int} {h b : Value} {hl bl : List UInt8} {w0 : World} (H : Has w0 (nms 82 189 N)) (hh : Bytes w0 h hl) (hb : Bytes w0 b bl) (hz : bl.length ≤ 1099511627776) (hs : ¬ bl.length < 32) {m : Nat} (hm : nat' (⟨e, n, hl, bl.take (bl.length - 32)⟩ : NKey) N.ks 0 = some m) (hkz : N.ks.length ≤ 1099511627776) (ht : ¬ bl.drop (bl.length - 32) = (tagOf (m + 1))) : Gives Tryz.prog 131 [.pointer (some ⟨N.gn, 0, none⟩), .int .i64 e, .int .i64 n, h, b] w0 (.tuple #[.slice none 0 0, .bool false]) := by
  refine enter (n := 58) Tryz.func131 rfl rfl rfl ?_
  intro fr E
  have M : Mem w0 (feet []) [] (fun w' => Has w' (nms 82 189 N) ∧ Bytes w' h hl ∧ Bytes w' b bl) w0 := Mem.begin (Has.nil w0) (fun w' hw => ⟨H.held hw fun g hg c => feet_nil c, hh.held0 hw, hb.held0 hw⟩)
  refine code_region ?_
  refine sw E (run_assignC rfl) fun fr E => ?_
  refine sw E (run_assignC rfl) fun fr E => ?_
  refine seq_nil' ?_
  refine wp_seq ?_
  refine code_region ?_
  refine mv E fun fr E => ?_
  refine sw (v := .int .i64 _) E (run_lenR rfl rfl rfl rfl T.slice36 M.fact.2.2) fun fr E => ?_
  refine sw (v := .bool false) E (tst rfl (decide_eq_false (by omega))) fun fr E => ?_
  refine seq_nil' ?_
  refine cond_false E rfl (rfl) ?_
  refine wp_skip ?_
  refine then_normal ?_
  refine wp_seq (free_reg (B := T.tab131_3_b) (Vs := (.exact _ :: .exact _ :: .exact (.int .i64 _) :: .exact (.int _ (((bl.length - 32 : Nat) : Int))) :: .exact _ :: .exact _ :: .exact _ :: .exact (.int .i64 _) :: .exact (.int _ (((bl.length - 32 : Nat) : Int))) :: .exact _ :: .exact _ :: .exact _ :: [])) T.tab131_3_i E T.mixed T.tab131_3 rfl (AllS.lasts ⟨trivial, trivial, trivial, trivial, trivial, trivial, trivial, trivial, trivial, trivial, trivial, trivial, trivial⟩) ⟨fv rfl rfl (fun x w hx hk => run_move rfl rfl),
      fv rfl rfl (fun x w hx hk => run_move rfl rfl),
      fv rfl rfl (fun x w hx hk => run_lenR rfl rfl rfl rfl T.slice36 (M.ext ((Ext.drew _).trans hx)).fact.2.2),
      fv rfl rfl (fun x w hx hk => num rfl ((i64_id (by omega) (by omega)).trans (by omega))),
      fv rfl rfl (fun x w hx hk => run_sliceR (lo := 0) (hi := (bl.length - 32)) rfl (M.ext ((Ext.drew _).trans hx)).fact.2.2 rfl T.slice36 T.size5 (rfl) (⟨_, _, rfl, rfl⟩) (Nat.zero_le _) (Nat.sub_le _ _)),
      fv rfl rfl (fun x w hx hk => run_move rfl rfl),
      fv rfl rfl (fun x w hx hk => run_move rfl rfl),
      fv rfl rfl (fun x w hx hk => run_lenR rfl rfl rfl rfl T.slice36 (M.ext ((Ext.drew _).trans hx)).fact.2.2),
      fv rfl rfl (fun x w hx hk => num rfl ((i64_id (by omega) (by omega)).trans (by omega))),
      fv rfl rfl (fun x w hx hk => run_sliceR (lo := (bl.length - 32)) (hi := bl.length) rfl (M.ext ((Ext.drew _).trans hx)).fact.2.2 rfl T.slice36 T.size5 (⟨_, _, rfl, rfl⟩) (rfl) (Nat.sub_le _ _) (Nat.le_refl _)),
      fv rfl rfl (fun x w hx hk => run_assign rfl rfl),
      fv rfl rfl (fun x w hx hk => run_assign rfl rfl), trivial⟩ ?_)
  intro x fr w hx hk E
  have M := M.ext hx
  refine then_normal ?_
  refine wp_seq (free_reg (B := T.tab131_4_b) (Vs := (.exact _ :: .exact _ :: .exact (.pointer (some ⟨_, 0, none⟩)) :: .exact (.map _) :: .exact _ :: .exact _ :: .exact _ :: .exact (strV hl) :: .exact _ :: .exact (strV (bl.take (bl.length - 32))) :: .exact (.agg ([_, _, _, _]).toArray) :: .exact (.tuple #[(.int .i64 ((m + 1 : Nat) : Int)), .bool true]) :: .exact _ :: .exact ((.int .i64 ((m + 1 : Nat) : Int))) :: .exact (.bool true) :: .exact ((.int .i64 ((m + 1 : Nat) : Int))) :: .exact (.bool true) :: [])) T.tab131_4_i E T.mixed T.tab131_4 rfl (AllS.lasts ⟨trivial, trivial, trivial, trivial, trivial, trivial, trivial, trivial, trivial, trivial, trivial, trivial, trivial, trivial, trivial, trivial, trivial, trivial⟩) ⟨fv rfl rfl (fun x w hx hk => run_move rfl rfl),
      fv rfl rfl (fun x w hx hk => run_nilCheck rfl rfl),
      fv rfl rfl (fun x w hx hk => run_fieldAddr rfl rfl T.fld82_0),
      fv rfl rfl (fun x w hx hk => run_loadB rfl rfl T.one78 ((M.ext ((Ext.drew _).trans hx)).fact.1.ent 0 rfl) rfl),
      fv rfl rfl (fun x w hx hk => run_move rfl rfl),
      fv rfl rfl (fun x w hx hk => run_move rfl rfl),
      fv rfl rfl (fun x w hx hk => run_move rfl rfl),
      fv rfl rfl (fun x w hx hk => run_b2s rfl rfl (M.ext ((Ext.drew _).trans hx)).fact.2.1 T.slice36 T.u8T T.strT),
      fv rfl rfl (fun x w hx hk => run_move rfl rfl),
      fv rfl rfl (fun x w hx hk => run_b2s rfl rfl (Bytes.pre (k := bl.length - 32) (M.ext ((Ext.drew _).trans hx)).fact.2.2 (Nat.sub_le _ _)) T.slice36 T.u8T T.strT),
      fv rfl rfl (fun x w hx hk => run_buildP (vs := [_, _, _, _]) (us := [_, _, _, _]) rfl rfl T.ts189 T.zeroL189 rfl rfl rfl rfl),
      fv rfl rfl (fun x w hx hk => run_lookupN (V := sealK) (ks := N.ks) (k := (⟨e, n, hl, bl.take (bl.length - 32)⟩ : NKey)) (v := (.int .i64 ((m + 1 : Nat) : Int))) (b := true) rfl rfl rfl (names_fits T.namesM) T.zero3 ((M.ext ((Ext.drew _).trans hx)).fact.1.ent 2 rfl) (by rw [hm])),
      fv rfl rfl (fun x w hx hk => run_move rfl rfl),
      fv rfl rfl (fun x w hx hk => run_extract rfl rfl rfl),
      fv rfl rfl (fun x w hx hk => run_extract rfl rfl rfl),
      fv rfl rfl (fun x w hx hk => run_assign rfl rfl),
      fv rfl rfl (fun x w hx hk => run_assign rfl rfl), trivial⟩ ?_)
  intro x fr w hx hk E
  have M := M.ext hx
  refine then_normal ?_
  refine wp_seq ?_
  refine wp_seq (free_reg (B := T.tab131_5_b) (Vs := (.exact _ :: .exact (.bool _) :: .exact _ :: .exact _ :: (.rel fun w v => Bytes w v (List.replicate 24 0)) :: .exact _ :: CameV w.heap.size (fun v => [.bytes 5 v (be8 ((m + 1 : Nat) : Int))]) (fun _ => True) :: (.rel fun w v => RowsOf w v [List.replicate 24 0, be8 ((m + 1 : Nat) : Int)]) :: CameV w.heap.size (fun v => [.bytes 5 v (tagOf (m + 1))]) (fun _ => True) :: .exact (.bool false) :: .exact (.bool _) :: .exact (.bool _) :: [])) T.tab131_5_i E T.mixed T.tab131_5 rfl (AllS.lasts ⟨trivial, trivial, trivial, trivial, (fun w w' v hx h => Reads.ext h hx), trivial, LastsS.cameV, (fun w w' v hx h => h.ext hx), LastsS.cameV, trivial, trivial, trivial, trivial⟩) ⟨fv rfl rfl (fun x w hx hk => run_move rfl rfl),
      fv rfl rfl (fun x w hx hk => rfl),
      fv rfl rfl (fun x w hx hk => run_move rfl rfl),
      fv rfl rfl (fun x w hx hk => run_move rfl rfl),
      fs_rel rfl rfl (fun x w hx hk => ⟨rfl, rfl, rfl, made_fs (k := 24) rfl rfl rfl rfl rfl T.slice36 T.zt5 T.zc5 T.by5 (by decide)⟩),
      fv rfl rfl (fun x w hx hk => run_move rfl rfl),
      fs_ext rfl rfl (fun x w hx hk => ⟨_, _, rfl, rfl, rfl, run_call rfl rfl T.fn136, (nnumber_x ((m + 1 : Nat) : Int) _).extV hx.size⟩),
      fs_rel rfl rfl (fun x w hx hk => ⟨rfl, rfl, rfl, rows_fs [(x 4, List.replicate 24 0), (x 6, be8 ((m + 1 : Nat) : Int))] rfl rfl rfl rfl T.slice68 T.size36 T.zl36 rfl (rows2 (hk 4 rfl) ((hk 6 rfl).1.reads 0 rfl)) rfl rfl⟩),
      fs_ext rfl rfl (fun x w hx hk => ⟨_, _, rfl, rfl, rfl, run_call rfl rfl T.fn135, (Concat_e (ls := [List.replicate 24 0, be8 ((m + 1 : Nat) : Int)]) (hk 7 rfl) (by simp [tagOf]) (by simp) (by simp [tagOf, be8])).extV hx.size⟩),
      fs_ext rfl rfl (fun x w hx hk => ⟨_, _, rfl, rfl, rfl, run_call rfl rfl T.fn134, (Equal_b (r := false) (Bytes.suf (k := bl.length - 32) (M.ext ((Ext.drew _).trans hx)).fact.2.2 (Nat.sub_le _ _)) ((hk 8 rfl).1.reads 0 rfl) (by simp; omega) (decide_eq_false ht)).ext⟩),
      fv rfl rfl (fun x w hx hk => rfl),
      fv rfl rfl (fun x w hx hk => rfl), trivial⟩ ?_)
  intro x fr w hx hk E
  have M := M.ext hx
  refine then_normal ?_
  refine cond_true E rfl (rfl) ?_
  refine code_region ?_
  refine sw E (run_assignC rfl) fun fr E => ?_
  refine sw E (run_assignC rfl) fun fr E => ?_
  refine seq_nil' ?_
  refine wp_ret ?_
  refine then_ret ?_
  refine ret2 E rfl rfl rfl ?_
  exact given M

set_option maxRecDepth 100000 in
theorem Open_ok {N : NV} {e n : Int} {h b : Value} {hl bl : List UInt8} {w0 : World} (H : Has w0 (nms 82 189 N)) (hh : Bytes w0 h hl) (hb : Bytes w0 b bl) (hz : bl.length ≤ 1099511627776) (hs : ¬ bl.length < 32) {m : Nat} (hm : nat' (⟨e, n, hl, bl.take (bl.length - 32)⟩ : NKey) N.ks 0 = some m) (hkz : N.ks.length ≤ 1099511627776) (ht : bl.drop (bl.length - 32) = (tagOf (m + 1))) : Does Tryz.prog 131 [.pointer (some ⟨N.gn, 0, none⟩), .int .i64 e, .int .i64 n, h, b] w0 [] (fun c : Value => .tuple #[c, .bool true]) (fun c => [.bytes 5 c (bl.take (bl.length - 32))]) (fun _ => True) := by
  refine enter (n := 58) Tryz.func131 rfl rfl rfl ?_
  intro fr E
  have M : Mem w0 (feet []) [] (fun w' => Has w' (nms 82 189 N) ∧ Bytes w' h hl ∧ Bytes w' b bl) w0 := Mem.begin (Has.nil w0) (fun w' hw => ⟨H.held hw fun g hg c => feet_nil c, hh.held0 hw, hb.held0 hw⟩)
  refine code_region ?_
  refine sw E (run_assignC rfl) fun fr E => ?_
  refine sw E (run_assignC rfl) fun fr E => ?_
  refine seq_nil' ?_
  refine wp_seq ?_
  refine code_region ?_
  refine mv E fun fr E => ?_
  refine sw (v := .int .i64 _) E (run_lenR rfl rfl rfl rfl T.slice36 M.fact.2.2) fun fr E => ?_
  refine sw (v := .bool false) E (tst rfl (decide_eq_false (by omega))) fun fr E => ?_
  refine seq_nil' ?_
  refine cond_false E rfl (rfl) ?_
  refine wp_skip ?_
  refine then_normal ?_
  refine wp_seq (free_reg (B := T.tab131_3_b) (Vs := (.exact _ :: .exact _ :: .exact (.int .i64 _) :: .exact (.int _ (((bl.length - 32 : Nat) : Int))) :: .exact _ :: .exact _ :: .exact _ :: .exact (.int .i64 _) :: .exact (.int _ (((bl.length - 32 : Nat) : Int))) :: .exact _ :: .exact _ :: .exact _ :: [])) T.tab131_3_i E T.mixed T.tab131_3 rfl (AllS.lasts ⟨trivial, trivial, trivial, trivial, trivial, trivial, trivial, trivial, trivial, trivial, trivial, trivial, trivial⟩) ⟨fv rfl rfl (fun x w hx hk => run_move rfl rfl),
      fv rfl rfl (fun x w hx hk => run_move rfl rfl),
      fv rfl rfl (fun x w hx hk => run_lenR rfl rfl rfl rfl T.slice36 (M.ext ((Ext.drew _).trans hx)).fact.2.2),
      fv rfl rfl (fun x w hx hk => num rfl ((i64_id (by omega) (by omega)).trans (by omega))),
      fv rfl rfl (fun x w hx hk => run_sliceR (lo := 0) (hi := (bl.length - 32)) rfl (M.ext ((Ext.drew _).trans hx)).fact.2.2 rfl T.slice36 T.size5 (rfl) (⟨_, _, rfl, rfl⟩) (Nat.zero_le _) (Nat.sub_le _ _)),
      fv rfl rfl (fun x w hx hk => run_move rfl rfl),
      fv rfl rfl (fun x w hx hk => run_move rfl rfl),
      fv rfl rfl (fun x w hx hk => run_lenR rfl rfl rfl rfl T.slice36 (M.ext ((Ext.drew _).trans hx)).fact.2.2),
      fv rfl rfl (fun x w hx hk => num rfl ((i64_id (by omega) (by omega)).trans (by omega))),
      fv rfl rfl (fun x w hx hk => run_sliceR (lo := (bl.length - 32)) (hi := bl.length) rfl (M.ext ((Ext.drew _).trans hx)).fact.2.2 rfl T.slice36 T.size5 (⟨_, _, rfl, rfl⟩) (rfl) (Nat.sub_le _ _) (Nat.le_refl _)),
      fv rfl rfl (fun x w hx hk => run_assign rfl rfl),
      fv rfl rfl (fun x w hx hk => run_assign rfl rfl), trivial⟩ ?_)
  intro x fr w hx hk E
  have M := M.ext hx
  refine then_normal ?_
  refine wp_seq (free_reg (B := T.tab131_4_b) (Vs := (.exact _ :: .exact _ :: .exact (.pointer (some ⟨_, 0, none⟩)) :: .exact (.map _) :: .exact _ :: .exact _ :: .exact _ :: .exact (strV hl) :: .exact _ :: .exact (strV (bl.take (bl.length - 32))) :: .exact (.agg ([_, _, _, _]).toArray) :: .exact (.tuple #[(.int .i64 ((m + 1 : Nat) : Int)), .bool true]) :: .exact _ :: .exact ((.int .i64 ((m + 1 : Nat) : Int))) :: .exact (.bool true) :: .exact ((.int .i64 ((m + 1 : Nat) : Int))) :: .exact (.bool true) :: [])) T.tab131_4_i E T.mixed T.tab131_4 rfl (AllS.lasts ⟨trivial, trivial, trivial, trivial, trivial, trivial, trivial, trivial, trivial, trivial, trivial, trivial, trivial, trivial, trivial, trivial, trivial, trivial⟩) ⟨fv rfl rfl (fun x w hx hk => run_move rfl rfl),
      fv rfl rfl (fun x w hx hk => run_nilCheck rfl rfl),
      fv rfl rfl (fun x w hx hk => run_fieldAddr rfl rfl T.fld82_0),
      fv rfl rfl (fun x w hx hk => run_loadB rfl rfl T.one78 ((M.ext ((Ext.drew _).trans hx)).fact.1.ent 0 rfl) rfl),
      fv rfl rfl (fun x w hx hk => run_move rfl rfl),
      fv rfl rfl (fun x w hx hk => run_move rfl rfl),
      fv rfl rfl (fun x w hx hk => run_move rfl rfl),
      fv rfl rfl (fun x w hx hk => run_b2s rfl rfl (M.ext ((Ext.drew _).trans hx)).fact.2.1 T.slice36 T.u8T T.strT),
      fv rfl rfl (fun x w hx hk => run_move rfl rfl),
      fv rfl rfl (fun x w hx hk => run_b2s rfl rfl (Bytes.pre (k := bl.length - 32) (M.ext ((Ext.drew _).trans hx)).fact.2.2 (Nat.sub_le _ _)) T.slice36 T.u8T T.strT),
      fv rfl rfl (fun x w hx hk => run_buildP (vs := [_, _, _, _]) (us := [_, _, _, _]) rfl rfl T.ts189 T.zeroL189 rfl rfl rfl rfl),
      fv rfl rfl (fun x w hx hk => run_lookupN (V := sealK) (ks := N.ks) (k := (⟨e, n, hl, bl.take (bl.length - 32)⟩ : NKey)) (v := (.int .i64 ((m + 1 : Nat) : Int))) (b := true) rfl rfl rfl (names_fits T.namesM) T.zero3 ((M.ext ((Ext.drew _).trans hx)).fact.1.ent 2 rfl) (by rw [hm])),
      fv rfl rfl (fun x w hx hk => run_move rfl rfl),
      fv rfl rfl (fun x w hx hk => run_extract rfl rfl rfl),
      fv rfl rfl (fun x w hx hk => run_extract rfl rfl rfl),
      fv rfl rfl (fun x w hx hk => run_assign rfl rfl),
      fv rfl rfl (fun x w hx hk => run_assign rfl rfl), trivial⟩ ?_)
  intro x fr w hx hk E
  have M := M.ext hx
  refine then_normal ?_
  refine wp_seq ?_
  refine wp_seq (free_reg (B := T.tab131_5_b) (Vs := (.exact _ :: .exact (.bool _) :: .exact _ :: .exact _ :: (.rel fun w v => Bytes w v (List.replicate 24 0)) :: .exact _ :: CameV w.heap.size (fun v => [.bytes 5 v (be8 ((m + 1 : Nat) : Int))]) (fun _ => True) :: (.rel fun w v => RowsOf w v [List.replicate 24 0, be8 ((m + 1 : Nat) : Int)]) :: CameV w.heap.size (fun v => [.bytes 5 v (tagOf (m + 1))]) (fun _ => True) :: .exact (.bool true) :: .exact (.bool _) :: .exact (.bool _) :: [])) T.tab131_5_i E T.mixed T.tab131_5 rfl (AllS.lasts ⟨trivial, trivial, trivial, trivial, (fun w w' v hx h => Reads.ext h hx), trivial, LastsS.cameV, (fun w w' v hx h => h.ext hx), LastsS.cameV, trivial, trivial, trivial, trivial⟩) ⟨fv rfl rfl (fun x w hx hk => run_move rfl rfl),
      fv rfl rfl (fun x w hx hk => rfl),
      fv rfl rfl (fun x w hx hk => run_move rfl rfl),
      fv rfl rfl (fun x w hx hk => run_move rfl rfl),
      fs_rel rfl rfl (fun x w hx hk => ⟨rfl, rfl, rfl, made_fs (k := 24) rfl rfl rfl rfl rfl T.slice36 T.zt5 T.zc5 T.by5 (by decide)⟩),
      fv rfl rfl (fun x w hx hk => run_move rfl rfl),
      fs_ext rfl rfl (fun x w hx hk => ⟨_, _, rfl, rfl, rfl, run_call rfl rfl T.fn136, (nnumber_x ((m + 1 : Nat) : Int) _).extV hx.size⟩),
      fs_rel rfl rfl (fun x w hx hk => ⟨rfl, rfl, rfl, rows_fs [(x 4, List.replicate 24 0), (x 6, be8 ((m + 1 : Nat) : Int))] rfl rfl rfl rfl T.slice68 T.size36 T.zl36 rfl (rows2 (hk 4 rfl) ((hk 6 rfl).1.reads 0 rfl)) rfl rfl⟩),
      fs_ext rfl rfl (fun x w hx hk => ⟨_, _, rfl, rfl, rfl, run_call rfl rfl T.fn135, (Concat_e (ls := [List.replicate 24 0, be8 ((m + 1 : Nat) : Int)]) (hk 7 rfl) (by simp [tagOf]) (by simp) (by simp [tagOf, be8])).extV hx.size⟩),
      fs_ext rfl rfl (fun x w hx hk => ⟨_, _, rfl, rfl, rfl, run_call rfl rfl T.fn134, (Equal_b (r := true) (Bytes.suf (k := bl.length - 32) (M.ext ((Ext.drew _).trans hx)).fact.2.2 (Nat.sub_le _ _)) ((hk 8 rfl).1.reads 0 rfl) (by simp; omega) (decide_eq_true ht)).ext⟩),
      fv rfl rfl (fun x w hx hk => rfl),
      fv rfl rfl (fun x w hx hk => rfl), trivial⟩ ?_)
  intro x fr w hx hk E
  have M := M.ext hx
  refine then_normal ?_
  refine cond_false E rfl (rfl) ?_
  refine wp_skip ?_
  refine then_normal ?_
  refine code_region ?_
  refine mv E fun fr E => ?_
  refine scall E M rfl rfl rfl rfl rfl (run_call rfl rfl T.fn32) (Clone_x (Bytes.pre (k := bl.length - 32) M.fact.2.2 (Nat.sub_le _ _)) (by simp; omega)) rfl ?_
  rintro c fr w - M E
  refine ma E fun fr E => ?_
  refine sw E (run_assignC rfl) fun fr E => ?_
  refine seq_nil' ?_
  refine wp_ret ?_
  refine ret2 E rfl rfl rfl ?_
  exact ⟨_, rfl, M.fin (.refl _) trivial⟩

theorem Open_no {N : NV} {e n : Int} {h b : Value} {hl bl : List UInt8} {w0 : World} (H : Has w0 [nmE N]) (hh : Bytes w0 h hl) (hb : Bytes w0 b bl) (hz : bl.length ≤ 1099511627776) (hkz : N.ks.length ≤ 1099511627776) (ho : openN N.ks e n hl bl = none) : Gives Tryz.prog 131 [.pointer (some ⟨N.gn, 0, none⟩), .int .i64 e, .int .i64 n, h, b] w0 (.tuple #[.slice none 0 0, .bool false]) := by
  have H := H.unpack1
  by_cases hs : bl.length < 32
  · exact Open_short H hh hb hz hs
  · unfold openN at ho
    rw [if_neg hs] at ho
    cases hm : nat' (⟨e, n, hl, bl.take (bl.length - 32)⟩ : NKey) N.ks 0 with
    | none => exact Open_none H hh hb hz hs hm
    | some m =>
      rw [hm] at ho
      simp only at ho
      split at ho
      · cases ho
      · rename_i ht
        exact Open_bad H hh hb hz hs hm hkz ht
theorem Open_yes {N : NV} {e n : Int} {h b : Value} {hl bl q : List UInt8} {w0 : World} (H : Has w0 [nmE N]) (hh : Bytes w0 h hl) (hb : Bytes w0 b bl) (hz : bl.length ≤ 1099511627776) (hkz : N.ks.length ≤ 1099511627776) (ho : openN N.ks e n hl bl = some q) : Does Tryz.prog 131 [.pointer (some ⟨N.gn, 0, none⟩), .int .i64 e, .int .i64 n, h, b] w0 [] (fun c : Value => .tuple #[c, .bool true]) (fun c => [.bytes 5 c q]) (fun _ => True) := by
  have H := H.unpack1
  by_cases hs : bl.length < 32
  · unfold openN at ho
    rw [if_pos hs] at ho
    cases ho
  · unfold openN at ho
    rw [if_neg hs] at ho
    cases hm : nat' (⟨e, n, hl, bl.take (bl.length - 32)⟩ : NKey) N.ks 0 with
    | none => rw [hm] at ho; cases ho
    | some m =>
      rw [hm] at ho
      simp only at ho
      split at ho
      · rename_i ht
        injection ho with ho
        subst ho
        exact Open_ok H hh hb hz hs hm hkz ht
      · cases ho
end Go.Proofs.YtnebjbgcibjohaaGreat.K
end
section
namespace Go.Proofs.YtnebjbgcibjohaaGreat.K
open Go.RowKit Go.Rill Go.Proofs
set_option linter.unusedVariables false
set_option linter.unusedSimpArgs false
def hdB (kd at' : Int) : List UInt8 := [UInt8.ofInt kd] ++ be8 at'
/-- A sector's bytes. -/
def sectB (ks : List NKey) (kd e n at' : Int) (pl : List UInt8) : List UInt8 := [UInt8.ofInt kd] ++ be8 e ++ be8 n ++ sealB ks e n (hdB kd at') pl
theorem sealB_len (ks : List NKey) (e n : Int) (h p : List UInt8) : (sealB ks e n h p).length ≤ p.length + 32 := by
  unfold sealB
  split
  · simp [tagOf, be8]
  · simp
theorem right_b {e n a : Int} {w0 : World} (r : Bool) (h : decide (SRight e n a) = r) : Gives Tryz.prog 67 [.int .i64 e, .int .i64 n, .int .i64 a] w0 (.bool r) := h ▸ right_x e n a w0
set_option maxRecDepth 100000 in
theorem sPut_range {N : NV} {kd e n at' : Int} {p : Value} {pl : List UInt8} {w0 : World} (hp : Bytes w0 p pl) (h1 : ¬ kd < 1) (h2 : ¬ 5 < kd) (h3 : ¬ SRight e n at') : Gives Tryz.prog 57 [.iface 31 (.pointer (some ⟨N.gn, 0, none⟩)), .agg #[.int .i64 kd, .int .i64 e, .int .i64 n, .int .i64 at', p]] w0 (.tuple #[.slice none 0 0, .int .i64 7]) := by
  refine enter (n := 56) Tryz.func57 rfl rfl rfl ?_
  intro fr E
  have M : Mem w0 (feet []) [] (fun w' => Bytes w' p pl) w0 := Mem.begin (Has.nil w0) (fun w' h => hp.held0 h)
  refine code_region ?_
  refine snew (ob := .cells (#[.int .i64 kd, .int .i64 e, .int .i64 n, .int .i64 at', p]) 99) (fun g => .pointer (some ⟨g, 0, none⟩)) E M rfl rfl rfl rfl rfl (run_boxN (cs := (#[.int .i64 kd, .int .i64 e, .int .i64 n, .int .i64 at', p])) rfl rfl) fun g0 fr w M E => ?_
  refine sw E (run_assignC rfl) fun fr E => ?_
  refine sw E (run_assignC rfl) fun fr E => ?_
  refine seq_nil' ?_
  refine wp_seq ?_
  refine wp_block ?_
  refine wp_seq ?_
  refine code_region ?_
  refine sw (v := .pointer (some ⟨_, 0, none⟩)) E (run_fieldAddr rfl rfl T.fld99_0) fun fr E => ?_
  refine sw (v := .int .i64 _) E (run_loadB rfl rfl T.one3 (M.row (i := 0) rfl) rfl) fun fr E => ?_
  refine sw (v := .bool false) E (tst rfl (decide_eq_false h1)) fun fr E => ?_
  refine ma E fun fr E => ?_
  refine seq_nil' ?_
  refine cond_false E rfl (rfl) ?_
  refine code_last ?_
  refine sw (v := .pointer (some ⟨_, 0, none⟩)) E (run_fieldAddr rfl rfl T.fld99_0) fun fr E => ?_
  refine sw (v := .int .i64 _) E (run_loadB rfl rfl T.one3 (M.row (i := 0) rfl) rfl) fun fr E => ?_
  refine sw (v := .bool false) E (tst rfl (decide_eq_false h2)) fun fr E => ?_
  refine ma E fun fr E => ?_
  refine seq_nil ?_
  refine then_normal ?_
  refine cond_false E rfl (rfl) ?_
  refine code_region ?_
  refine sw (v := .pointer (some ⟨_, 1, none⟩)) E (run_fieldAddr rfl rfl T.fld99_1) fun fr E => ?_
  refine sw (v := .int .i64 _) E (run_loadB rfl rfl T.one3 (M.row (i := 0) rfl) rfl) fun fr E => ?_
  refine sw (v := .pointer (some ⟨_, 2, none⟩)) E (run_fieldAddr rfl rfl T.fld99_2) fun fr E => ?_
  refine sw (v := .int .i64 _) E (run_loadB rfl rfl T.one3 (M.row (i := 0) rfl) rfl) fun fr E => ?_
  refine sw (v := .pointer (some ⟨_, 3, none⟩)) E (run_fieldAddr rfl rfl T.fld99_3) fun fr E => ?_
  refine sw (v := .int .i64 _) E (run_loadB rfl rfl T.one3 (M.row (i := 0) rfl) rfl) fun fr E => ?_
  refine sgive E M rfl rfl rfl rfl rfl (run_call rfl rfl T.fn67) (right_b false (decide_eq_false h3)) fun fr w M E => ?_
  refine sw (v := .bool _) E (rfl) fun fr E => ?_
  refine ma E fun fr E => ?_
  refine seq_nil' ?_
  refine cond_true E rfl (rfl) ?_
  refine code_region ?_
  refine sw E (run_assignC rfl) fun fr E => ?_
  refine sw E (run_assignC rfl) fun fr E => ?_
  refine seq_nil' ?_
  refine wp_ret ?_
  refine block_ret ?_
  refine then_ret ?_
  refine ret2 E rfl rfl rfl ?_
  exact given M

set_option maxRecDepth 100000 in
theorem sPut_ok {N : NV} {kd e n at' : Int} {p : Value} {pl : List UInt8} {w0 : World} (hp : Bytes w0 p pl) (H : Has w0 [nmE N]) (ap : ∀ g, p.ownBlock = some g → g ∉ (nmE N).foot) (hkz : N.ks.length ≤ 1099511627776) (h1 : ¬ kd < 1) (h2 : ¬ 5 < kd) (h3 : SRight e n at') (h4 : ¬ 975 < pl.length) : Does Tryz.prog 57 [.iface 31 (.pointer (some ⟨N.gn, 0, none⟩)), .agg #[.int .i64 kd, .int .i64 e, .int .i64 n, .int .i64 at', p]] w0 [nmE N] (fun x : Value × NV => .tuple #[x.1, .int .i64 0]) (fun x => [Ent.bytes 5 x.1 (sectB N.ks kd e n at' pl), nmE x.2]) (fun x => x.2.gn = N.gn ∧ x.2.ks = sealS N.ks e n (hdB kd at') pl ∧ x.2.ts = N.ts) := by
  refine enter (n := 56) Tryz.func57 rfl rfl rfl ?_
  intro fr E
  have M : Mem w0 (feet [nmE N]) [nmE N] (fun w' => Bytes w' p pl) w0 := Mem.begin H (fun w' k => Reads.held hp k fun g hg c => ap g hg (feet_one.1 c))
  refine code_region ?_
  refine snew (ob := .cells (#[.int .i64 kd, .int .i64 e, .int .i64 n, .int .i64 at', p]) 99) (fun g => .pointer (some ⟨g, 0, none⟩)) E M rfl rfl rfl rfl rfl (run_boxN (cs := (#[.int .i64 kd, .int .i64 e, .int .i64 n, .int .i64 at', p])) rfl rfl) fun g0 fr w M E => ?_
  refine sw E (run_assignC rfl) fun fr E => ?_
  refine sw E (run_assignC rfl) fun fr E => ?_
  refine seq_nil' ?_
  refine wp_seq ?_
  refine wp_block ?_
  refine wp_seq ?_
  refine code_region ?_
  refine sw (v := .pointer (some ⟨_, 0, none⟩)) E (run_fieldAddr rfl rfl T.fld99_0) fun fr E => ?_
  refine sw (v := .int .i64 _) E (run_loadB rfl rfl T.one3 (M.row (i := 0) rfl) rfl) fun fr E => ?_
  refine sw (v := .bool false) E (tst rfl (decide_eq_false h1)) fun fr E => ?_
  refine ma E fun fr E => ?_
  refine seq_nil' ?_
  refine cond_false E rfl (rfl) ?_
  refine code_last ?_
  refine sw (v := .pointer (some ⟨_, 0, none⟩)) E (run_fieldAddr rfl rfl T.fld99_0) fun fr E => ?_
  refine sw (v := .int .i64 _) E (run_loadB rfl rfl T.one3 (M.row (i := 0) rfl) rfl) fun fr E => ?_
  refine sw (v := .bool false) E (tst rfl (decide_eq_false h2)) fun fr E => ?_
  refine ma E fun fr E => ?_
  refine seq_nil ?_
  refine then_normal ?_
  refine cond_false E rfl (rfl) ?_
  refine code_region ?_
  refine sw (v := .pointer (some ⟨_, 1, none⟩)) E (run_fieldAddr rfl rfl T.fld99_1) fun fr E => ?_
  refine sw (v := .int .i64 _) E (run_loadB rfl rfl T.one3 (M.row (i := 0) rfl) rfl) fun fr E => ?_
  refine sw (v := .pointer (some ⟨_, 2, none⟩)) E (run_fieldAddr rfl rfl T.fld99_2) fun fr E => ?_
  refine sw (v := .int .i64 _) E (run_loadB rfl rfl T.one3 (M.row (i := 0) rfl) rfl) fun fr E => ?_
  refine sw (v := .pointer (some ⟨_, 3, none⟩)) E (run_fieldAddr rfl rfl T.fld99_3) fun fr E => ?_
  refine sw (v := .int .i64 _) E (run_loadB rfl rfl T.one3 (M.row (i := 0) rfl) rfl) fun fr E => ?_
  refine sgive E M rfl rfl rfl rfl rfl (run_call rfl rfl T.fn67) (right_b true (decide_eq_true h3)) fun fr w M E => ?_
  refine sw (v := .bool _) E (rfl) fun fr E => ?_
  refine ma E fun fr E => ?_
  refine seq_nil' ?_
  refine cond_false E rfl (rfl) ?_
  refine code_region ?_
  refine sw (v := .pointer (some ⟨_, 4, none⟩)) E (run_fieldAddr rfl rfl T.fld99_4) fun fr E => ?_
  refine sw E (run_loadB rfl rfl T.one36 (M.row (i := 0) rfl) rfl) fun fr E => ?_
  refine sw (v := .int .i64 _) E (run_lenR rfl rfl rfl rfl T.slice36 M.fact) fun fr E => ?_
  refine sw (v := .bool false) E (tst rfl (decide_eq_false (by omega))) fun fr E => ?_
  refine ma E fun fr E => ?_
  refine seq_nil' ?_
  refine cond_false E rfl (rfl) ?_
  refine wp_skip ?_
  refine block_normal ?_
  refine then_normal ?_
  refine wp_seq (free_reg (B := T.tab57_8_b) (Vs := (.exact (.pointer (some ⟨_, 0, none⟩)) :: .exact (.int .i64 _) :: .exact (.int _ (((UInt8.ofInt kd).toNat : Int))) :: (.rel fun w v => Bytes w v [UInt8.ofInt kd] ∧ ∀ g, v.ownBlock = some g → 0 ≤ g) :: .exact (.pointer (some ⟨_, 1, none⟩)) :: .exact (.int .i64 _) :: CameV w.heap.size (fun v => [Ent.bytes 5 v ([UInt8.ofInt kd] ++ be8 e)]) (fun _ => True) :: .exact (.pointer (some ⟨_, 2, none⟩)) :: .exact (.int .i64 _) :: CameV w.heap.size (fun v => [Ent.bytes 5 v ([UInt8.ofInt kd] ++ be8 e ++ be8 n)]) (fun _ => True) :: CameV w.heap.size (fun v => [Ent.bytes 5 v ([UInt8.ofInt kd] ++ be8 e ++ be8 n)]) (fun _ => True) :: [])) T.tab57_8_i E T.mixed T.tab57_8 rfl (AllS.lasts ⟨trivial, trivial, trivial, (fun w w' v hx h => ⟨Reads.ext h.1 hx, h.2⟩), trivial, trivial, LastsS.cameV, trivial, trivial, LastsS.cameV, LastsS.cameV, trivial⟩) ⟨fv rfl rfl (fun x w hx hk => run_fieldAddr rfl rfl T.fld99_0),
      fv rfl rfl (fun x w hx hk => run_loadB rfl rfl T.one3 ((M.ext ((Ext.drew _).trans hx)).row (i := 0) rfl) rfl),
      fv rfl rfl (fun x w hx hk => num rfl ((ofInt_toNat kd).symm)),
      fs_rel rfl rfl (fun x w hx hk => ⟨rfl, rfl, rfl, byte_fs (Nat.zero_le _) rfl rfl T.slice36 T.size5 T.zl5 rfl⟩),
      fv rfl rfl (fun x w hx hk => run_fieldAddr rfl rfl T.fld99_1),
      fv rfl rfl (fun x w hx hk => run_loadB rfl rfl T.one3 ((M.ext ((Ext.drew _).trans hx)).row (i := 0) rfl) rfl),
      fs_ext rfl rfl (fun x w hx hk => ⟨_, _, rfl, rfl, rfl, run_call rfl rfl T.fn72, (Int_x e (hk 3 rfl).1 (by simp)).extV hx.size⟩),
      fv rfl rfl (fun x w hx hk => run_fieldAddr rfl rfl T.fld99_2),
      fv rfl rfl (fun x w hx hk => run_loadB rfl rfl T.one3 ((M.ext ((Ext.drew _).trans hx)).row (i := 0) rfl) rfl),
      fs_ext rfl rfl (fun x w hx hk => ⟨_, _, rfl, rfl, rfl, run_call rfl rfl T.fn72, (Int_x n ((hk 6 rfl).1.reads 0 rfl) (by simp [be8])).extV hx.size⟩),
      fs_val rfl rfl (fun x w hx hk => ⟨_, _, rfl, rfl, rfl, run_assign rfl rfl, Ext.refl _, hk 9 rfl⟩), trivial⟩ ?_)
  intro x fr w hx hk E
  have M := M.adopts hx (hk 10 (by decide)).1 (hk 10 (by decide)).2.1
  refine then_normal ?_
  obtain ⟨b1v, hb1⟩ : ∃ b1v, b1v = x 10 := ⟨_, rfl⟩
  have E := Env.say (t := 6) (v := b1v) E rfl hb1.symm
  rw [← hb1] at M
  have M := M.pull 2 rfl
  have M : Mem _ _ (([nmE N] ++ [Ent.bytes 5 b1v ([UInt8.ofInt kd] ++ be8 e ++ be8 n)]) ++ _) _ _ := M
  refine wp_seq (free_regR (B := T.tab57_9_b) (Vs := (.exact _ :: .exact _ :: .exact (.pointer (some ⟨_, 1, none⟩)) :: .exact (.int .i64 _) :: .exact (.pointer (some ⟨_, 2, none⟩)) :: .exact (.int .i64 _) :: .exact (.pointer (some ⟨_, 0, none⟩)) :: .exact (.int .i64 _) :: .exact (.pointer (some ⟨_, 3, none⟩)) :: .exact (.int .i64 _) :: CameV w.heap.size (fun v => [Ent.bytes 5 v (hdB kd at')]) (fun _ => True) :: .exact (.pointer (some ⟨_, 4, none⟩)) :: .exact _ :: .exact (.func (.method "Seal") #[.iface 31 (.pointer (some ⟨N.gn, 0, none⟩))] #[]) :: .exact (.func (.method "Seal") #[.iface 31 (.pointer (some ⟨N.gn, 0, none⟩))] #[]) :: .exact _ :: CameI w.heap.size ([nmE N]) (fun x : Value × NV => x.1) (fun x => [Ent.bytes 5 x.1 (sealB N.ks e n (hdB kd at') pl)] ++ [nmE x.2]) (fun x => x.2.gn = N.gn ∧ x.2.ks = sealS N.ks e n (hdB kd at') pl ∧ x.2.ts = N.ts) :: CameI w.heap.size ([nmE N] ++ [Ent.bytes 5 b1v ([UInt8.ofInt kd] ++ be8 e ++ be8 n)]) (fun y : Value × (Value × NV) => y.1) (fun y => [Ent.bytes 5 y.1 ([UInt8.ofInt kd] ++ be8 e ++ be8 n ++ sealB N.ks e n (hdB kd at') pl)] ++ [nmE y.2.2]) (fun y => y.2.2.gn = N.gn ∧ y.2.2.ks = sealS N.ks e n (hdB kd at') pl ∧ y.2.2.ts = N.ts) :: CameI w.heap.size ([nmE N] ++ [Ent.bytes 5 b1v ([UInt8.ofInt kd] ++ be8 e ++ be8 n)]) (fun y : Value × (Value × NV) => y.1) (fun y => [Ent.bytes 5 y.1 ([UInt8.ofInt kd] ++ be8 e ++ be8 n ++ sealB N.ks e n (hdB kd at') pl)] ++ [nmE y.2.2]) (fun y => y.2.2.gn = N.gn ∧ y.2.2.ks = sealS N.ks e n (hdB kd at') pl ∧ y.2.2.ts = N.ts) :: .exact _ :: [])) (ownRoad (twoFs 16 17 ([nmE N]) ([Ent.bytes 5 b1v ([UInt8.ofInt kd] ++ be8 e ++ be8 n)])) w.drew) T.tab57_9_i E T.mixed T.tab57_9 rfl ?_ ⟨fr_val rfl rfl M (fun i g h => twoFs_in h) (fun x w' M' hB hk => ⟨_, _, rfl, rfl, rfl, run_move rfl rfl, Ext.refl _, rfl⟩),
      fr_val rfl rfl M (fun i g h => twoFs_in h) (fun x w' M' hB hk => ⟨_, _, rfl, rfl, rfl, run_move rfl rfl, Ext.refl _, rfl⟩),
      fr_val rfl rfl M (fun i g h => twoFs_in h) (fun x w' M' hB hk => ⟨_, _, rfl, rfl, rfl, run_fieldAddr rfl rfl T.fld99_1, Ext.refl _, rfl⟩),
      fr_val rfl rfl M (fun i g h => twoFs_in h) (fun x w' M' hB hk => ⟨_, _, rfl, rfl, rfl, run_loadB rfl rfl T.one3 (M'.row (i := 0) rfl) rfl, Ext.refl _, rfl⟩),
      fr_val rfl rfl M (fun i g h => twoFs_in h) (fun x w' M' hB hk => ⟨_, _, rfl, rfl, rfl, run_fieldAddr rfl rfl T.fld99_2, Ext.refl _, rfl⟩),
      fr_val rfl rfl M (fun i g h => twoFs_in h) (fun x w' M' hB hk => ⟨_, _, rfl, rfl, rfl, run_loadB rfl rfl T.one3 (M'.row (i := 0) rfl) rfl, Ext.refl _, rfl⟩),
      fr_val rfl rfl M (fun i g h => twoFs_in h) (fun x w' M' hB hk => ⟨_, _, rfl, rfl, rfl, run_fieldAddr rfl rfl T.fld99_0, Ext.refl _, rfl⟩),
      fr_val rfl rfl M (fun i g h => twoFs_in h) (fun x w' M' hB hk => ⟨_, _, rfl, rfl, rfl, run_loadB rfl rfl T.one3 (M'.row (i := 0) rfl) rfl, Ext.refl _, rfl⟩),
      fr_val rfl rfl M (fun i g h => twoFs_in h) (fun x w' M' hB hk => ⟨_, _, rfl, rfl, rfl, run_fieldAddr rfl rfl T.fld99_3, Ext.refl _, rfl⟩),
      fr_val rfl rfl M (fun i g h => twoFs_in h) (fun x w' M' hB hk => ⟨_, _, rfl, rfl, rfl, run_loadB rfl rfl T.one3 (M'.row (i := 0) rfl) rfl, Ext.refl _, rfl⟩),
      fr_ext rfl rfl M (fun i g h => twoFs_in h) (fun x w' M' hB hk => ⟨_, _, rfl, rfl, rfl, run_call rfl rfl T.fn68, (head_x kd at' _).extV hB⟩),
      fr_val rfl rfl M (fun i g h => twoFs_in h) (fun x w' M' hB hk => ⟨_, _, rfl, rfl, rfl, run_fieldAddr rfl rfl T.fld99_4, Ext.refl _, rfl⟩),
      fr_val rfl rfl M (fun i g h => twoFs_in h) (fun x w' M' hB hk => ⟨_, _, rfl, rfl, rfl, run_loadB rfl rfl T.one36 (M'.row (i := 0) rfl) rfl, Ext.refl _, rfl⟩),
      fr_val rfl rfl M (fun i g h => twoFs_in h) (fun x w' M' hB hk => ⟨_, _, rfl, rfl, rfl, run_makeMeth rfl rfl, Ext.refl _, rfl⟩),
      fr_val rfl rfl M (fun i g h => twoFs_in h) (fun x w' M' hB hk => ⟨_, _, rfl, rfl, rfl, run_nilCheckM rfl rfl T.meth31_Seal, Ext.refl _, rfl⟩),
      fr_val rfl rfl M (fun i g h => twoFs_in h) (fun x w' M' hB hk => ⟨_, _, rfl, rfl, rfl, run_move rfl rfl, Ext.refl _, rfl⟩),
      fr_call (J := [nmE N]) rfl rfl M (fun i g h => twoFs_in h) (M.has.sub ((List.sublist_append_left _ _).trans (List.sublist_append_left _ _))) (fun j hj g hg hc => hg.elim (fun h => hj h.1) fun h => M.part g hc h.2) (fun x w' M' H' hB hk => ⟨_, _, rfl, rfl, rfl, run_invoke rfl rfl T.meth31_Seal T.fn132, (Seal_p (e := e) (n := n) H' ((hk 10 rfl).1.reads 0 rfl) M'.fact (fun g hg hc => Nat.not_le_of_lt (M.old g ⟨_, by simp, hc⟩) ((hk 10 rfl).2.1 g (feet_one.2 (by simp [Ent.row, hg])))) ap (by omega) hkz).own (Fs := twoFs 16 17 ([nmE N]) ([Ent.bytes 5 b1v ([UInt8.ofInt kd] ++ be8 e ++ be8 n)])) (i := 16) hB (fun g hg => Or.inl ⟨rfl, hg⟩)⟩),
      fr_app2 (j := 16) (c := fun x : Value × NV => x.1) (rest := fun x => [nmE x.2]) (p1 := fun x => x.2.gn = N.gn ∧ x.2.ks = sealS N.ks e n (hdB kd at') pl ∧ x.2.ts = N.ts) rfl rfl rfl rfl M rfl rfl rfl T.slice36 T.slice36 T.zt5 T.by5 (by have := sealB_len N.ks e n (hdB kd at') pl; simp [be8]; omega) (fun x y hy => ⟨rfl, rfl, rfl, rfl, hy⟩),
      fr_on (j := 17) rfl rfl rfl rfl (fun x w y hy => ⟨rfl, rfl, rfl, run_assignV rfl hy⟩),
      fr_val rfl rfl M (fun i g h => twoFs_in h) (fun x w' M' hB hk => ⟨_, _, rfl, rfl, rfl, run_assignC rfl, Ext.refl _, rfl⟩), trivial⟩ ?_)
  · exact two_ok rfl ((allT_ex (allT_ex (allT_ex (allT_ex (allT_ex (allT_ex (allT_ex (allT_ex (allT_ex (allT_ex (allT_any (LastsR.cameV (fun g h => M.old g (feet_app.2 h))) (allT_ex (allT_ex (allT_ex (allT_ex (allT_ex (allT_c rfl (LastsR.came (fun g h => M.old g (feet_app.2 (.inr h))) (fun g h hc => M.part g hc h)) (allT_d rfl rfl LastsR.came1 (allT_d rfl rfl LastsR.came1 (allT_ex allT_nil)))))))))))))))))))))
  intro x fr w ⟨b, hb, hI⟩ hk E
  obtain ⟨⟨r, c0, N2⟩, hy, hN, M⟩ := M.behindG (J := ([nmE N] ++ [Ent.bytes 5 b1v ([UInt8.ofInt kd] ++ be8 e ++ be8 n)])) (val := fun y : Value × (Value × NV) => y.1) (outs := fun y => [Ent.bytes 5 y.1 ([UInt8.ofInt kd] ++ be8 e ++ be8 n ++ sealB N.ks e n (hdB kd at') pl)] ++ [nmE y.2.2]) (p := fun y => y.2.2.gn = N.gn ∧ y.2.2.ks = sealS N.ks e n (hdB kd at') pl ∧ y.2.2.ts = N.ts) (fun i g h => twoFs_in h) hI (hk 18 (by decide))
  have E := Env.say (t := 4) E rfl hy
  refine then_normal ?_
  refine wp_ret ?_
  refine ret2 E rfl rfl rfl ?_
  have M := M.pull 1 rfl
  have M := M.pull 1 rfl
  exact ⟨(r, N2), rfl, Mem.fin (L := [Ent.bytes 5 r ([UInt8.ofInt kd] ++ be8 e ++ be8 n ++ sealB N.ks e n (hdB kd at') pl), nmE N2] ++ _) M (List.sublist_append_left _ _) hN⟩

def kindOf (l : List UInt8) : Int := if h : 17 ≤ l.length then (if (l[0]'(by omega)).toNat < 1 then 0 else if 5 < (l[0]'(by omega)).toNat then 0 else ((l[0]'(by omega)).toNat : Int)) else 0
theorem Kind_x {b : Value} {l : List UInt8} {w0 : World} (hb : Bytes w0 b l) (hz : l.length ≤ 35184372088832) : Gives Tryz.prog 64 [b] w0 (.int .i64 (kindOf l)) := by
  unfold kindOf
  split
  · rename_i h
    split
    · exact Kind_low hb hz h ‹_›
    · split
      · exact Kind_high hb hz h ‹_› ‹_›
      · exact Kind_ok hb hz h ‹_› ‹_›
  · exact Kind_short hb hz (by omega)
/-- The numbers that a sector's bytes say. -/
def secE (l : List UInt8) : Int := rInt ((l.drop 1).take 16, false)
def secN (l : List UInt8) : Int := rInt (rNext 8 ((l.drop 1).take 16, false))

set_option maxRecDepth 100000 in
theorem sGet_short {N : NV} {kd at' : Int} {b : Value} {l : List UInt8} {w0 : World} (hb : Bytes w0 b l) (h1 : l.length < 17) : Gives Tryz.prog 45 [.iface 31 (.pointer (some ⟨N.gn, 0, none⟩)), .int .i64 kd, .int .i64 at', b] w0 (.tuple #[.agg #[.int .i64 0, .int .i64 0, .int .i64 0, .int .i64 0, .slice none 0 0], .int .i64 2]) := by
  refine enter (n := 75) Tryz.func45 rfl rfl rfl ?_
  intro fr E
  have M : Mem w0 (feet []) [] (fun w' => Bytes w' b l) w0 := Mem.begin (Has.nil w0) (fun w' h => hb.held0 h)
  refine code_region ?_
  refine snew (ob := .cells #[_, _, _, _, _] 99) (fun g => .pointer (some ⟨g, 0, none⟩)) E M rfl rfl rfl rfl rfl (run_allocN rfl T.zero99) fun g0 fr w M E => ?_
  refine sw E (run_assignC rfl) fun fr E => ?_
  refine seq_nil' ?_
  refine wp_seq ?_
  refine wp_block ?_
  refine code_region ?_
  refine mv E fun fr E => ?_
  refine sw (v := .int .i64 _) E (run_lenR rfl rfl rfl rfl T.slice36 M.fact) fun fr E => ?_
  refine sw (v := .bool true) E (tst rfl (decide_eq_true (by omega))) fun fr E => ?_
  refine ma E fun fr E => ?_
  refine seq_nil' ?_
  refine cond_true E rfl (rfl) ?_
  refine code_region ?_
  refine sw (v := .agg ([.int .i64 0, .int .i64 0, .int .i64 0, .int .i64 0, .slice none 0 0]).toArray) E (run_buildP (vs := []) (us := [.int .i64 0, .int .i64 0, .int .i64 0, .int .i64 0, .slice none 0 0]) rfl rfl T.ts99 T.zeroL99 rfl rfl rfl rfl) fun fr E => ?_
  refine sset (i := 0) (cs' := #[_, _, _, _, _]) E M rfl rfl rfl rfl rfl (run_storeN' (vs := #[_, _, _, _, _]) rfl rfl rfl T.size99 rfl (M.row (i := 0) rfl) rfl rfl rfl) rfl fun fr w M E => ?_
  refine sw E (run_assignC rfl) fun fr E => ?_
  refine seq_nil' ?_
  refine wp_ret ?_
  refine block_ret ?_
  refine then_ret ?_
  refine retC2 E rfl rfl rfl T.agg99 (M.row (i := 0) rfl) (rfl) ?_
  exact given M

set_option maxRecDepth 100000 in
theorem sGet_long {N : NV} {kd at' : Int} {b : Value} {l : List UInt8} {w0 : World} (hb : Bytes w0 b l) (h1 : ¬ l.length < 17) (h2 : 1024 < l.length) : Gives Tryz.prog 45 [.iface 31 (.pointer (some ⟨N.gn, 0, none⟩)), .int .i64 kd, .int .i64 at', b] w0 (.tuple #[.agg #[.int .i64 0, .int .i64 0, .int .i64 0, .int .i64 0, .slice none 0 0], .int .i64 3]) := by
  refine enter (n := 75) Tryz.func45 rfl rfl rfl ?_
  intro fr E
  have M : Mem w0 (feet []) [] (fun w' => Bytes w' b l) w0 := Mem.begin (Has.nil w0) (fun w' h => hb.held0 h)
  refine code_region ?_
  refine snew (ob := .cells #[_, _, _, _, _] 99) (fun g => .pointer (some ⟨g, 0, none⟩)) E M rfl rfl rfl rfl rfl (run_allocN rfl T.zero99) fun g0 fr w M E => ?_
  refine sw E (run_assignC rfl) fun fr E => ?_
  refine seq_nil' ?_
  refine wp_seq ?_
  refine wp_block ?_
  refine code_region ?_
  refine mv E fun fr E => ?_
  refine sw (v := .int .i64 _) E (run_lenR rfl rfl rfl rfl T.slice36 M.fact) fun fr E => ?_
  refine sw (v := .bool false) E (tst rfl (decide_eq_false (by omega))) fun fr E => ?_
  refine ma E fun fr E => ?_
  refine seq_nil' ?_
  refine cond_false E rfl (rfl) ?_
  refine code_region ?_
  refine mv E fun fr E => ?_
  refine sw (v := .int .i64 _) E (run_lenR rfl rfl rfl rfl T.slice36 M.fact) fun fr E => ?_
  refine sw (v := .bool true) E (tst rfl (decide_eq_true (by omega))) fun fr E => ?_
  refine ma E fun fr E => ?_
  refine seq_nil' ?_
  refine cond_true E rfl (rfl) ?_
  refine code_region ?_
  refine sw (v := .agg ([.int .i64 0, .int .i64 0, .int .i64 0, .int .i64 0, .slice none 0 0]).toArray) E (run_buildP (vs := []) (us := [.int .i64 0, .int .i64 0, .int .i64 0, .int .i64 0, .slice none 0 0]) rfl rfl T.ts99 T.zeroL99 rfl rfl rfl rfl) fun fr E => ?_
  refine sset (i := 0) (cs' := #[_, _, _, _, _]) E M rfl rfl rfl rfl rfl (run_storeN' (vs := #[_, _, _, _, _]) rfl rfl rfl T.size99 rfl (M.row (i := 0) rfl) rfl rfl rfl) rfl fun fr w M E => ?_
  refine sw E (run_assignC rfl) fun fr E => ?_
  refine seq_nil' ?_
  refine wp_ret ?_
  refine block_ret ?_
  refine then_ret ?_
  refine retC2 E rfl rfl rfl T.agg99 (M.row (i := 0) rfl) (rfl) ?_
  exact given M

set_option maxRecDepth 100000 in
theorem sGet_kind0 {N : NV} {kd at' : Int} {b : Value} {l : List UInt8} {w0 : World} (hb : Bytes w0 b l) (h1 : ¬ l.length < 17) (h2 : ¬ 1024 < l.length) (h3 : kd = 0) : Gives Tryz.prog 45 [.iface 31 (.pointer (some ⟨N.gn, 0, none⟩)), .int .i64 kd, .int .i64 at', b] w0 (.tuple #[.agg #[.int .i64 0, .int .i64 0, .int .i64 0, .int .i64 0, .slice none 0 0], .int .i64 5]) := by
  refine enter (n := 75) Tryz.func45 rfl rfl rfl ?_
  intro fr E
  have M : Mem w0 (feet []) [] (fun w' => Bytes w' b l) w0 := Mem.begin (Has.nil w0) (fun w' h => hb.held0 h)
  refine code_region ?_
  refine snew (ob := .cells #[_, _, _, _, _] 99) (fun g => .pointer (some ⟨g, 0, none⟩)) E M rfl rfl rfl rfl rfl (run_allocN rfl T.zero99) fun g0 fr w M E => ?_
  refine sw E (run_assignC rfl) fun fr E => ?_
  refine seq_nil' ?_
  refine wp_seq ?_
  refine wp_block ?_
  refine code_region ?_
  refine mv E fun fr E => ?_
  refine sw (v := .int .i64 _) E (run_lenR rfl rfl rfl rfl T.slice36 M.fact) fun fr E => ?_
  refine sw (v := .bool false) E (tst rfl (decide_eq_false (by omega))) fun fr E => ?_
  refine ma E fun fr E => ?_
  refine seq_nil' ?_
  refine cond_false E rfl (rfl) ?_
  refine code_region ?_
  refine mv E fun fr E => ?_
  refine sw (v := .int .i64 _) E (run_lenR rfl rfl rfl rfl T.slice36 M.fact) fun fr E => ?_
  refine sw (v := .bool false) E (tst rfl (decide_eq_false (by omega))) fun fr E => ?_
  refine ma E fun fr E => ?_
  refine seq_nil' ?_
  refine cond_false E rfl (rfl) ?_
  refine code_region ?_
  refine mv E fun fr E => ?_
  refine sw (v := .bool true) E (tst rfl (decide_eq_true (h3))) fun fr E => ?_
  refine mv E fun fr E => ?_
  refine sno E rfl rfl rfl rfl fun fr E => ?_
  refine sno E rfl rfl rfl rfl fun fr E => ?_
  refine sno E rfl rfl rfl rfl fun fr E => ?_
  refine sno E rfl rfl rfl rfl fun fr E => ?_
  refine sw (v := .bool _) E (rfl) fun fr E => ?_
  refine ma E fun fr E => ?_
  refine seq_nil' ?_
  refine cond_true E rfl (rfl) ?_
  refine code_region ?_
  refine sw (v := .agg ([.int .i64 0, .int .i64 0, .int .i64 0, .int .i64 0, .slice none 0 0]).toArray) E (run_buildP (vs := []) (us := [.int .i64 0, .int .i64 0, .int .i64 0, .int .i64 0, .slice none 0 0]) rfl rfl T.ts99 T.zeroL99 rfl rfl rfl rfl) fun fr E => ?_
  refine sset (i := 0) (cs' := #[_, _, _, _, _]) E M rfl rfl rfl rfl rfl (run_storeN' (vs := #[_, _, _, _, _]) rfl rfl rfl T.size99 rfl (M.row (i := 0) rfl) rfl rfl rfl) rfl fun fr w M E => ?_
  refine sw E (run_assignC rfl) fun fr E => ?_
  refine seq_nil' ?_
  refine wp_ret ?_
  refine block_ret ?_
  refine then_ret ?_
  refine retC2 E rfl rfl rfl T.agg99 (M.row (i := 0) rfl) (rfl) ?_
  exact given M

set_option maxRecDepth 100000 in
theorem sGet_kind {N : NV} {kd at' : Int} {b : Value} {l : List UInt8} {w0 : World} (hb : Bytes w0 b l) (h1 : ¬ l.length < 17) (h2 : ¬ 1024 < l.length) (h3 : ¬ kd = 0) (h4 : ¬ kindOf l = kd) : Gives Tryz.prog 45 [.iface 31 (.pointer (some ⟨N.gn, 0, none⟩)), .int .i64 kd, .int .i64 at', b] w0 (.tuple #[.agg #[.int .i64 0, .int .i64 0, .int .i64 0, .int .i64 0, .slice none 0 0], .int .i64 5]) := by
  refine enter (n := 75) Tryz.func45 rfl rfl rfl ?_
  intro fr E
  have M : Mem w0 (feet []) [] (fun w' => Bytes w' b l) w0 := Mem.begin (Has.nil w0) (fun w' h => hb.held0 h)
  refine code_region ?_
  refine snew (ob := .cells #[_, _, _, _, _] 99) (fun g => .pointer (some ⟨g, 0, none⟩)) E M rfl rfl rfl rfl rfl (run_allocN rfl T.zero99) fun g0 fr w M E => ?_
  refine sw E (run_assignC rfl) fun fr E => ?_
  refine seq_nil' ?_
  refine wp_seq ?_
  refine wp_block ?_
  refine code_region ?_
  refine mv E fun fr E => ?_
  refine sw (v := .int .i64 _) E (run_lenR rfl rfl rfl rfl T.slice36 M.fact) fun fr E => ?_
  refine sw (v := .bool false) E (tst rfl (decide_eq_false (by omega))) fun fr E => ?_
  refine ma E fun fr E => ?_
  refine seq_nil' ?_
  refine cond_false E rfl (rfl) ?_
  refine code_region ?_
  refine mv E fun fr E => ?_
  refine sw (v := .int .i64 _) E (run_lenR rfl rfl rfl rfl T.slice36 M.fact) fun fr E => ?_
  refine sw (v := .bool false) E (tst rfl (decide_eq_false (by omega))) fun fr E => ?_
  refine ma E fun fr E => ?_
  refine seq_nil' ?_
  refine cond_false E rfl (rfl) ?_
  refine code_region ?_
  refine mv E fun fr E => ?_
  refine sw (v := .bool false) E (tst rfl (decide_eq_false (h3))) fun fr E => ?_
  refine mv E fun fr E => ?_
  refine mv E fun fr E => ?_
  refine sgive E M rfl rfl rfl rfl rfl (run_call rfl rfl T.fn64) (Kind_x M.fact (by omega)) fun fr w M E => ?_
  refine mv E fun fr E => ?_
  refine sw (v := .bool true) E (tst rfl (by simp; exact h4)) fun fr E => ?_
  refine sw (v := .bool _) E (rfl) fun fr E => ?_
  refine ma E fun fr E => ?_
  refine seq_nil' ?_
  refine cond_true E rfl (rfl) ?_
  refine code_region ?_
  refine sw (v := .agg ([.int .i64 0, .int .i64 0, .int .i64 0, .int .i64 0, .slice none 0 0]).toArray) E (run_buildP (vs := []) (us := [.int .i64 0, .int .i64 0, .int .i64 0, .int .i64 0, .slice none 0 0]) rfl rfl T.ts99 T.zeroL99 rfl rfl rfl rfl) fun fr E => ?_
  refine sset (i := 0) (cs' := #[_, _, _, _, _]) E M rfl rfl rfl rfl rfl (run_storeN' (vs := #[_, _, _, _, _]) rfl rfl rfl T.size99 rfl (M.row (i := 0) rfl) rfl rfl rfl) rfl fun fr w M E => ?_
  refine sw E (run_assignC rfl) fun fr E => ?_
  refine seq_nil' ?_
  refine wp_ret ?_
  refine block_ret ?_
  refine then_ret ?_
  refine retC2 E rfl rfl rfl T.agg99 (M.row (i := 0) rfl) (rfl) ?_
  exact given M

set_option maxRecDepth 100000 in
theorem sGet_range {N : NV} {kd at' : Int} {b : Value} {l : List UInt8} {w0 : World} (hb : Bytes w0 b l) (h1 : ¬ l.length < 17) (h2 : ¬ 1024 < l.length) (h3 : ¬ kd = 0) (h4 : kindOf l = kd) (h5 : ¬ SRight (secE l) (secN l) at') : Gives Tryz.prog 45 [.iface 31 (.pointer (some ⟨N.gn, 0, none⟩)), .int .i64 kd, .int .i64 at', b] w0 (.tuple #[.agg #[.int .i64 0, .int .i64 0, .int .i64 0, .int .i64 0, .slice none 0 0], .int .i64 7]) := by
  refine enter (n := 75) Tryz.func45 rfl rfl rfl ?_
  intro fr E
  have M : Mem w0 (feet []) [] (fun w' => Bytes w' b l) w0 := Mem.begin (Has.nil w0) (fun w' h => hb.held0 h)
  refine code_region ?_
  refine snew (ob := .cells #[_, _, _, _, _] 99) (fun g => .pointer (some ⟨g, 0, none⟩)) E M rfl rfl rfl rfl rfl (run_allocN rfl T.zero99) fun g0 fr w M E => ?_
  refine sw E (run_assignC rfl) fun fr E => ?_
  refine seq_nil' ?_
  refine wp_seq ?_
  refine wp_block ?_
  refine code_region ?_
  refine mv E fun fr E => ?_
  refine sw (v := .int .i64 _) E (run_lenR rfl rfl rfl rfl T.slice36 M.fact) fun fr E => ?_
  refine sw (v := .bool false) E (tst rfl (decide_eq_false (by omega))) fun fr E => ?_
  refine ma E fun fr E => ?_
  refine seq_nil' ?_
  refine cond_false E rfl (rfl) ?_
  refine code_region ?_
  refine mv E fun fr E => ?_
  refine sw (v := .int .i64 _) E (run_lenR rfl rfl rfl rfl T.slice36 M.fact) fun fr E => ?_
  refine sw (v := .bool false) E (tst rfl (decide_eq_false (by omega))) fun fr E => ?_
  refine ma E fun fr E => ?_
  refine seq_nil' ?_
  refine cond_false E rfl (rfl) ?_
  refine code_region ?_
  refine mv E fun fr E => ?_
  refine sw (v := .bool false) E (tst rfl (decide_eq_false (h3))) fun fr E => ?_
  refine mv E fun fr E => ?_
  refine mv E fun fr E => ?_
  refine sgive E M rfl rfl rfl rfl rfl (run_call rfl rfl T.fn64) (Kind_x M.fact (by omega)) fun fr w M E => ?_
  refine mv E fun fr E => ?_
  refine sw (v := .bool false) E (tst rfl (by simp; exact h4)) fun fr E => ?_
  refine sw (v := .bool _) E (rfl) fun fr E => ?_
  refine ma E fun fr E => ?_
  refine seq_nil' ?_
  refine cond_false E rfl (rfl) ?_
  refine wp_skip ?_
  refine block_normal ?_
  refine then_normal ?_
  refine code_region ?_
  refine mv E fun fr E => ?_
  refine sw E (run_sliceR (lo := 1) (hi := 17) rfl M.fact rfl T.slice36 T.size5 (⟨_, _, rfl, rfl⟩) (⟨_, _, rfl, rfl⟩) (by decide) (by omega)) fun fr E => ?_
  refine scall E M rfl rfl rfl rfl rfl (run_call rfl rfl T.fn65) (Read_x (Bytes.cut 1 17 M.fact (by decide) (by omega)) (by simp; omega)) rfl ?_
  rintro ⟨g, rv0⟩ fr w - M E
  refine ma E fun fr E => ?_
  refine seq_nil' ?_
  refine code_region ?_
  refine mv E fun fr E => ?_
  refine mv E fun fr E => ?_
  refine scallI (rdr g rv0 ((l.drop 1).take (17 - 1)) false) E M rfl rfl rfl rfl rfl (run_call rfl rfl T.fn66) rfl (fun H => Reader_Int_x H (by simp; omega)) ?_
  rintro rv1 fr w - M E
  refine mv E fun fr E => ?_
  refine scallI (rdr g rv1 (rNext 8 ((l.drop 1).take (17 - 1), false)).1 (rNext 8 ((l.drop 1).take (17 - 1), false)).2) E M rfl rfl rfl rfl rfl (run_call rfl rfl T.fn66) rfl (fun H => Reader_Int_x H (by simp [rNext]; split <;> simp <;> omega)) ?_
  rintro rv2 fr w - M E
  refine mv E fun fr E => ?_
  refine sw (v := .agg ([_, _, _, _, .slice none 0 0]).toArray) E (run_buildP (vs := [_, _, _, _]) (us := [_, _, _, _, .slice none 0 0]) rfl rfl T.ts99 T.zeroL99 rfl rfl rfl rfl) fun fr E => ?_
  refine snew (ob := .cells #[_, _, _, _, _] 99) (fun g => .pointer (some ⟨g, 0, none⟩)) E M rfl rfl rfl rfl rfl (run_allocN rfl T.zero99) fun g1 fr w M E => ?_
  refine sset (i := 0) (cs' := #[_, _, _, _, _]) E M rfl rfl rfl rfl rfl (run_storeN' (vs := #[_, _, _, _, _]) rfl rfl rfl T.size99 rfl (M.row (i := 0) rfl) rfl rfl rfl) rfl fun fr w M E => ?_
  refine seq_nil' ?_
  refine wp_seq ?_
  refine code_region ?_
  refine sw (v := .pointer (some ⟨_, 1, none⟩)) E (run_fieldAddr rfl rfl T.fld99_1) fun fr E => ?_
  refine sw (v := .int .i64 _) E (run_loadB rfl rfl T.one3 (M.row (i := 0) rfl) rfl) fun fr E => ?_
  refine sw (v := .pointer (some ⟨_, 2, none⟩)) E (run_fieldAddr rfl rfl T.fld99_2) fun fr E => ?_
  refine sw (v := .int .i64 _) E (run_loadB rfl rfl T.one3 (M.row (i := 0) rfl) rfl) fun fr E => ?_
  refine mv E fun fr E => ?_
  refine sgive E M rfl rfl rfl rfl rfl (run_call rfl rfl T.fn67) (right_b false (decide_eq_false h5)) fun fr w M E => ?_
  refine sw (v := .bool _) E (rfl) fun fr E => ?_
  refine seq_nil' ?_
  refine cond_true E rfl (rfl) ?_
  refine code_region ?_
  refine sw (v := .agg ([.int .i64 0, .int .i64 0, .int .i64 0, .int .i64 0, .slice none 0 0]).toArray) E (run_buildP (vs := []) (us := [.int .i64 0, .int .i64 0, .int .i64 0, .int .i64 0, .slice none 0 0]) rfl rfl T.ts99 T.zeroL99 rfl rfl rfl rfl) fun fr E => ?_
  refine sset (i := 3) (cs' := #[_, _, _, _, _]) E M rfl rfl rfl rfl rfl (run_storeN' (vs := #[_, _, _, _, _]) rfl rfl rfl T.size99 rfl (M.row (i := 3) rfl) rfl rfl rfl) rfl fun fr w M E => ?_
  refine sw E (run_assignC rfl) fun fr E => ?_
  refine seq_nil' ?_
  refine wp_ret ?_
  refine then_ret ?_
  refine retC2 E rfl rfl rfl T.agg99 (M.row (i := 3) rfl) (rfl) ?_
  exact given M

set_option maxRecDepth 100000 in
theorem sGet_seal {N : NV} {kd at' : Int} {b : Value} {l : List UInt8} {w0 : World} (hb : Bytes w0 b l) (H : Has w0 [nmE N]) (hkz : N.ks.length ≤ 1099511627776) (h1 : ¬ l.length < 17) (h2 : ¬ 1024 < l.length) (h3 : ¬ kd = 0) (h4 : kindOf l = kd) (h5 : SRight (secE l) (secN l) at') (ho : openN N.ks (secE l) (secN l) (hdB kd at') (l.drop 17) = none) : Gives Tryz.prog 45 [.iface 31 (.pointer (some ⟨N.gn, 0, none⟩)), .int .i64 kd, .int .i64 at', b] w0 (.tuple #[.agg #[.int .i64 0, .int .i64 0, .int .i64 0, .int .i64 0, .slice none 0 0], .int .i64 19]) := by
  refine enter (n := 75) Tryz.func45 rfl rfl rfl ?_
  intro fr E
  have M : Mem w0 (feet []) [] (fun w' => Has w' [nmE N] ∧ Bytes w' b l) w0 := Mem.begin (Has.nil w0) (fun w' hw => ⟨H.held hw fun g hg c => feet_nil c, hb.held0 hw⟩)
  refine code_region ?_
  refine snew (ob := .cells #[_, _, _, _, _] 99) (fun g => .pointer (some ⟨g, 0, none⟩)) E M rfl rfl rfl rfl rfl (run_allocN rfl T.zero99) fun g0 fr w M E => ?_
  refine sw E (run_assignC rfl) fun fr E => ?_
  refine seq_nil' ?_
  refine wp_seq ?_
  refine wp_block ?_
  refine code_region ?_
  refine mv E fun fr E => ?_
  refine sw (v := .int .i64 _) E (run_lenR rfl rfl rfl rfl T.slice36 M.fact.2) fun fr E => ?_
  refine sw (v := .bool false) E (tst rfl (decide_eq_false (by omega))) fun fr E => ?_
  refine ma E fun fr E => ?_
  refine seq_nil' ?_
  refine cond_false E rfl (rfl) ?_
  refine code_region ?_
  refine mv E fun fr E => ?_
  refine sw (v := .int .i64 _) E (run_lenR rfl rfl rfl rfl T.slice36 M.fact.2) fun fr E => ?_
  refine sw (v := .bool false) E (tst rfl (decide_eq_false (by omega))) fun fr E => ?_
  refine ma E fun fr E => ?_
  refine seq_nil' ?_
  refine cond_false E rfl (rfl) ?_
  refine code_region ?_
  refine mv E fun fr E => ?_
  refine sw (v := .bool false) E (tst rfl (decide_eq_false (h3))) fun fr E => ?_
  refine mv E fun fr E => ?_
  refine mv E fun fr E => ?_
  refine sgive E M rfl rfl rfl rfl rfl (run_call rfl rfl T.fn64) (Kind_x M.fact.2 (by omega)) fun fr w M E => ?_
  refine mv E fun fr E => ?_
  refine sw (v := .bool false) E (tst rfl (by simp; exact h4)) fun fr E => ?_
  refine sw (v := .bool _) E (rfl) fun fr E => ?_
  refine ma E fun fr E => ?_
  refine seq_nil' ?_
  refine cond_false E rfl (rfl) ?_
  refine wp_skip ?_
  refine block_normal ?_
  refine then_normal ?_
  refine code_region ?_
  refine mv E fun fr E => ?_
  refine sw E (run_sliceR (lo := 1) (hi := 17) rfl M.fact.2 rfl T.slice36 T.size5 (⟨_, _, rfl, rfl⟩) (⟨_, _, rfl, rfl⟩) (by decide) (by omega)) fun fr E => ?_
  refine scall E M rfl rfl rfl rfl rfl (run_call rfl rfl T.fn65) (Read_x (Bytes.cut 1 17 M.fact.2 (by decide) (by omega)) (by simp; omega)) rfl ?_
  rintro ⟨g, rv0⟩ fr w - M E
  refine ma E fun fr E => ?_
  refine seq_nil' ?_
  refine code_region ?_
  refine mv E fun fr E => ?_
  refine mv E fun fr E => ?_
  refine scallI (rdr g rv0 ((l.drop 1).take (17 - 1)) false) E M rfl rfl rfl rfl rfl (run_call rfl rfl T.fn66) rfl (fun H => Reader_Int_x H (by simp; omega)) ?_
  rintro rv1 fr w - M E
  refine mv E fun fr E => ?_
  refine scallI (rdr g rv1 (rNext 8 ((l.drop 1).take (17 - 1), false)).1 (rNext 8 ((l.drop 1).take (17 - 1), false)).2) E M rfl rfl rfl rfl rfl (run_call rfl rfl T.fn66) rfl (fun H => Reader_Int_x H (by simp [rNext]; split <;> simp <;> omega)) ?_
  rintro rv2 fr w - M E
  refine mv E fun fr E => ?_
  refine sw (v := .agg ([_, _, _, _, .slice none 0 0]).toArray) E (run_buildP (vs := [_, _, _, _]) (us := [_, _, _, _, .slice none 0 0]) rfl rfl T.ts99 T.zeroL99 rfl rfl rfl rfl) fun fr E => ?_
  refine snew (ob := .cells #[_, _, _, _, _] 99) (fun g => .pointer (some ⟨g, 0, none⟩)) E M rfl rfl rfl rfl rfl (run_allocN rfl T.zero99) fun g1 fr w M E => ?_
  refine sset (i := 0) (cs' := #[_, _, _, _, _]) E M rfl rfl rfl rfl rfl (run_storeN' (vs := #[_, _, _, _, _]) rfl rfl rfl T.size99 rfl (M.row (i := 0) rfl) rfl rfl rfl) rfl fun fr w M E => ?_
  refine seq_nil' ?_
  refine wp_seq ?_
  refine code_region ?_
  refine sw (v := .pointer (some ⟨_, 1, none⟩)) E (run_fieldAddr rfl rfl T.fld99_1) fun fr E => ?_
  refine sw (v := .int .i64 _) E (run_loadB rfl rfl T.one3 (M.row (i := 0) rfl) rfl) fun fr E => ?_
  refine sw (v := .pointer (some ⟨_, 2, none⟩)) E (run_fieldAddr rfl rfl T.fld99_2) fun fr E => ?_
  refine sw (v := .int .i64 _) E (run_loadB rfl rfl T.one3 (M.row (i := 0) rfl) rfl) fun fr E => ?_
  refine mv E fun fr E => ?_
  refine sgive E M rfl rfl rfl rfl rfl (run_call rfl rfl T.fn67) (right_b true (decide_eq_true h5)) fun fr w M E => ?_
  refine sw (v := .bool _) E (rfl) fun fr E => ?_
  refine seq_nil' ?_
  refine cond_false E rfl (rfl) ?_
  refine wp_skip ?_
  refine then_normal ?_
  refine wp_seq (free_reg (B := T.tab45_11_b) (Vs := (.exact _ :: .exact (.pointer (some ⟨_, 1, none⟩)) :: .exact (.int .i64 _) :: .exact (.pointer (some ⟨_, 2, none⟩)) :: .exact (.int .i64 _) :: .exact _ :: .exact _ :: CameV w.heap.size (fun v => [Ent.bytes 5 v (hdB kd at')]) (fun _ => True) :: .exact _ :: .exact _ :: .exact (.func (.method "Open") #[.iface 31 (.pointer (some ⟨N.gn, 0, none⟩))] #[]) :: .exact (.func (.method "Open") #[.iface 31 (.pointer (some ⟨N.gn, 0, none⟩))] #[]) :: .exact _ :: .exact (.tuple #[.slice none 0 0, .bool false]) :: .exact _ :: .exact (.slice none 0 0) :: .exact (.bool false) :: .exact (.slice none 0 0) :: .exact (.bool false) :: [])) T.tab45_11_i E T.mixed T.tab45_11 rfl (AllS.lasts ⟨trivial, trivial, trivial, trivial, trivial, trivial, trivial, LastsS.cameV, trivial, trivial, trivial, trivial, trivial, trivial, trivial, trivial, trivial, trivial, trivial, trivial⟩) ⟨fv rfl rfl (fun x w hx hk => run_move rfl rfl),
      fv rfl rfl (fun x w hx hk => run_fieldAddr rfl rfl T.fld99_1),
      fv rfl rfl (fun x w hx hk => run_loadB rfl rfl T.one3 ((M.ext ((Ext.drew _).trans hx)).row (i := 0) rfl) rfl),
      fv rfl rfl (fun x w hx hk => run_fieldAddr rfl rfl T.fld99_2),
      fv rfl rfl (fun x w hx hk => run_loadB rfl rfl T.one3 ((M.ext ((Ext.drew _).trans hx)).row (i := 0) rfl) rfl),
      fv rfl rfl (fun x w hx hk => run_move rfl rfl),
      fv rfl rfl (fun x w hx hk => run_move rfl rfl),
      fs_ext rfl rfl (fun x w hx hk => ⟨_, _, rfl, rfl, rfl, run_call rfl rfl T.fn68, (head_x kd at' _).extV hx.size⟩),
      fv rfl rfl (fun x w hx hk => run_move rfl rfl),
      fv rfl rfl (fun x w hx hk => run_sliceR (lo := 17) (hi := l.length) rfl (M.ext ((Ext.drew _).trans hx)).fact.2 rfl T.slice36 T.size5 (⟨_, _, rfl, rfl⟩) (rfl) (by omega) (Nat.le_refl _)),
      fv rfl rfl (fun x w hx hk => run_makeMeth rfl rfl),
      fv rfl rfl (fun x w hx hk => run_nilCheckM rfl rfl T.meth31_Open),
      fv rfl rfl (fun x w hx hk => run_move rfl rfl),
      fs_ext rfl rfl (fun x w hx hk => ⟨_, _, rfl, rfl, rfl, run_invoke rfl rfl T.meth31_Open T.fn131, (Open_no (N := N) (e := secE l) (n := secN l) (M.ext ((Ext.drew _).trans hx)).fact.1 ((hk 7 rfl).1.reads 0 rfl) (Bytes.suf (k := 17) (M.ext ((Ext.drew _).trans hx)).fact.2 (by omega)) (by simp; omega) hkz ho).ext⟩),
      fv rfl rfl (fun x w hx hk => run_move rfl rfl),
      fv rfl rfl (fun x w hx hk => run_extract rfl rfl rfl),
      fv rfl rfl (fun x w hx hk => run_extract rfl rfl rfl),
      fv rfl rfl (fun x w hx hk => run_assign rfl rfl),
      fv rfl rfl (fun x w hx hk => run_assign rfl rfl), trivial⟩ ?_)
  intro x fr w hx hk E
  have M := M.ext hx
  refine then_normal ?_
  refine wp_seq ?_
  refine code_region ?_
  refine mv E fun fr E => ?_
  refine sw (v := .bool _) E (rfl) fun fr E => ?_
  refine seq_nil' ?_
  refine cond_true E rfl (rfl) ?_
  refine code_region ?_
  refine sw (v := .agg ([.int .i64 0, .int .i64 0, .int .i64 0, .int .i64 0, .slice none 0 0]).toArray) E (run_buildP (vs := []) (us := [.int .i64 0, .int .i64 0, .int .i64 0, .int .i64 0, .slice none 0 0]) rfl rfl T.ts99 T.zeroL99 rfl rfl rfl rfl) fun fr E => ?_
  refine sset (i := 3) (cs' := #[_, _, _, _, _]) E M rfl rfl rfl rfl rfl (run_storeN' (vs := #[_, _, _, _, _]) rfl rfl rfl T.size99 rfl (M.row (i := 3) rfl) rfl rfl rfl) rfl fun fr w M E => ?_
  refine sw E (run_assignC rfl) fun fr E => ?_
  refine seq_nil' ?_
  refine wp_ret ?_
  refine then_ret ?_
  refine retC2 E rfl rfl rfl T.agg99 (M.row (i := 3) rfl) (rfl) ?_
  exact given M

set_option maxRecDepth 100000 in
theorem sGet_ok {N : NV} {kd at' : Int} {b : Value} {l : List UInt8} {w0 : World} (hb : Bytes w0 b l) {q : List UInt8} (H : Has w0 [nmE N]) (hkz : N.ks.length ≤ 1099511627776) (h1 : ¬ l.length < 17) (h2 : ¬ 1024 < l.length) (h3 : ¬ kd = 0) (h4 : kindOf l = kd) (h5 : SRight (secE l) (secN l) at') (ho : openN N.ks (secE l) (secN l) (hdB kd at') (l.drop 17) = some q) : Does Tryz.prog 45 [.iface 31 (.pointer (some ⟨N.gn, 0, none⟩)), .int .i64 kd, .int .i64 at', b] w0 [] (fun c : Value => .tuple #[.agg #[.int .i64 kd, .int .i64 (secE l), .int .i64 (secN l), .int .i64 at', c], .int .i64 0]) (fun c => [.bytes 5 c q]) (fun _ => True) := by
  refine enter (n := 75) Tryz.func45 rfl rfl rfl ?_
  intro fr E
  have M : Mem w0 (feet []) [] (fun w' => Has w' [nmE N] ∧ Bytes w' b l) w0 := Mem.begin (Has.nil w0) (fun w' hw => ⟨H.held hw fun g hg c => feet_nil c, hb.held0 hw⟩)
  refine code_region ?_
  refine snew (ob := .cells #[_, _, _, _, _] 99) (fun g => .pointer (some ⟨g, 0, none⟩)) E M rfl rfl rfl rfl rfl (run_allocN rfl T.zero99) fun g0 fr w M E => ?_
  refine sw E (run_assignC rfl) fun fr E => ?_
  refine seq_nil' ?_
  refine wp_seq ?_
  refine wp_block ?_
  refine code_region ?_
  refine mv E fun fr E => ?_
  refine sw (v := .int .i64 _) E (run_lenR rfl rfl rfl rfl T.slice36 M.fact.2) fun fr E => ?_
  refine sw (v := .bool false) E (tst rfl (decide_eq_false (by omega))) fun fr E => ?_
  refine ma E fun fr E => ?_
  refine seq_nil' ?_
  refine cond_false E rfl (rfl) ?_
  refine code_region ?_
  refine mv E fun fr E => ?_
  refine sw (v := .int .i64 _) E (run_lenR rfl rfl rfl rfl T.slice36 M.fact.2) fun fr E => ?_
  refine sw (v := .bool false) E (tst rfl (decide_eq_false (by omega))) fun fr E => ?_
  refine ma E fun fr E => ?_
  refine seq_nil' ?_
  refine cond_false E rfl (rfl) ?_
  refine code_region ?_
  refine mv E fun fr E => ?_
  refine sw (v := .bool false) E (tst rfl (decide_eq_false (h3))) fun fr E => ?_
  refine mv E fun fr E => ?_
  refine mv E fun fr E => ?_
  refine sgive E M rfl rfl rfl rfl rfl (run_call rfl rfl T.fn64) (Kind_x M.fact.2 (by omega)) fun fr w M E => ?_
  refine mv E fun fr E => ?_
  refine sw (v := .bool false) E (tst rfl (by simp; exact h4)) fun fr E => ?_
  refine sw (v := .bool _) E (rfl) fun fr E => ?_
  refine ma E fun fr E => ?_
  refine seq_nil' ?_
  refine cond_false E rfl (rfl) ?_
  refine wp_skip ?_
  refine block_normal ?_
  refine then_normal ?_
  refine code_region ?_
  refine mv E fun fr E => ?_
  refine sw E (run_sliceR (lo := 1) (hi := 17) rfl M.fact.2 rfl T.slice36 T.size5 (⟨_, _, rfl, rfl⟩) (⟨_, _, rfl, rfl⟩) (by decide) (by omega)) fun fr E => ?_
  refine scall E M rfl rfl rfl rfl rfl (run_call rfl rfl T.fn65) (Read_x (Bytes.cut 1 17 M.fact.2 (by decide) (by omega)) (by simp; omega)) rfl ?_
  rintro ⟨g, rv0⟩ fr w - M E
  refine ma E fun fr E => ?_
  refine seq_nil' ?_
  refine code_region ?_
  refine mv E fun fr E => ?_
  refine mv E fun fr E => ?_
  refine scallI (rdr g rv0 ((l.drop 1).take (17 - 1)) false) E M rfl rfl rfl rfl rfl (run_call rfl rfl T.fn66) rfl (fun H => Reader_Int_x H (by simp; omega)) ?_
  rintro rv1 fr w - M E
  refine mv E fun fr E => ?_
  refine scallI (rdr g rv1 (rNext 8 ((l.drop 1).take (17 - 1), false)).1 (rNext 8 ((l.drop 1).take (17 - 1), false)).2) E M rfl rfl rfl rfl rfl (run_call rfl rfl T.fn66) rfl (fun H => Reader_Int_x H (by simp [rNext]; split <;> simp <;> omega)) ?_
  rintro rv2 fr w - M E
  refine mv E fun fr E => ?_
  refine sw (v := .agg ([_, _, _, _, .slice none 0 0]).toArray) E (run_buildP (vs := [_, _, _, _]) (us := [_, _, _, _, .slice none 0 0]) rfl rfl T.ts99 T.zeroL99 rfl rfl rfl rfl) fun fr E => ?_
  refine snew (ob := .cells #[_, _, _, _, _] 99) (fun g => .pointer (some ⟨g, 0, none⟩)) E M rfl rfl rfl rfl rfl (run_allocN rfl T.zero99) fun g1 fr w M E => ?_
  refine sset (i := 0) (cs' := #[_, _, _, _, _]) E M rfl rfl rfl rfl rfl (run_storeN' (vs := #[_, _, _, _, _]) rfl rfl rfl T.size99 rfl (M.row (i := 0) rfl) rfl rfl rfl) rfl fun fr w M E => ?_
  refine seq_nil' ?_
  refine wp_seq ?_
  refine code_region ?_
  refine sw (v := .pointer (some ⟨_, 1, none⟩)) E (run_fieldAddr rfl rfl T.fld99_1) fun fr E => ?_
  refine sw (v := .int .i64 _) E (run_loadB rfl rfl T.one3 (M.row (i := 0) rfl) rfl) fun fr E => ?_
  refine sw (v := .pointer (some ⟨_, 2, none⟩)) E (run_fieldAddr rfl rfl T.fld99_2) fun fr E => ?_
  refine sw (v := .int .i64 _) E (run_loadB rfl rfl T.one3 (M.row (i := 0) rfl) rfl) fun fr E => ?_
  refine mv E fun fr E => ?_
  refine sgive E M rfl rfl rfl rfl rfl (run_call rfl rfl T.fn67) (right_b true (decide_eq_true h5)) fun fr w M E => ?_
  refine sw (v := .bool _) E (rfl) fun fr E => ?_
  refine seq_nil' ?_
  refine cond_false E rfl (rfl) ?_
  refine wp_skip ?_
  refine then_normal ?_
  refine wp_seq (free_reg (B := T.tab45_11_b) (Vs := (.exact _ :: .exact (.pointer (some ⟨_, 1, none⟩)) :: .exact (.int .i64 _) :: .exact (.pointer (some ⟨_, 2, none⟩)) :: .exact (.int .i64 _) :: .exact _ :: .exact _ :: CameV w.heap.size (fun v => [Ent.bytes 5 v (hdB kd at')]) (fun _ => True) :: .exact _ :: .exact _ :: .exact (.func (.method "Open") #[.iface 31 (.pointer (some ⟨N.gn, 0, none⟩))] #[]) :: .exact (.func (.method "Open") #[.iface 31 (.pointer (some ⟨N.gn, 0, none⟩))] #[]) :: .exact _ :: CameI w.heap.size ([]) (fun c : Value => .tuple #[c, .bool true]) (fun c => [Ent.bytes 5 c q]) (fun _ => True) :: CameI w.heap.size ([]) (fun c : Value => .tuple #[c, .bool true]) (fun c => [Ent.bytes 5 c q]) (fun _ => True) :: CameI w.heap.size ([]) (fun c : Value => c) (fun c => [Ent.bytes 5 c q]) (fun _ => True) :: .exact (.bool true) :: CameI w.heap.size ([]) (fun c : Value => c) (fun c => [Ent.bytes 5 c q]) (fun _ => True) :: .exact _ :: [])) T.tab45_11_i E T.mixed T.tab45_11 rfl (AllS.lasts ⟨trivial, trivial, trivial, trivial, trivial, trivial, trivial, LastsS.cameV, trivial, trivial, trivial, trivial, trivial, LastsS.cameI, LastsS.cameI, LastsS.cameI, trivial, LastsS.cameI, trivial, trivial⟩) ⟨fv rfl rfl (fun x w hx hk => run_move rfl rfl),
      fv rfl rfl (fun x w hx hk => run_fieldAddr rfl rfl T.fld99_1),
      fv rfl rfl (fun x w hx hk => run_loadB rfl rfl T.one3 ((M.ext ((Ext.drew _).trans hx)).row (i := 0) rfl) rfl),
      fv rfl rfl (fun x w hx hk => run_fieldAddr rfl rfl T.fld99_2),
      fv rfl rfl (fun x w hx hk => run_loadB rfl rfl T.one3 ((M.ext ((Ext.drew _).trans hx)).row (i := 0) rfl) rfl),
      fv rfl rfl (fun x w hx hk => run_move rfl rfl),
      fv rfl rfl (fun x w hx hk => run_move rfl rfl),
      fs_ext rfl rfl (fun x w hx hk => ⟨_, _, rfl, rfl, rfl, run_call rfl rfl T.fn68, (head_x kd at' _).extV hx.size⟩),
      fv rfl rfl (fun x w hx hk => run_move rfl rfl),
      fv rfl rfl (fun x w hx hk => run_sliceR (lo := 17) (hi := l.length) rfl (M.ext ((Ext.drew _).trans hx)).fact.2 rfl T.slice36 T.size5 (⟨_, _, rfl, rfl⟩) (rfl) (by omega) (Nat.le_refl _)),
      fv rfl rfl (fun x w hx hk => run_makeMeth rfl rfl),
      fv rfl rfl (fun x w hx hk => run_nilCheckM rfl rfl T.meth31_Open),
      fv rfl rfl (fun x w hx hk => run_move rfl rfl),
      fs_ext rfl rfl (fun x w hx hk => ⟨_, _, rfl, rfl, rfl, run_invoke rfl rfl T.meth31_Open T.fn131, (Open_yes (N := N) (e := secE l) (n := secN l) (M.ext ((Ext.drew _).trans hx)).fact.1 ((hk 7 rfl).1.reads 0 rfl) (Bytes.suf (k := 17) (M.ext ((Ext.drew _).trans hx)).fact.2 (by omega)) (by simp; omega) hkz ho).extI hx.size⟩),
      fs_on (j := 13) rfl rfl rfl rfl (fun x w y hy => ⟨rfl, rfl, rfl, run_moveV rfl hy⟩),
      fs_on (j := 14) rfl rfl rfl rfl (fun x w y hy => ⟨rfl, rfl, rfl, run_extractV rfl hy rfl⟩),
      fs_of (j := 14) rfl rfl rfl rfl (fun x w y hy => ⟨rfl, rfl, rfl, run_extractV rfl hy rfl⟩),
      fs_on (j := 15) rfl rfl rfl rfl (fun x w y hy => ⟨rfl, rfl, rfl, run_assignV rfl hy⟩),
      fv rfl rfl (fun x w hx hk => run_assign rfl rfl), trivial⟩ ?_)
  intro x fr w hx hk E
  obtain ⟨c, hy, -, M⟩ := M.came (val := fun c : Value => c) (outs := fun c => [Ent.bytes 5 c q]) (p := fun _ => True) hx (hk 17 (by decide))
  have E := Env.say (t := 12) E rfl hy
  refine then_normal ?_
  refine wp_seq ?_
  refine code_region ?_
  refine mv E fun fr E => ?_
  refine sw (v := .bool _) E (rfl) fun fr E => ?_
  refine seq_nil' ?_
  refine cond_false E rfl (rfl) ?_
  refine wp_skip ?_
  refine then_normal ?_
  refine code_region ?_
  refine mv E fun fr E => ?_
  refine sw (v := .pointer (some ⟨_, 4, none⟩)) E (run_fieldAddr rfl rfl T.fld99_4) fun fr E => ?_
  refine sset (i := 1) (cs' := #[.int .i64 kd, .int .i64 (secE l), .int .i64 (secN l), .int .i64 at', c]) E M rfl rfl rfl rfl rfl (run_store1' (v := _) rfl rfl rfl T.size36 (M.row (i := 1) rfl) (rfl) (Reads.one (M.reads 0 rfl)) (rfl)) rfl fun fr w M E => ?_
  refine seq_nil' ?_
  refine code_region ?_
  refine sw (v := .agg #[_, _, _, _, _]) E (run_loadAll rfl rfl T.agg99 (M.row (i := 1) rfl) rfl) fun fr E => ?_
  refine sset (i := 4) (cs' := #[.int .i64 kd, .int .i64 (secE l), .int .i64 (secN l), .int .i64 at', c]) E M rfl rfl rfl rfl rfl (run_storeN' (vs := #[.int .i64 kd, .int .i64 (secE l), .int .i64 (secN l), .int .i64 at', c]) rfl rfl rfl T.size99 rfl (M.row (i := 4) rfl) rfl (by obtain ⟨b', c', e'⟩ := Reads.slice (M.reads 0 rfl); rw [e']; rfl) rfl) rfl fun fr w M E => ?_
  refine sw E (run_assignC rfl) fun fr E => ?_
  refine seq_nil' ?_
  refine wp_ret ?_
  refine retC2 E rfl rfl rfl T.agg99 (M.row (i := 4) rfl) (rfl) ?_
  exact ⟨c, rfl, Mem.fin (L := [.bytes 5 c q] ++ _) M (List.sublist_append_left _ _) trivial⟩
end Go.Proofs.YtnebjbgcibjohaaGreat.K
end
section
namespace Go.Proofs.YtnebjbgcibjohaaGreat.K
open Go.RowKit Go.Rill Go.Proofs
set_option linter.unusedVariables false
set_option linter.unusedSimpArgs false
/-- What a disk has. -/
structure AD where
  n : Nat
  last : List (List UInt8)
  cache : List (Int × List UInt8)
  armed : Bool
  left : Int
  off : Bool
  writes : Int
  reads : List Int
def AD.new (k : Nat) : AD := ⟨k, List.replicate k [], [], false, 0, false, 0, List.replicate k 0⟩
def aget (c : List (Int × List UInt8)) (k : Int) : Option (List UInt8) := (c.find? fun p => p.1 == k).map (·.2)
def aput (k : Int) (l : List UInt8) : List (Int × List UInt8) → List (Int × List UInt8)
  | [] => [(k, l)]
  | p :: r => if k = p.1 then (k, l) :: r else p :: aput k l r
/-- What is read of a sector. -/
def AD.read (A : AD) (j : Nat) : List UInt8 := match aget A.cache j with | some l => l | none => (A.last[j]?).getD []
def AD.bump (A : AD) (j : Nat) : AD := { A with reads := A.reads.modify j fun r => w64 (r + 1) }
def AD.there (A : AD) (i : Int) : Prop := 0 ≤ i ∧ i < (A.n : Int)
instance (A : AD) (i : Int) : Decidable (A.there i) := by unfold AD.there; infer_instance
/-- An operation: its answer, and what is left. -/
def AD.spend (A : AD) : Int × AD := if A.off = true then (12, A) else if A.armed = true ∧ A.left = 0 then (12, { A with off := true }) else (0, { A with left := w64 (A.left - 1) })
def AD.write (A : AD) (i : Int) (l : List UInt8) : Int × AD :=
  if A.off = true then (12, A) else if ¬ A.there i then (7, A) else if 1024 < l.length then (3, A) else if A.armed = true ∧ A.left = 0 then (12, { A with off := true })
  else (0, { A with left := w64 (A.left - 1), cache := aput i l A.cache, writes := w64 (A.writes + 1) })
/-- What the cache's entries read as. -/
def CRel (ps : List (Value × List UInt8)) : List IE → List (Int × List UInt8) → Prop
  | [], [] => True
  | e :: r, p :: q => (e.key = p.1 ∧ (e.val, p.2) ∈ ps ∧ p.2.length ≤ 1024) ∧ CRel ps r q
  | _, _ => False
def LRel (ps : List (Value × List UInt8)) : List Value → List (List UInt8) → Prop
  | [], [] => True
  | v :: r, l :: q => ((v, l) ∈ ps ∧ l.length ≤ 1024) ∧ LRel ps r q
  | _, _ => False
structure Dsk.Abs (S : Dsk) (A : AD) : Prop where
  n : S.n = A.n
  max : A.n ≤ 4096
  len : A.last.length = A.n
  rlen : A.reads.length = A.n
  last : LRel S.ps S.lasts A.last
  cache : CRel S.ps S.cache A.cache
  keys : (A.cache.map (·.1)).Nodup ∧ ∀ p ∈ A.cache, A.there p.1
  born : (S.cache.map (·.born)).Nodup ∧ ∀ e ∈ S.cache, e.born < S.clock
  armed : S.armed = A.armed
  left : S.left = A.left
  off : S.off = A.off
  writes : S.writes = A.writes
  reads : S.reads = A.reads
structure DV where
  gd : Nat
  gm : Nat
  lv : Value
  rv : Value
  S : Dsk
abbrev dk (D : DV) : List Ent := dsk D.gd D.gm D.lv D.rv D.S
abbrev dkE (D : DV) : Ent := Ent.all (dk D)
def DV.is (D : DV) (g : Nat) (A : AD) : Prop := D.gd = g ∧ D.S.Abs A
def DV.new (k : Nat) (q : Nat × Nat × Nat × Nat) : DV := ⟨q.1, q.2.1, .slice (some ⟨q.2.2.1, 0, none⟩) k k, .slice (some ⟨q.2.2.2, 0, none⟩) k k, ⟨k, List.replicate k (.slice none 0 0), [], 0, false, 0, false, 0, List.replicate k 0, [(.slice none 0 0, [])]⟩⟩
theorem lrel_new (ps : List (Value × List UInt8)) (h : (.slice none 0 0, []) ∈ ps) : ∀ k, LRel ps (List.replicate k (.slice none 0 0)) (List.replicate k [])
  | 0 => trivial
  | k + 1 => ⟨⟨h, by decide⟩, lrel_new ps h k⟩
theorem DV.new_is (k : Nat) (q : Nat × Nat × Nat × Nat) (h : k ≤ 4096) : (DV.new k q).is (DV.new k q).gd (AD.new k) :=
  ⟨rfl, ⟨rfl, h, List.length_replicate, List.length_replicate, lrel_new _ (List.mem_singleton.2 rfl) k, trivial, ⟨List.nodup_nil, fun p hp => nomatch hp⟩, ⟨List.nodup_nil, fun e he => nomatch he⟩, rfl, rfl, rfl, rfl, rfl⟩⟩
theorem lrel_mono {x : Value × List UInt8} {ps : List (Value × List UInt8)} : ∀ {vs : List Value} {ls : List (List UInt8)}, LRel ps vs ls → LRel (x :: ps) vs ls
  | [], [], _ => trivial
  | [], _ :: _, h => h.elim
  | _ :: _, [], h => h.elim
  | v :: vs, l :: ls, h => ⟨⟨List.mem_cons_of_mem _ h.1.1, h.1.2⟩, lrel_mono h.2⟩
theorem lrel_get {ps : List (Value × List UInt8)} : ∀ {vs : List Value} {ls : List (List UInt8)} {j : Nat} {v : Value}, LRel ps vs ls → vs[j]? = some v → ∃ l, ls[j]? = some l ∧ (v, l) ∈ ps ∧ l.length ≤ 1024
  | [], _, _, _, _, h => by simp at h
  | _ :: _, [], _, _, h, _ => h.elim
  | u :: vs, l :: ls, 0, v, h, hv => by
    simp only [List.getElem?_cons_zero, Option.some.injEq] at hv
    subst hv
    exact ⟨l, rfl, h.1.1, h.1.2⟩
  | u :: vs, l :: ls, j + 1, v, h, hv => by
    obtain ⟨m, h1, h2⟩ := lrel_get (j := j) h.2 (by simpa using hv)
    exact ⟨m, by simpa using h1, h2⟩
theorem lrel_len {ps : List (Value × List UInt8)} : ∀ {vs : List Value} {ls : List (List UInt8)}, LRel ps vs ls → vs.length = ls.length
  | [], [], _ => rfl
  | [], _ :: _, h => h.elim
  | _ :: _, [], h => h.elim
  | v :: vs, l :: ls, h => by simp [lrel_len h.2]
theorem crel_mono {x : Value × List UInt8} {ps : List (Value × List UInt8)} : ∀ {es : List IE} {c : List (Int × List UInt8)}, CRel ps es c → CRel (x :: ps) es c
  | [], [], _ => trivial
  | [], _ :: _, h => h.elim
  | _ :: _, [], h => h.elim
  | v :: vs, l :: ls, h => ⟨⟨h.1.1, List.mem_cons_of_mem _ h.1.2.1, h.1.2.2⟩, crel_mono h.2⟩
theorem iat_map (k : Int) : ∀ (es : List IE) (i : Nat), (iat k es i).map (·.2) = iget es k
  | [], i => rfl
  | e :: r, i => by
    unfold iget iat
    split
    · rfl
    · have h1 := iat_map k r (i + 1)
      have h2 := iat_map k r (0 + 1)
      rw [h1, h2]
theorem iget_cons (k : Int) (e : IE) (r : List IE) : iget (e :: r) k = if k = e.key then some e.val else iget r k := by
  rw [← iat_map k (e :: r) 0]
  unfold iat
  split
  · rfl
  · exact iat_map k r 1
theorem aget_cons (k : Int) (p : Int × List UInt8) (r : List (Int × List UInt8)) : aget (p :: r) k = if k = p.1 then some p.2 else aget r k := by
  unfold aget
  rw [List.find?_cons]
  by_cases h : k = p.1
  · rw [if_pos h]; simp [h]
  · rw [if_neg h]
    have : (p.1 == k) = false := by simpa using fun c => h c.symm
    rw [this]
theorem crel_some {ps : List (Value × List UInt8)} {k : Int} {v : Value} : ∀ {es : List IE} {c : List (Int × List UInt8)}, CRel ps es c → iget es k = some v → ∃ l, aget c k = some l ∧ (v, l) ∈ ps ∧ l.length ≤ 1024
  | [], _, _, h => by cases h
  | _ :: _, [], h, _ => h.elim
  | e :: r, p :: q, h, hv => by
    rw [iget_cons] at hv
    rw [aget_cons]
    split at hv
    · rename_i hk
      injection hv with hv
      subst hv
      rw [if_pos (hk.trans h.1.1)]
      exact ⟨_, rfl, h.1.2⟩
    · rename_i hk
      rw [if_neg (fun c => hk (c.trans h.1.1.symm))]
      exact crel_some h.2 hv
theorem crel_none {ps : List (Value × List UInt8)} {k : Int} : ∀ {es : List IE} {c : List (Int × List UInt8)}, CRel ps es c → iget es k = none → aget c k = none
  | [], [], _, _ => rfl
  | [], _ :: _, h, _ => h.elim
  | _ :: _, [], h, _ => h.elim
  | e :: r, p :: q, h, hv => by
    rw [iget_cons] at hv
    rw [aget_cons]
    split at hv
    · cases hv
    · rename_i hk
      rw [if_neg (fun c => hk (c.trans h.1.1.symm))]
      exact crel_none h.2 hv
theorem crel_put {ps : List (Value × List UInt8)} {k : Int} {v : Value} {l : List UInt8} {cl : Nat} (hl : l.length ≤ 1024) : ∀ {es : List IE} {c : List (Int × List UInt8)}, CRel ps es c → CRel ((v, l) :: ps) (iput k v cl es).1 (aput k l c)
  | [], [], _ => ⟨⟨rfl, List.mem_cons_self .., hl⟩, trivial⟩
  | [], _ :: _, h => h.elim
  | _ :: _, [], h => h.elim
  | e :: r, p :: q, h => by
    unfold iput aput
    by_cases hk : k = e.key
    · rw [if_pos hk, if_pos (hk.trans h.1.1)]
      exact ⟨⟨rfl, List.mem_cons_self .., hl⟩, crel_mono h.2⟩
    · rw [if_neg hk, if_neg (fun c => hk (c.trans h.1.1.symm))]
      exact ⟨⟨h.1.1, List.mem_cons_of_mem _ h.1.2.1, h.1.2.2⟩, crel_put hl h.2⟩
theorem aput_mem {k : Int} {l : List UInt8} {p : Int × List UInt8} : ∀ {c : List (Int × List UInt8)}, p ∈ aput k l c → p = (k, l) ∨ p ∈ c
  | [], h => by simp [aput] at h; exact .inl h
  | q :: r, h => by
    unfold aput at h
    split at h
    · rcases List.mem_cons.1 h with h | h
      · exact .inl h
      · exact .inr (List.mem_cons_of_mem _ h)
    · rcases List.mem_cons.1 h with h | h
      · exact .inr (h ▸ List.mem_cons_self ..)
      · exact (aput_mem h).imp id (List.mem_cons_of_mem _)
theorem aput_keys {A : AD} {k : Int} {l : List UInt8} (hk : A.there k) (h : (A.cache.map (·.1)).Nodup ∧ ∀ p ∈ A.cache, A.there p.1) : ((aput k l A.cache).map (·.1)).Nodup ∧ ∀ p ∈ aput k l A.cache, A.there p.1 := by
  refine ⟨?_, fun p hp => (aput_mem hp).elim (fun e => e ▸ hk) (h.2 p)⟩
  have h := h.1
  generalize A.cache = c at h
  induction c with
  | nil => simp [aput]
  | cons p r ih =>
    rw [List.map_cons, List.nodup_cons] at h
    unfold aput
    split
    · rename_i e
      rw [List.map_cons, List.nodup_cons]
      exact ⟨by rw [e]; exact h.1, h.2⟩
    · rename_i e
      rw [List.map_cons, List.nodup_cons]
      refine ⟨fun hm => ?_, ih h.2⟩
      obtain ⟨q, hq, hqe⟩ := List.mem_map.1 hm
      rcases aput_mem hq with rfl | hq
      · exact e hqe
      · exact h.1 (List.mem_map.2 ⟨q, hq, hqe⟩)
theorem iput_le {k : Int} {v : Value} {cl : Nat} : ∀ {es : List IE}, cl ≤ (iput k v cl es).2 ∧ ∀ e ∈ (iput k v cl es).1, e.born = cl ∧ (iput k v cl es).2 = cl + 1 ∨ ∃ e' ∈ es, e'.born = e.born
  | [] => ⟨Nat.le_succ _, fun e he => by simp [iput] at he; subst he; exact .inl ⟨rfl, rfl⟩⟩
  | a :: r => by
    unfold iput
    split
    · exact ⟨Nat.le_refl _, fun e he => by
        rcases List.mem_cons.1 he with rfl | he
        · exact .inr ⟨a, List.mem_cons_self .., rfl⟩
        · exact .inr ⟨e, List.mem_cons_of_mem _ he, rfl⟩⟩
    · have ih := iput_le (k := k) (v := v) (cl := cl) (es := r)
      refine ⟨ih.1, fun e he => ?_⟩
      rcases List.mem_cons.1 he with rfl | he
      · exact .inr ⟨e, List.mem_cons_self .., rfl⟩
      · rcases ih.2 e he with h | ⟨e', h1, h2⟩
        · exact .inl h
        · exact .inr ⟨e', List.mem_cons_of_mem _ h1, h2⟩
theorem iput_born {k : Int} {v : Value} {cl : Nat} {es : List IE} (h : (es.map (·.born)).Nodup ∧ ∀ e ∈ es, e.born < cl) : ((iput k v cl es).1.map (·.born)).Nodup ∧ ∀ e ∈ (iput k v cl es).1, e.born < (iput k v cl es).2 := by
  have hle := iput_le (k := k) (v := v) (cl := cl) (es := es)
  refine ⟨?_, fun e he => ?_⟩
  · obtain ⟨h1, h2⟩ := h
    clear hle
    induction es with
    | nil => simp [iput]
    | cons a r ih =>
      rw [List.map_cons, List.nodup_cons] at h1
      unfold iput
      split
      · rw [List.map_cons, List.nodup_cons]; exact h1
      · rw [List.map_cons, List.nodup_cons]
        refine ⟨fun hm => ?_, ih h1.2 fun e he => h2 e (List.mem_cons_of_mem _ he)⟩
        obtain ⟨e, he, hb⟩ := List.mem_map.1 hm
        rcases (iput_le (k := k) (v := v) (cl := cl) (es := r)).2 e he with ⟨h3, _⟩ | ⟨e', h3, h4⟩
        · have := h2 a (List.mem_cons_self ..); omega
        · exact h1.1 (List.mem_map.2 ⟨e', h3, h4.trans hb⟩)
  · rcases hle.2 e he with ⟨h1, h2⟩ | ⟨e', h1, h2⟩
    · omega
    · have := h.2 e' h1; have := hle.1; omega
theorem Dsk.Abs.ok {S : Dsk} {A : AD} (h : S.Abs A) : S.Ok where
  len := by rw [lrel_len h.last, h.len, h.n]
  rlen := by rw [h.reads, h.rlen, h.n]
  max := by rw [h.n]; exact h.max
  lasts v hv := by
    obtain ⟨j, hj, rfl⟩ := List.getElem_of_mem hv
    obtain ⟨l, h1, h2, h3⟩ := lrel_get h.last (List.getElem?_eq_getElem hj)
    exact ⟨l, h2, h3⟩
  cache e he := by
    have := h.cache
    revert he this
    generalize S.cache = es
    generalize A.cache = c
    induction es generalizing c with
    | nil => intro he; cases he
    | cons a r ih =>
      intro he hc
      cases c with
      | nil => exact hc.elim
      | cons p q =>
        rcases List.mem_cons.1 he with rfl | he
        · exact ⟨p.2, hc.1.2⟩
        · exact ih q he hc.2
/-- The parts of a disk that is being made, each alone. -/
def NewD (B0 k : Nat) (w : World) (v : Value) : Prop := ∃ lv mv rv, v = .agg #[lv, mv, .bool false, .int .i64 0, .bool false, .int .i64 0, rv] ∧ NewS B0 36 k (.slice none 0 0) w lv ∧ NewM B0 w mv ∧ NewS B0 3 k (.int .i64 0) w rv
theorem NewD.ext {B0 k : Nat} {w w' : World} {v : Value} (h : NewD B0 k w v) (hx : Ext w w') : NewD B0 k w' v := by
  obtain ⟨lv, mv, rv, h0, h1, h2, h3⟩ := h
  exact ⟨lv, mv, rv, h0, h1.ext hx, h2.ext hx, h3.ext hx⟩
theorem newD_fs {ρ : Operand → Value} {o : Oper} {w : World} {k B0 : Nat} {X Y Z : Operand} {lv mv rv : Value} (h1 : NewS B0 36 k (.slice none 0 0) w lv) (h2 : NewM B0 w mv) (h3 : NewS B0 3 k (.int .i64 0) w rv) (ho : o.op = .build 71 #[(0, X), (1, Y), (6, Z)]) (hX : ρ X = lv) (hY : ρ Y = mv) (hZ : ρ Z = rv)
    (ht : tyStruct Tryz.prog 71 [1, 1, 1, 1, 1, 1, 1] [.slice none 0 0, .map none, .bool false, .int .i64 0, .bool false, .int .i64 0, .slice none 0 0] = true) (hz : zeroOf Tryz.prog 71 = some (.agg [.slice none 0 0, .map none, .bool false, .int .i64 0, .bool false, .int .i64 0, .slice none 0 0].toArray)) :
    ∃ v w', (execOp ρ o).run Tryz.prog w = .ok (.value v) w' ∧ Ext w w' ∧ NewD B0 k w' v := by
  obtain ⟨g1, rfl, a1, b1⟩ := h1
  obtain ⟨g2, rfl, a2, b2⟩ := h2
  obtain ⟨g3, rfl, a3, b3⟩ := h3
  have hr := run_buildQ (P := Tryz.prog) (ρ := ρ) (w := w) (ps := [(0, X), (1, Y), (6, Z)]) (qs := [(0, .slice (some ⟨g1, 0, none⟩) k k), (1, .map (some g2)), (6, .slice (some ⟨g3, 0, none⟩) k k)]) (us := #[.slice (some ⟨g1, 0, none⟩) k k, .map (some g2), .bool false, .int .i64 0, .bool false, .int .i64 0, .slice (some ⟨g3, 0, none⟩) k k]) ho (by simp [hX, hY, hZ]) ht hz rfl
  exact ⟨_, _, hr, Ext.refl _, _, _, _, rfl, ⟨g1, rfl, a1, b1⟩, ⟨g2, rfl, a2, b2⟩, ⟨g3, rfl, a3, b3⟩⟩
theorem newB_fs {ρ : Operand → Value} {o : Oper} {w : World} {k B0 : Nat} {X : Operand} {v : Value} (hk : 1 ≤ k) (hk2 : k ≤ 4096) (hB : B0 ≤ w.heap.size) (h : NewD B0 k w v) (ho : o.op = .box 71 X) (hX : ρ X = v) :
    ∃ u w', (execOp ρ o).run Tryz.prog w = .ok (.value u) w' ∧ Ext w w' ∧ ∃ q : Nat × Nat × Nat × Nat, u = .pointer (some ⟨q.1, 0, none⟩) ∧ Has w' (dk (DV.new k q)) ∧ (∀ g, feet (dk (DV.new k q)) g → feet [] g ∨ B0 ≤ g) ∧ True := by
  obtain ⟨lv, mv, rv, rfl, ⟨g1, rfl, a1, b1⟩, ⟨g2, rfl, a2, b2⟩, ⟨g3, rfl, a3, b3⟩⟩ := h
  have hr := run_boxN (P := Tryz.prog) (w := w) ho hX
  have lt : ∀ {g : Nat} {ob : Obj}, w.heap[g]? = some ob → g < w.heap.size := fun h => (Array.getElem?_eq_some_iff.1 h).1
  have hx := Ext.alloc w (.cells #[.slice (some ⟨g1, 0, none⟩) k k, .map (some g2), .bool false, .int .i64 0, .bool false, .int .i64 0, .slice (some ⟨g3, 0, none⟩) k k] 71)
  have l1 := lt a1; have l2 := lt a2; have l3 := lt a3
  have n12 : g1 ≠ g2 := fun e => by subst e; rw [a1] at a2; cases a2
  have n13 : g1 ≠ g3 := fun e => by subst e; rw [a1] at a3; simp at a3
  have n23 : g2 ≠ g3 := fun e => by subst e; rw [a2] at a3; cases a3
  have c1 := (hx.block g1 l1).trans a1; have c2 := (hx.block g2 l2).trans a2; have c3 := (hx.block g3 l3).trans a3
  have c0 := new_blk w (.cells #[.slice (some ⟨g1, 0, none⟩) k k, .map (some g2), .bool false, .int .i64 0, .bool false, .int .i64 0, .slice (some ⟨g3, 0, none⟩) k k] 71)
  have icr : ic (List.replicate k 0) = List.replicate k (.int .i64 0) := by simp [ic]
  have o1 := row_of (g := g1) (k := k) (c := k) (sz := 1) (e := 36) c1 (by simp) (Nat.le_refl _) (by simp only [maxLen]; omega)
  have o3 := row_of (g := g3) (k := k) (c := k) (sz := 1) (e := 3) c3 (by simp) (Nat.le_refl _) (by simp only [maxLen]; omega)
  have hf : ∀ e ∈ dk (DV.new k (w.heap.size, g2, g1, g3)), ∀ g ∈ e.foot, g = w.heap.size ∨ g = g1 ∨ g = g2 ∨ g = g3 := fun e he g hg => by
    simp only [dk, dsk, DV.new, List.mem_cons, List.not_mem_nil, or_false] at he
    rcases he with rfl | rfl | rfl | rfl | rfl <;> simp [Ent.blk, Ent.row, Ent.pool, Value.ownBlock] at hg <;> simp [hg]
  refine ⟨_, _, hr, hx, (w.heap.size, g2, g1, g3), rfl, ⟨fun e he => ?_, fun e he g hg => ?_, ?_⟩, fun g ⟨e, he, hg⟩ => .inr ?_, trivial⟩
  · simp only [dk, dsk, DV.new, List.mem_cons, List.not_mem_nil, or_false] at he
    rcases he with rfl | rfl | rfl | rfl | rfl
    · exact c0
    · have := o1
      simp only [Nat.mul_one] at this
      rw [List.take_of_length_le (by simp)] at this
      exact this
    · exact c2
    · have := o3
      simp only [Nat.mul_one] at this
      rw [List.take_of_length_le (by simp)] at this
      rw [← icr] at this
      exact this
    · intro q hq
      simp only [List.mem_singleton] at hq
      subst hq
      exact Bytes.nil _
  · have := hx.size
    rcases hf e he g hg with rfl | rfl | rfl | rfl
    · simp
    · omega
    · omega
    · omega
  · refine apart_nodup ?_
    show [w.heap.size, g1, g2, g3].Nodup
    simp only [List.nodup_cons, List.mem_cons, List.not_mem_nil, or_false, not_or, List.nodup_nil, and_true, not_false_eq_true]
    exact ⟨⟨by omega, by omega, by omega⟩, ⟨n12, n13⟩, n23⟩
  · rcases hf e he g hg with rfl | rfl | rfl | rfl
    · exact hB
    · exact b1
    · exact b2
    · exact b3
set_option maxRecDepth 100000 in
theorem dNew_ok {k : Nat} {w0 : World} (h : 1 ≤ k) (h2 : k ≤ 4096) : Does Tryz.prog 6 [.int .i64 (k : Int)] w0 [] (fun D : DV => .tuple #[.pointer (some ⟨D.gd, 0, none⟩), .int .i64 0]) (fun D => [dkE D]) (fun D => D.is D.gd (AD.new k)) := by
  refine enter (n := 17) Tryz.func6 rfl rfl rfl ?_
  intro fr E
  have M : Mem w0 (feet []) [] (fun _ => True) w0 := Mem.begin (Has.nil w0) (fun _ _ => trivial)
  refine code_region ?_
  refine sw E (run_assignC rfl) fun fr E => ?_
  refine sw E (run_assignC rfl) fun fr E => ?_
  refine seq_nil' ?_
  refine wp_seq ?_
  refine code_region ?_
  refine mv E fun fr E => ?_
  refine sw (v := .bool false) E (tst rfl (decide_eq_false (by omega))) fun fr E => ?_
  refine mv E fun fr E => ?_
  refine mv E fun fr E => ?_
  refine sw (v := .bool false) E (tst rfl (decide_eq_false (by omega))) fun fr E => ?_
  refine sw (v := .bool _) E (rfl) fun fr E => ?_
  refine seq_nil' ?_
  refine cond_false E rfl (rfl) ?_
  refine wp_skip ?_
  refine then_normal ?_
  let w : World := w0
  refine wp_seq (free_reg (B := T.tab6_3_b) (Vs := (.exact _ :: (.rel fun w' v => NewS w.heap.size 36 k (.slice none 0 0) w' v) :: (.rel fun w' v => NewM w.heap.size w' v) :: .exact _ :: (.rel fun w' v => NewS w.heap.size 3 k (.int .i64 0) w' v) :: (.rel fun w' v => NewD w.heap.size k w' v) :: CameI w.heap.size [] (fun q : Nat × Nat × Nat × Nat => .pointer (some ⟨q.1, 0, none⟩)) (fun q => dk (DV.new k q)) (fun _ => True) :: CameI w.heap.size ([]) (fun q : Nat × Nat × Nat × Nat => .pointer (some ⟨q.1, 0, none⟩)) (fun q => dk (DV.new k q)) (fun _ => True) :: .exact _ :: [])) T.tab6_3_i E T.mixed T.tab6_3 rfl (AllS.lasts ⟨trivial, (fun w w' v hx h => h.ext hx), (fun w w' v hx h => h.ext hx), trivial, (fun w w' v hx h => h.ext hx), (fun w w' v hx h => h.ext hx), LastsS.cameI, LastsS.cameI, trivial, trivial⟩) ⟨fv rfl rfl (fun x w hx hk => run_move rfl rfl),
      fs_rel rfl rfl (fun x w hx hk => ⟨rfl, rfl, rfl, made_new hx.size rfl rfl rfl rfl rfl T.slice68 T.zt36 T.zc36 T.by36 (by omega)⟩),
      fs_rel rfl rfl (fun x w hx hk => ⟨rfl, rfl, rfl, map_new hx.size rfl⟩),
      fv rfl rfl (fun x w hx hk => run_move rfl rfl),
      fs_rel rfl rfl (fun x w hx hk => ⟨rfl, rfl, rfl, made_new hx.size rfl rfl rfl rfl rfl T.slice33 T.zt3 T.zc3 T.by3 (by omega)⟩),
      fs_rel rfl rfl (fun x w hx hk => ⟨rfl, rfl, rfl, newD_fs (hk 1 rfl) (hk 2 rfl) (hk 4 rfl) rfl rfl rfl rfl T.ts71 T.zeroL71⟩),
      fs_rel rfl rfl (fun x w hx hk => ⟨rfl, rfl, rfl, newB_fs (by omega) (by omega) hx.size (hk 5 rfl) rfl rfl⟩),
      fs_on (j := 6) rfl rfl rfl rfl (fun x w y hy => ⟨rfl, rfl, rfl, run_assignV rfl hy⟩),
      fv rfl rfl (fun x w hx hk => run_assignC rfl), trivial⟩ ?_)
  intro x fr w hx hk E
  obtain ⟨q, hy, -, M⟩ := M.came (val := fun q : Nat × Nat × Nat × Nat => .pointer (some ⟨q.1, 0, none⟩)) (outs := fun q => dk (DV.new k q)) (p := fun _ => True) hx (hk 7 (by decide))
  have E := Env.say (t := 2) E rfl hy
  refine then_normal ?_
  refine wp_ret ?_
  refine ret2 E rfl rfl rfl ?_
  have M : Mem w0 (feet []) (dk (DV.new k q) ++ []) (fun _ => True) w := M
  exact ⟨DV.new k q, rfl, M.pack.fin (List.Sublist.refl _) (DV.new_is k q (by omega))⟩

theorem Read_a {D : DV} {g : Nat} {A : AD} {w0 : World} (H : Has w0 [dkE D]) (hD : D.is g A) {j : Nat} (hj : j < A.n) : Does Tryz.prog 21 [.pointer (some ⟨g, 0, none⟩), .int .i64 (j : Int)] w0 [dkE D] (fun x : Value × DV => .tuple #[x.1, .int .i64 0]) (fun x => [Ent.bytes 5 x.1 (A.read j)] ++ [dkE x.2]) (fun x => x.2.is g (A.bump j)) := by
  obtain ⟨gd, gm, lv, rv, S⟩ := D
  obtain ⟨hg, hA⟩ := hD
  have hg : gd = g := hg
  have hA : S.Abs A := hA
  subst hg
  have hj' : j < S.n := by rw [hA.n]; exact hj
  have hrl : j < S.reads.length := by rw [hA.reads, hA.rlen]; exact hj
  have hb : ({ S with reads := S.reads.set j (w64 (S.reads[j] + 1)) } : Dsk).Abs (A.bump j) := by
    refine ⟨hA.n, hA.max, hA.len, ?_, hA.last, hA.cache, hA.keys, hA.born, hA.armed, hA.left, hA.off, hA.writes, ?_⟩
    · show (A.reads.modify j _).length = _; simp [hA.rlen, AD.bump]
    · show S.reads.set j _ = A.reads.modify j _
      have e := hA.reads
      rw [← e]
      apply List.ext_getElem?
      intro m
      rw [List.getElem?_modify, List.getElem?_set]
      by_cases c : j = m
      · subst c; simp [hrl]
      · simp [c]
  cases hc : iget S.cache (j : Int) with
  | some v =>
    obtain ⟨l, h1, h2, h3⟩ := crel_some hA.cache hc
    have e : A.read j = l := by unfold AD.read; rw [h1]
    rw [e]
    exact Does.packed (B := fun x : Value × DV => [Ent.bytes 5 x.1 l]) (C := fun x => dk x.2) (fun H' => Read_cached H' hA.ok hj' h2 h3 hc) H fun c _ => ⟨(c, ⟨gd, gm, lv, rv, _⟩), rfl, rfl, rfl, hb⟩
  | none =>
    have h1 := crel_none hA.cache hc
    obtain ⟨v, hv⟩ : ∃ v, S.lasts[j]? = some v := ⟨_, List.getElem?_eq_getElem (by rw [hA.ok.len]; exact hj')⟩
    obtain ⟨l, h2, h3, h4⟩ := lrel_get hA.last hv
    have e : A.read j = l := by unfold AD.read; rw [h1, h2]; rfl
    rw [e]
    exact Does.packed (B := fun x : Value × DV => [Ent.bytes 5 x.1 l]) (C := fun x => dk x.2) (fun H' => Read_lasts H' hA.ok hj' h3 h4 hc hv) H fun c _ => ⟨(c, ⟨gd, gm, lv, rv, _⟩), rfl, rfl, rfl, hb⟩
theorem Write_a {D : DV} {g : Nat} {A : AD} {w0 : World} (H : Has w0 [dkE D]) (hD : D.is g A) {i : Int} {b : Value} {l : List UInt8} (hb : Bytes w0 b l) (hap : ∀ g, b.ownBlock = some g → g ∉ (dkE D).foot) : Does Tryz.prog 58 [.pointer (some ⟨g, 0, none⟩), .int .i64 i, b] w0 [dkE D] (fun _ : DV => .int .i64 (A.write i l).1) (fun x => [dkE x]) (fun x => x.is g (A.write i l).2) := by
  obtain ⟨gd, gm, lv, rv, S⟩ := D
  obtain ⟨hg, hA⟩ := hD
  have hg : gd = g := hg
  have hA : S.Abs A := hA
  subst hg
  have hap' : ∀ g, b.ownBlock = some g → ¬ feet (dsk gd gm lv rv S) g := fun g hg c => hap g hg (Ent.mem_all.2 c)
  have same : ∀ (S' : Dsk) (r : Int), S'.Abs (A.write i l).2 → (A.write i l).1 = r → Does Tryz.prog 58 [.pointer (some ⟨gd, 0, none⟩), .int .i64 i, b] w0 (dsk gd gm lv rv S) (fun _ : Unit => .int .i64 r) (fun _ => dsk gd gm lv rv S') (fun _ => True) → Does Tryz.prog 58 [.pointer (some ⟨gd, 0, none⟩), .int .i64 i, b] w0 [dkE ⟨gd, gm, lv, rv, S⟩] (fun _ : DV => .int .i64 (A.write i l).1) (fun x => [dkE x]) (fun x => x.is gd (A.write i l).2) := fun S' r h1 h2 h =>
    Does.packed (B := fun _ : DV => []) (C := fun x => dk x) (fun _ => h) H fun _ _ => ⟨⟨gd, gm, lv, rv, S'⟩, by rw [h2], rfl, rfl, h1⟩
  by_cases h0 : A.off = true
  · have e : A.write i l = (12, A) := by unfold AD.write; rw [if_pos h0]
    exact same S 12 (by rw [e]; exact hA) (by rw [e]) (Write_off H.unpack1 hA.ok hb hap' (by rw [hA.off]; exact h0))
  have h0' : S.off = false := by rw [hA.off]; simpa using h0
  by_cases h1 : A.there i
  · have h1' : 0 ≤ i ∧ i < (S.n : Int) := by rw [hA.n]; exact h1
    by_cases h2 : 1024 < l.length
    · have e : A.write i l = (3, A) := by unfold AD.write; rw [if_neg h0, if_neg (by simpa using h1), if_pos h2]
      exact same S 3 (by rw [e]; exact hA) (by rw [e]) (Write_long H.unpack1 hA.ok hb hap' h0' h1' h2)
    · by_cases h3 : A.armed = true ∧ A.left = 0
      · have e : A.write i l = (12, { A with off := true }) := by unfold AD.write; rw [if_neg h0, if_neg (by simpa using h1), if_neg h2, if_pos h3]
        exact same { S with off := true } 12 (by rw [e]; exact ⟨hA.n, hA.max, hA.len, hA.rlen, hA.last, hA.cache, hA.keys, hA.born, hA.armed, hA.left, rfl, hA.writes, hA.reads⟩) (by rw [e]) (Write_fail H.unpack1 hA.ok hb hap' h0' h1' h2 (by rw [hA.armed]; exact h3.1) (by rw [hA.left]; exact h3.2))
      · have e : A.write i l = (0, { A with left := w64 (A.left - 1), cache := aput i l A.cache, writes := w64 (A.writes + 1) }) := by unfold AD.write; rw [if_neg h0, if_neg (by simpa using h1), if_neg h2, if_neg h3]
        have hw : ∀ v, (S.wrote i v l).Abs (A.write i l).2 := fun v => by
          rw [e]
          refine ⟨hA.n, hA.max, hA.len, hA.rlen, lrel_mono hA.last, crel_put (by omega) hA.cache, aput_keys h1 hA.keys, iput_born hA.born, hA.armed, ?_, hA.off, ?_, hA.reads⟩
          · show w64 (S.left - 1) = w64 (A.left - 1); rw [hA.left]
          · show w64 (S.writes + 1) = w64 (A.writes + 1); rw [hA.writes]
        have fin : Does Tryz.prog 58 [.pointer (some ⟨gd, 0, none⟩), .int .i64 i, b] w0 (dsk gd gm lv rv S) (fun _ : Value => .int .i64 0) (fun v => dsk gd gm lv rv (S.wrote i v l)) (fun _ => True) := by
          cases ha : S.armed with
          | true => exact Write_ok_armed H.unpack1 hA.ok hb hap' h0' h1' h2 ha (fun c => h3 ⟨by rw [← hA.armed]; exact ha, by rw [← hA.left]; exact c⟩)
          | false => exact Write_ok_free H.unpack1 hA.ok hb hap' h0' h1' h2 ha
        exact Does.packed (B := fun _ : DV => []) (C := fun x => dk x) (fun _ => fin) H fun v _ => ⟨⟨gd, gm, lv, rv, _⟩, by rw [e], rfl, rfl, hw v⟩
  · have h1' : ¬ (0 ≤ i ∧ i < (S.n : Int)) := by rw [hA.n]; exact h1
    have e : A.write i l = (7, A) := by unfold AD.write; rw [if_neg h0, if_pos h1]
    exact same S 7 (by rw [e]; exact hA) (by rw [e]) (Write_out H.unpack1 hA.ok hb hap' h0' h1')
end Go.Proofs.YtnebjbgcibjohaaGreat.K
end
section
namespace Go.Rill.T
open Go.Proofs
theorem by62 : tyBytes' Tryz.prog 62 192 = true := by kernel_rfl
theorem slice65 : tySlice Tryz.prog 65 62 = true := by kernel_rfl
theorem zt62 : tyZero Tryz.prog 62 136 = true := by kernel_rfl
end Go.Rill.T
end
section
namespace Go.Proofs.YtnebjbgcibjohaaGreat.K
open Go.RowKit Go.Rill Go.Proofs
set_option linter.unusedVariables false
set_option linter.unusedSimpArgs false
theorem row_of {P : Program} {f : FuncId} {args : List Value} {w : World} {v : Value} (h : Gives P f args w v) : Calls P f args.toArray w fun e w' => e = .returned v ∧ Below w.heap.size w w' :=
  h.mono fun e w' ⟨_, he, hc, _⟩ => ⟨he, ⟨hc.os, hc.tape, hc.output, hc.held.size, fun k hk => hc.held.block k hk feet_nil⟩⟩
theorem Bytes.as {w : World} {v : Value} {l k : List UInt8} (h : Bytes w v l) (e : l = k) : Bytes w v k := e ▸ h
theorem Rec.fit {r : Rec} (h : r.Ok) : Fit ([.i64] ++ [.i64] ++ [.i64] ++ List.replicate 32 .u8 ++ [.i64] ++ List.replicate 32 .u8 ++ [.i64] ++ [.i64] ++ [.i64] ++ [.i64] ++ List.replicate 32 .u8 ++ List.replicate 32 .u8) r.cells := by
  have e : ∀ l : List UInt8, l.length = 32 → Fit (List.replicate 32 .u8) (bc l) := fun l hl => by have := fit_bc l; rwa [hl] at this
  have one : ∀ n : Int, Fit [.i64] [iv n] := fun n => rfl
  have := ((((((((((((one r.gen).app (one r.stamp)).app (one r.epoch)).app (e _ h.super)).app (one r.rat)).app (e _ h.rsum)).app (one r.bseg)).app (one r.bslot)).app (one r.tseg)).app (one r.tslot)).app (e _ h.bsum)).app (e _ h.tsum))
  have e2 : r.cells = [iv r.gen] ++ [iv r.stamp] ++ [iv r.epoch] ++ bc r.super ++ [iv r.rat] ++ bc r.rsum ++ [iv r.bseg] ++ [iv r.bslot] ++ [iv r.tseg] ++ [iv r.tslot] ++ bc r.bsum ++ bc r.tsum := by simp [Rec.cells]
  rw [e2]
  exact this
end Go.Proofs.YtnebjbgcibjohaaGreat.K
end
section
namespace Go.Proofs.YtnebjbgcibjohaaGreat.K
open Go.RowKit Go.Rill Go.Proofs
set_option linter.unusedVariables false
set_option linter.unusedSimpArgs false
def Rec.lent : Rec := { Rec.zero with gen := -77 }
end Go.Proofs.YtnebjbgcibjohaaGreat.K
end
section
namespace Go.Proofs.YtnebjbgcibjohaaGreat.K
open Go.RowKit Go.Rill Go.Proofs
set_option linter.unusedVariables false
set_option linter.unusedSimpArgs false
theorem Rec.bytes_len {r : Rec} (hr : r.Ok) : r.bytes.length = 192 := by simp [Rec.bytes, be8, hr.super, hr.rsum, hr.bsum, hr.tsum]
/-- What region.Write answers, and leaves. -/
def regW (A : AD) (ks : List NKey) (r : Rec) (num : Int) : Int × AD × List NKey :=
  if r.May ∧ SRight r.epoch num (1 + r.gen.tmod 2) then ((A.write (1 + r.gen.tmod 2) (sectB ks 2 r.epoch num (1 + r.gen.tmod 2) r.bytes)).1, (A.write (1 + r.gen.tmod 2) (sectB ks 2 r.epoch num (1 + r.gen.tmod 2) r.bytes)).2, sealS ks r.epoch num (hdB 2 (1 + r.gen.tmod 2)) r.bytes) else (7, A, ks)
/-- A sector out of bytes: its epoch, its number, its plain text. -/
def sgetX (ks : List NKey) (kd at' : Int) (l : List UInt8) : Option (Int × Int × List UInt8) :=
  if ¬ l.length < 17 ∧ ¬ 1024 < l.length ∧ ¬ kd = 0 ∧ kindOf l = kd ∧ SRight (secE l) (secN l) at' then (openN ks (secE l) (secN l) (hdB kd at') (l.drop 17)).map fun q => (secE l, secN l, q) else none
/-- A record out of bytes, and the answer. -/
def getX (l : List UInt8) : Rec × Int := if rEnd (rst l 11) ≠ 0 then (Rec.zero, rEnd (rst l 11)) else if (Rec.read l).May then (Rec.read l, 0) else (Rec.zero, 7)
theorem getX_ok (q : List UInt8) : (getX q).1.Ok := by unfold getX; split; exact Rec.zero_ok; split; exact Rec.read_ok q; exact Rec.zero_ok
theorem sgetX_len {ks : List NKey} {kd at' e n : Int} {l q : List UInt8} (h : sgetX ks kd at' l = some (e, n, q)) : q.length ≤ 1024 := by
  unfold sgetX at h
  split at h
  · rename_i hc
    rw [Option.map_eq_some_iff] at h
    obtain ⟨q', h1, h2⟩ := h
    simp only [Prod.mk.injEq] at h2
    obtain ⟨_, _, rfl⟩ := h2
    unfold openN at h1
    split at h1
    · cases h1
    · split at h1
      · cases h1
      · split at h1
        · injection h1 with h1
          subst h1
          have := hc.2.1
          simp
          omega
        · cases h1
  · cases h
theorem Dsk.Abs.read_len {S : Dsk} {A : AD} (h : S.Abs A) (j : Nat) : (A.read j).length ≤ 1024 := by
  unfold AD.read
  split
  · rename_i l hl
    have hc := h.cache
    revert hc hl
    generalize S.cache = es
    generalize A.cache = c
    intro hl hc
    induction c generalizing es with
    | nil => cases hl
    | cons p q ih =>
      cases es with
      | nil => exact hc.elim
      | cons e r =>
        rw [aget_cons] at hl
        split at hl
        · injection hl with hl; subst hl; exact hc.1.2.2
        · exact ih r hl hc.2
  · cases hl : A.last[j]? with
    | none => simp
    | some l =>
      have := h.last
      have hv : ∃ v, S.lasts[j]? = some v := ⟨_, List.getElem?_eq_getElem (by rw [lrel_len this]; exact (List.getElem?_eq_some_iff.1 hl).1)⟩
      obtain ⟨v, hv⟩ := hv
      obtain ⟨m, h1, _, h3⟩ := lrel_get this hv
      rw [hl] at h1
      injection h1 with h1
      subst h1
      exact h3
/-- What a region tells. -/
def oneX (A : AD) (ks : List NKey) (j : Nat) : Rec × Bool :=
  match sgetX ks 2 (j : Int) (A.read j) with
  | none => (Rec.zero, false)
  | some (e, _, q) => ((getX q).1, decide ((getX q).2 = 0 ∧ (getX q).1.epoch = e ∧ 1 + (getX q).1.gen.tmod 2 = (j : Int)))
theorem oneX_ok (A : AD) (ks : List NKey) (j : Nat) : (oneX A ks j).1.Ok := by unfold oneX; split; exact Rec.zero_ok; exact getX_ok _
def bumps (A : AD) : Nat → AD
  | 0 => A
  | i + 1 => (bumps A i).bump (i + 1)
theorem bumps_n (A : AD) : ∀ i, (bumps A i).n = A.n
  | 0 => rfl
  | i + 1 => bumps_n A i
/-- The records of the first so many regions. -/
def allL (A : AD) (ks : List NKey) : Nat → List Rec
  | 0 => []
  | i + 1 => allL A ks i ++ (if (oneX (bumps A i) ks (i + 1)).2 = true then [(oneX (bumps A i) ks (i + 1)).1] else [])
theorem allL_yes {A : AD} {ks : List NKey} {i : Nat} (h : (oneX (bumps A i) ks (i + 1)).2 = true) : allL A ks (i + 1) = allL A ks i ++ [(oneX (bumps A i) ks (i + 1)).1] := by rw [allL, if_pos h]
theorem allL_no {A : AD} {ks : List NKey} {i : Nat} (h : (oneX (bumps A i) ks (i + 1)).2 = false) : allL A ks (i + 1) = allL A ks i := by rw [allL, if_neg (by simp [h]), List.append_nil]
theorem allL_len (A : AD) (ks : List NKey) : ∀ i, (allL A ks i).length ≤ i
  | 0 => Nat.le_refl _
  | i + 1 => by
    have := allL_len A ks i
    rw [allL, List.length_append]
    split <;> simp <;> omega
theorem is_get {i : Nat} (h : i < 2) : ([.int .i64 1, .int .i64 2] : List Value)[i]? = some (.int .i64 ((i + 1 : Nat) : Int)) := by
  rcases i with _ | _ | i
  · rfl
  · rfl
  · omega
theorem recs1 {w : World} {v : Value} {r : Rec} (h : Reads 136 w v 1 r.cells) : Recs w v [r] := by
  unfold Recs
  have e : rcs [r] = r.cells := by simp [rcs]
  rw [e]
  exact h
theorem Mem.take {w0 w : World} {O : Nat → Prop} {L R : List Ent} {Φ : World → Prop} (M : Mem w0 O (L ++ R) Φ w) : Mem w0 O L Φ w := M.sub (List.sublist_append_left _ _)
set_option maxRecDepth 100000 in
theorem rWrite_no {D : DV} {N : NV} {g : Nat} {A : AD} {r : Rec} {num : Int} {w0 : World} (H : Has w0 [dkE D, nmE N]) (hD : D.is g A) (hr : r.Ok) (hkz : N.ks.length ≤ 1099511627776) (hm : ¬ r.May) : Does Tryz.prog 39 [.pointer (some ⟨g, 0, none⟩), .iface 31 (.pointer (some ⟨N.gn, 0, none⟩)), r.val, .int .i64 num] w0 [dkE D, nmE N] (fun _ : DV × NV => .int .i64 7) (fun x => [dkE x.1, nmE x.2]) (fun x => x.1.is g A ∧ x.2.gn = N.gn ∧ x.2.ks = N.ks ∧ x.2.ts = N.ts) := by
  refine enter (n := 40) Tryz.func39 rfl rfl rfl ?_
  intro fr E
  have M : Mem w0 (feet [dkE D, nmE N]) [dkE D, nmE N] (fun _ => True) w0 := Mem.begin H (fun _ _ => trivial)
  refine code_region ?_
  refine snew (ob := .cells (r.cells.toArray) 62) (fun g => .pointer (some ⟨g, 0, none⟩)) E M rfl rfl rfl rfl rfl (run_boxN (cs := (r.cells.toArray)) rfl rfl) fun g0 fr w M E => ?_
  refine sw E (run_assignC rfl) fun fr E => ?_
  refine seq_nil' ?_
  refine code_region ?_
  refine sw (v := .agg r.cells.toArray) E (run_loadAll rfl rfl T.agg62 (M.row (i := 0) rfl) (Rec.size hr)) fun fr E => ?_
  refine sgive E M rfl rfl rfl rfl rfl (run_call rfl rfl T.fn59) (Put_no hr hm) fun fr w M E => ?_
  refine mv E fun fr E => ?_
  refine sw E (run_extract rfl rfl rfl) fun fr E => ?_
  refine sw E (run_extract rfl rfl rfl) fun fr E => ?_
  refine ma E fun fr E => ?_
  refine ma E fun fr E => ?_
  refine seq_nil' ?_
  refine wp_seq ?_
  refine code_region ?_
  refine mv E fun fr E => ?_
  refine sw (v := .bool _) E (rfl) fun fr E => ?_
  refine seq_nil' ?_
  refine cond_true E rfl (rfl) ?_
  refine code_region ?_
  refine mv E fun fr E => ?_
  refine ma E fun fr E => ?_
  refine seq_nil' ?_
  refine wp_ret ?_
  refine then_ret ?_
  refine ret1 E rfl rfl ?_
  have M := M.pull 2 rfl
  have M := M.pull 2 rfl
  exact ⟨(D, N), rfl, Mem.fin (L := [dkE D, nmE N] ++ _) M (List.sublist_append_left _ _) ⟨hD, rfl, rfl, rfl⟩⟩

set_option maxRecDepth 100000 in
theorem rWrite_range {D : DV} {N : NV} {g : Nat} {A : AD} {r : Rec} {num : Int} {w0 : World} (H : Has w0 [dkE D, nmE N]) (hD : D.is g A) (hr : r.Ok) (hkz : N.ks.length ≤ 1099511627776) (hm : r.May) (hs : ¬ SRight r.epoch num (1 + r.gen.tmod 2)) : Does Tryz.prog 39 [.pointer (some ⟨g, 0, none⟩), .iface 31 (.pointer (some ⟨N.gn, 0, none⟩)), r.val, .int .i64 num] w0 [dkE D, nmE N] (fun _ : DV × NV => .int .i64 7) (fun x => [dkE x.1, nmE x.2]) (fun x => x.1.is g A ∧ x.2.gn = N.gn ∧ x.2.ks = N.ks ∧ x.2.ts = N.ts) := by
  refine enter (n := 40) Tryz.func39 rfl rfl rfl ?_
  intro fr E
  have M : Mem w0 (feet [dkE D, nmE N]) [dkE D, nmE N] (fun _ => True) w0 := Mem.begin H (fun _ _ => trivial)
  refine code_region ?_
  refine snew (ob := .cells (r.cells.toArray) 62) (fun g => .pointer (some ⟨g, 0, none⟩)) E M rfl rfl rfl rfl rfl (run_boxN (cs := (r.cells.toArray)) rfl rfl) fun g0 fr w M E => ?_
  refine sw E (run_assignC rfl) fun fr E => ?_
  refine seq_nil' ?_
  refine code_region ?_
  refine sw (v := .agg r.cells.toArray) E (run_loadAll rfl rfl T.agg62 (M.row (i := 0) rfl) (Rec.size hr)) fun fr E => ?_
  refine scall E M rfl rfl rfl rfl rfl (run_call rfl rfl T.fn59) (Put_ok hr hm) rfl ?_
  rintro pl fr w - M E
  refine mv E fun fr E => ?_
  refine sw E (run_extract rfl rfl rfl) fun fr E => ?_
  refine sw E (run_extract rfl rfl rfl) fun fr E => ?_
  refine ma E fun fr E => ?_
  refine ma E fun fr E => ?_
  refine seq_nil' ?_
  refine wp_seq ?_
  refine code_region ?_
  refine mv E fun fr E => ?_
  refine sw (v := .bool _) E (rfl) fun fr E => ?_
  refine seq_nil' ?_
  refine cond_false E rfl (rfl) ?_
  refine wp_skip ?_
  refine then_normal ?_
  refine wp_seq (free_reg (B := T.tab39_4_b) (Vs := (.exact _ :: .exact (.pointer (some ⟨_, 2, none⟩)) :: .exact (.int .i64 r.epoch) :: .exact _ :: .exact (.agg r.cells.toArray) :: .exact (.int .i64 _) :: .exact _ :: .exact (.agg ([.int .i64 2, .int .i64 r.epoch, .int .i64 num, .int .i64 (1 + r.gen.tmod 2), pl]).toArray) :: .exact (.tuple #[.slice none 0 0, .int .i64 7]) :: .exact _ :: .exact (.slice none 0 0) :: .exact (.int .i64 7) :: .exact (.slice none 0 0) :: .exact (.int .i64 7) :: [])) T.tab39_4_i E T.mixed T.tab39_4 rfl (AllS.lasts ⟨trivial, trivial, trivial, trivial, trivial, trivial, trivial, trivial, trivial, trivial, trivial, trivial, trivial, trivial, trivial⟩) ⟨fv rfl rfl (fun x w hx hk => run_move rfl rfl),
      fv rfl rfl (fun x w hx hk => run_fieldAddr rfl rfl T.fld62_2),
      fv rfl rfl (fun x w hx hk => run_loadB rfl rfl T.one3 ((M.ext ((Ext.drew _).trans hx)).row (i := 1) rfl) Rec.c_epoch),
      fv rfl rfl (fun x w hx hk => run_move rfl rfl),
      fv rfl rfl (fun x w hx hk => run_loadAll rfl rfl T.agg62 ((M.ext ((Ext.drew _).trans hx)).row (i := 1) rfl) (Rec.size hr)),
      fs_ext rfl rfl (fun x w hx hk => ⟨_, _, rfl, rfl, rfl, run_call rfl rfl T.fn60, (at_x hr _).ext⟩),
      fv rfl rfl (fun x w hx hk => run_move rfl rfl),
      fv rfl rfl (fun x w hx hk => run_buildP (vs := [.int .i64 2, .int .i64 r.epoch, .int .i64 num, .int .i64 (1 + r.gen.tmod 2), pl]) (us := [.int .i64 2, .int .i64 r.epoch, .int .i64 num, .int .i64 (1 + r.gen.tmod 2), pl]) rfl rfl T.ts99 T.zeroL99 (by obtain ⟨b', c', e'⟩ := Reads.slice ((M.ext ((Ext.drew _).trans hx)).bytes 0 rfl); rw [e']; simp [Value.cells]) rfl rfl (by obtain ⟨b', c', e'⟩ := Reads.slice ((M.ext ((Ext.drew _).trans hx)).bytes 0 rfl); rw [e']; simp [Value.cells])),
      fs_ext rfl rfl (fun x w hx hk => ⟨_, _, rfl, rfl, rfl, run_call rfl rfl T.fn57, (sPut_range (N := N) (kd := 2) ((M.ext ((Ext.drew _).trans hx)).bytes 0 rfl) (by decide) (by decide) hs).ext⟩),
      fv rfl rfl (fun x w hx hk => run_move rfl rfl),
      fv rfl rfl (fun x w hx hk => run_extract rfl rfl rfl),
      fv rfl rfl (fun x w hx hk => run_extract rfl rfl rfl),
      fv rfl rfl (fun x w hx hk => run_assign rfl rfl),
      fv rfl rfl (fun x w hx hk => run_assign rfl rfl), trivial⟩ ?_)
  intro x fr w hx hk E
  have M := M.ext hx
  refine then_normal ?_
  refine wp_seq ?_
  refine code_region ?_
  refine mv E fun fr E => ?_
  refine sw (v := .bool _) E (rfl) fun fr E => ?_
  refine seq_nil' ?_
  refine cond_true E rfl (rfl) ?_
  refine code_region ?_
  refine mv E fun fr E => ?_
  refine ma E fun fr E => ?_
  refine seq_nil' ?_
  refine wp_ret ?_
  refine then_ret ?_
  refine ret1 E rfl rfl ?_
  have M := M.pull 3 rfl
  have M := M.pull 3 rfl
  exact ⟨(D, N), rfl, Mem.fin (L := [dkE D, nmE N] ++ _) M (List.sublist_append_left _ _) ⟨hD, rfl, rfl, rfl⟩⟩

set_option maxRecDepth 100000 in
theorem rWrite_ok {D : DV} {N : NV} {g : Nat} {A : AD} {r : Rec} {num : Int} {w0 : World} (H : Has w0 [dkE D, nmE N]) (hD : D.is g A) (hr : r.Ok) (hkz : N.ks.length ≤ 1099511627776) (hm : r.May) (hs : SRight r.epoch num (1 + r.gen.tmod 2)) : Does Tryz.prog 39 [.pointer (some ⟨g, 0, none⟩), .iface 31 (.pointer (some ⟨N.gn, 0, none⟩)), r.val, .int .i64 num] w0 [dkE D, nmE N] (fun _ : DV × NV => .int .i64 (A.write (1 + r.gen.tmod 2) (sectB N.ks 2 r.epoch num (1 + r.gen.tmod 2) r.bytes)).1) (fun x => [dkE x.1, nmE x.2]) (fun x => x.1.is g (A.write (1 + r.gen.tmod 2) (sectB N.ks 2 r.epoch num (1 + r.gen.tmod 2) r.bytes)).2 ∧ x.2.gn = N.gn ∧ x.2.ks = sealS N.ks r.epoch num (hdB 2 (1 + r.gen.tmod 2)) r.bytes ∧ x.2.ts = N.ts) := by
  refine enter (n := 40) Tryz.func39 rfl rfl rfl ?_
  intro fr E
  have M : Mem w0 (feet [dkE D, nmE N]) [dkE D, nmE N] (fun _ => True) w0 := Mem.begin H (fun _ _ => trivial)
  refine code_region ?_
  refine snew (ob := .cells (r.cells.toArray) 62) (fun g => .pointer (some ⟨g, 0, none⟩)) E M rfl rfl rfl rfl rfl (run_boxN (cs := (r.cells.toArray)) rfl rfl) fun g0 fr w M E => ?_
  refine sw E (run_assignC rfl) fun fr E => ?_
  refine seq_nil' ?_
  refine code_region ?_
  refine sw (v := .agg r.cells.toArray) E (run_loadAll rfl rfl T.agg62 (M.row (i := 0) rfl) (Rec.size hr)) fun fr E => ?_
  refine scall E M rfl rfl rfl rfl rfl (run_call rfl rfl T.fn59) (Put_ok hr hm) rfl ?_
  rintro pl fr w - M E
  refine mv E fun fr E => ?_
  refine sw E (run_extract rfl rfl rfl) fun fr E => ?_
  refine sw E (run_extract rfl rfl rfl) fun fr E => ?_
  refine ma E fun fr E => ?_
  refine ma E fun fr E => ?_
  refine seq_nil' ?_
  refine wp_seq ?_
  refine code_region ?_
  refine mv E fun fr E => ?_
  refine sw (v := .bool _) E (rfl) fun fr E => ?_
  refine seq_nil' ?_
  refine cond_false E rfl (rfl) ?_
  refine wp_skip ?_
  refine then_normal ?_
  have M := M.pull 3 rfl
  have M : Mem _ _ ([nmE N] ++ _) _ _ := M
  refine wp_seq (free_regR (B := T.tab39_4_b) (Vs := (.exact _ :: .exact (.pointer (some ⟨_, 2, none⟩)) :: .exact (.int .i64 r.epoch) :: .exact _ :: .exact (.agg r.cells.toArray) :: .exact (.int .i64 _) :: .exact _ :: .exact (.agg ([.int .i64 2, .int .i64 r.epoch, .int .i64 num, .int .i64 (1 + r.gen.tmod 2), pl]).toArray) :: CameI w.heap.size ([nmE N]) (fun x : Value × NV => .tuple #[x.1, .int .i64 0]) (fun x => [Ent.bytes 5 x.1 (sectB N.ks 2 r.epoch num (1 + r.gen.tmod 2) r.bytes), nmE x.2]) (fun x => x.2.gn = N.gn ∧ x.2.ks = sealS N.ks r.epoch num (hdB 2 (1 + r.gen.tmod 2)) r.bytes ∧ x.2.ts = N.ts) :: CameI w.heap.size ([nmE N]) (fun x : Value × NV => .tuple #[x.1, .int .i64 0]) (fun x => [Ent.bytes 5 x.1 (sectB N.ks 2 r.epoch num (1 + r.gen.tmod 2) r.bytes), nmE x.2]) (fun x => x.2.gn = N.gn ∧ x.2.ks = sealS N.ks r.epoch num (hdB 2 (1 + r.gen.tmod 2)) r.bytes ∧ x.2.ts = N.ts) :: CameI w.heap.size ([nmE N]) (fun x : Value × NV => x.1) (fun x => [Ent.bytes 5 x.1 (sectB N.ks 2 r.epoch num (1 + r.gen.tmod 2) r.bytes), nmE x.2]) (fun x => x.2.gn = N.gn ∧ x.2.ks = sealS N.ks r.epoch num (hdB 2 (1 + r.gen.tmod 2)) r.bytes ∧ x.2.ts = N.ts) :: .exact (.int .i64 0) :: CameI w.heap.size ([nmE N]) (fun x : Value × NV => x.1) (fun x => [Ent.bytes 5 x.1 (sectB N.ks 2 r.epoch num (1 + r.gen.tmod 2) r.bytes), nmE x.2]) (fun x => x.2.gn = N.gn ∧ x.2.ks = sealS N.ks r.epoch num (hdB 2 (1 + r.gen.tmod 2)) r.bytes ∧ x.2.ts = N.ts) :: .exact _ :: [])) (ownRoad (oneFs 8 ([nmE N])) w.drew) T.tab39_4_i E T.mixed T.tab39_4 rfl ?_ ⟨fr_val rfl rfl M (fun i g h => h.2) (fun x w' M' hB hk => ⟨_, _, rfl, rfl, rfl, run_move rfl rfl, Ext.refl _, rfl⟩),
      fr_val rfl rfl M (fun i g h => h.2) (fun x w' M' hB hk => ⟨_, _, rfl, rfl, rfl, run_fieldAddr rfl rfl T.fld62_2, Ext.refl _, rfl⟩),
      fr_val rfl rfl M (fun i g h => h.2) (fun x w' M' hB hk => ⟨_, _, rfl, rfl, rfl, run_loadB rfl rfl T.one3 (M'.row (i := 1) rfl) Rec.c_epoch, Ext.refl _, rfl⟩),
      fr_val rfl rfl M (fun i g h => h.2) (fun x w' M' hB hk => ⟨_, _, rfl, rfl, rfl, run_move rfl rfl, Ext.refl _, rfl⟩),
      fr_val rfl rfl M (fun i g h => h.2) (fun x w' M' hB hk => ⟨_, _, rfl, rfl, rfl, run_loadAll rfl rfl T.agg62 (M'.row (i := 1) rfl) (Rec.size hr), Ext.refl _, rfl⟩),
      fr_ext rfl rfl M (fun i g h => h.2) (fun x w' M' hB hk => ⟨_, _, rfl, rfl, rfl, run_call rfl rfl T.fn60, (at_x hr _).ext⟩),
      fr_val rfl rfl M (fun i g h => h.2) (fun x w' M' hB hk => ⟨_, _, rfl, rfl, rfl, run_move rfl rfl, Ext.refl _, rfl⟩),
      fr_val rfl rfl M (fun i g h => h.2) (fun x w' M' hB hk => ⟨_, _, rfl, rfl, rfl, run_buildP (vs := [.int .i64 2, .int .i64 r.epoch, .int .i64 num, .int .i64 (1 + r.gen.tmod 2), pl]) (us := [.int .i64 2, .int .i64 r.epoch, .int .i64 num, .int .i64 (1 + r.gen.tmod 2), pl]) rfl rfl T.ts99 T.zeroL99 (by obtain ⟨b', c', e'⟩ := Reads.slice (M'.bytes 0 rfl); rw [e']; simp [Value.cells]) rfl rfl (by obtain ⟨b', c', e'⟩ := Reads.slice (M'.bytes 0 rfl); rw [e']; simp [Value.cells]), Ext.refl _, rfl⟩),
      fr_call (J := [nmE N]) rfl rfl M (fun i g h => h.2) M.front (fun j hj g hjg => absurd hjg.1 hj) (fun x w' M' H' hB hk => ⟨_, _, rfl, rfl, rfl, run_call rfl rfl T.fn57, (sPut_ok (N := N) (kd := 2) (e := r.epoch) (n := num) (at' := (1 + r.gen.tmod 2)) (M'.bytes 0 rfl) H' (M.off (i := 0) (j := 0 + 1) rfl rfl rfl) hkz (by decide) (by decide) hs (by rw [Rec.bytes_len hr]; decide)).own (Fs := oneFs 8 ([nmE N])) (i := 8) hB (fun g hg => ⟨rfl, hg⟩)⟩),
      fr_on (j := 8) rfl rfl rfl rfl (fun x w y hy => ⟨rfl, rfl, rfl, run_moveV rfl hy⟩),
      fr_on (j := 9) rfl rfl rfl rfl (fun x w y hy => ⟨rfl, rfl, rfl, run_extractV rfl hy rfl⟩),
      fr_of (j := 9) rfl rfl rfl rfl (fun x w y hy => ⟨rfl, rfl, rfl, run_extractV rfl hy rfl⟩),
      fr_on (j := 10) rfl rfl rfl rfl (fun x w y hy => ⟨rfl, rfl, rfl, run_assignV rfl hy⟩),
      fr_val rfl rfl M (fun i g h => h.2) (fun x w' M' hB hk => ⟨_, _, rfl, rfl, rfl, run_assign rfl rfl, Ext.refl _, rfl⟩), trivial⟩ ?_)
  · exact one_okW rfl ((allY_ex (allY_ex (allY_ex (allY_ex (allY_ex (allY_ex (allY_ex (allY_ex (allY_in rfl LastsR.came1 (allY_in rfl LastsR.came1 (allY_in rfl LastsR.came1 (allY_ex (allY_in rfl LastsR.came1 (allY_ex allY_nil)))))))))))))))
  intro x fr w ⟨b, hb, hI⟩ hk E
  obtain ⟨⟨b, N2⟩, hy, hN, M⟩ := M.behind (val := fun x : Value × NV => x.1) (outs := fun x => [Ent.bytes 5 x.1 (sectB N.ks 2 r.epoch num (1 + r.gen.tmod 2) r.bytes), nmE x.2]) (p := fun x => x.2.gn = N.gn ∧ x.2.ks = sealS N.ks r.epoch num (hdB 2 (1 + r.gen.tmod 2)) r.bytes ∧ x.2.ts = N.ts) hI (hk 12 (by decide))
  have E := Env.say (t := 11) E rfl hy
  refine then_normal ?_
  refine wp_seq ?_
  refine code_region ?_
  refine mv E fun fr E => ?_
  refine sw (v := .bool _) E (rfl) fun fr E => ?_
  refine seq_nil' ?_
  refine cond_false E rfl (rfl) ?_
  refine wp_skip ?_
  refine then_normal ?_
  refine code_region ?_
  refine mv E fun fr E => ?_
  refine sw (v := .agg r.cells.toArray) E (run_loadAll rfl rfl T.agg62 (M.row (i := 3) rfl) (Rec.size hr)) fun fr E => ?_
  refine sgive E M rfl rfl rfl rfl rfl (run_call rfl rfl T.fn60) (at_x hr _) fun fr w M E => ?_
  refine mv E fun fr E => ?_
  have M := M.pull 4 rfl
  refine scallI ([dkE D]) E M rfl rfl rfl rfl rfl (run_call rfl rfl T.fn58) rfl (fun H => Write_a H hD (M.bytes 1 rfl) (M.off (i := 0) (j := 1) rfl rfl rfl)) ?_
  rintro D2 fr w hD2 M E
  refine ma E fun fr E => ?_
  refine seq_nil' ?_
  refine wp_ret ?_
  refine ret1 E rfl rfl ?_
  have M := M.pull 2 rfl
  have M := M.pull 1 rfl
  exact ⟨(D2, N2), rfl, Mem.fin (L := [dkE D2, nmE N2] ++ _) M (List.sublist_append_left _ _) ⟨hD2, hN⟩⟩

theorem rWrite_x {D : DV} {N : NV} {g : Nat} {A : AD} {r : Rec} {num : Int} {w0 : World} (H : Has w0 [dkE D, nmE N]) (hD : D.is g A) (hr : r.Ok) (hkz : N.ks.length ≤ 1099511627776) : Does Tryz.prog 39 [.pointer (some ⟨g, 0, none⟩), .iface 31 (.pointer (some ⟨N.gn, 0, none⟩)), r.val, .int .i64 num] w0 [dkE D, nmE N] (fun _ : DV × NV => .int .i64 (regW A N.ks r num).1) (fun x => [dkE x.1, nmE x.2]) (fun x => x.1.is g (regW A N.ks r num).2.1 ∧ x.2.gn = N.gn ∧ x.2.ks = (regW A N.ks r num).2.2 ∧ x.2.ts = N.ts) := by
  by_cases hm : r.May
  · by_cases hs : SRight r.epoch num (1 + r.gen.tmod 2)
    · have e : regW A N.ks r num = ((A.write (1 + r.gen.tmod 2) (sectB N.ks 2 r.epoch num (1 + r.gen.tmod 2) r.bytes)).1, (A.write (1 + r.gen.tmod 2) (sectB N.ks 2 r.epoch num (1 + r.gen.tmod 2) r.bytes)).2, sealS N.ks r.epoch num (hdB 2 (1 + r.gen.tmod 2)) r.bytes) := by unfold regW; rw [if_pos ⟨hm, hs⟩]
      rw [e]
      exact rWrite_ok H hD hr hkz hm hs
    · have e : regW A N.ks r num = (7, A, N.ks) := by unfold regW; rw [if_neg fun c => hs c.2]
      rw [e]
      exact rWrite_range H hD hr hkz hm hs
  · have e : regW A N.ks r num = (7, A, N.ks) := by unfold regW; rw [if_neg fun c => hm c.1]
    rw [e]
    exact rWrite_no H hD hr hkz hm

theorem sGet_err {N : NV} {kd at' : Int} {l : List UInt8} (hkz : N.ks.length ≤ 1099511627776) (h : sgetX N.ks kd at' l = none) : ∃ err : Int, err ≠ 0 ∧ ∀ (w0 : World) (b : Value), Bytes w0 b l → Has w0 [nmE N] → Gives Tryz.prog 45 [.iface 31 (.pointer (some ⟨N.gn, 0, none⟩)), .int .i64 kd, .int .i64 at', b] w0 (.tuple #[.agg #[.int .i64 0, .int .i64 0, .int .i64 0, .int .i64 0, .slice none 0 0], .int .i64 err]) := by
  unfold sgetX at h
  by_cases h1 : l.length < 17
  · exact ⟨2, by decide, fun w0 b hb H => sGet_short hb h1⟩
  by_cases h2 : 1024 < l.length
  · exact ⟨3, by decide, fun w0 b hb H => sGet_long hb h1 h2⟩
  by_cases h3 : kd = 0
  · exact ⟨5, by decide, fun w0 b hb H => sGet_kind0 hb h1 h2 h3⟩
  by_cases h4 : kindOf l = kd
  · by_cases h5 : SRight (secE l) (secN l) at'
    · rw [if_pos ⟨h1, h2, h3, h4, h5⟩] at h
      have ho : openN N.ks (secE l) (secN l) (hdB kd at') (l.drop 17) = none := by simpa using h
      exact ⟨19, by decide, fun w0 b hb H => sGet_seal hb H hkz h1 h2 h3 h4 h5 ho⟩
    · exact ⟨7, by decide, fun w0 b hb H => sGet_range hb h1 h2 h3 h4 h5⟩
  · exact ⟨5, by decide, fun w0 b hb H => sGet_kind hb h1 h2 h3 h4⟩
theorem sGet_yes {N : NV} {kd at' e n : Int} {b : Value} {l q : List UInt8} {w0 : World} (hb : Bytes w0 b l) (H : Has w0 [nmE N]) (hkz : N.ks.length ≤ 1099511627776) (h : sgetX N.ks kd at' l = some (e, n, q)) : Does Tryz.prog 45 [.iface 31 (.pointer (some ⟨N.gn, 0, none⟩)), .int .i64 kd, .int .i64 at', b] w0 [] (fun c : Value => .tuple #[.agg #[.int .i64 kd, .int .i64 e, .int .i64 n, .int .i64 at', c], .int .i64 0]) (fun c => [.bytes 5 c q]) (fun _ => True) := by
  unfold sgetX at h
  split at h
  · rename_i hc
    rw [Option.map_eq_some_iff] at h
    obtain ⟨q', h1, h2⟩ := h
    simp only [Prod.mk.injEq] at h2
    obtain ⟨rfl, rfl, rfl⟩ := h2
    exact sGet_ok hb H hkz hc.1 hc.2.1 hc.2.2.1 hc.2.2.2.1 hc.2.2.2.2 h1
  · cases h
theorem gGet_x {b : Value} {l : List UInt8} {w0 : World} (hb : Bytes w0 b l) (hz : l.length ≤ 35184372088832) : Gives Tryz.prog 71 [b] w0 (.tuple #[(getX l).1.val, .int .i64 (getX l).2]) := by
  unfold getX
  by_cases he : rEnd (rst l 11) = 0
  · rw [if_neg (by simpa using he)]
    by_cases hm : (Rec.read l).May
    · rw [if_pos hm]; exact Get_ok hb hz he hm
    · rw [if_neg hm]; exact Get_no hb hz he hm
  · rw [if_pos he]; exact Get_bad hb hz he

set_option maxRecDepth 100000 in
theorem one_no {D : DV} {N : NV} {g j : Nat} {A : AD} {w0 : World} (H : Has w0 [dkE D, nmE N]) (hD : D.is g A) (hkz : N.ks.length ≤ 1099511627776) (hj : j < A.n) (hl : (A.read j).length ≤ 1024) (err : Int) (he0 : err ≠ 0) (he1 : ∀ (w : World) (c : Value), Bytes w c (A.read j) → Has w [nmE N] → Gives Tryz.prog 45 [.iface 31 (.pointer (some ⟨N.gn, 0, none⟩)), .int .i64 2, .int .i64 (j : Int), c] w (.tuple #[.agg #[.int .i64 0, .int .i64 0, .int .i64 0, .int .i64 0, .slice none 0 0], .int .i64 err])) : Does Tryz.prog 50 [.pointer (some ⟨g, 0, none⟩), .iface 31 (.pointer (some ⟨N.gn, 0, none⟩)), .int .i64 (j : Int)] w0 [dkE D, nmE N] (fun _ : DV => .tuple #[Rec.zero.val, .bool false]) (fun x => [dkE x, nmE N]) (fun x => x.is g (A.bump j)) := by
  refine enter (n := 53) Tryz.func50 rfl rfl rfl ?_
  intro fr E
  have M : Mem w0 (feet [dkE D, nmE N]) [dkE D, nmE N] (fun _ => True) w0 := Mem.begin H (fun _ _ => trivial)
  refine code_region ?_
  refine snew (ob := .cells _ 62) (fun g => .pointer (some ⟨g, 0, none⟩)) E M rfl rfl rfl rfl rfl (run_allocN rfl T.zero62) fun g0 fr w M E => ?_
  refine sw E (run_assignC rfl) fun fr E => ?_
  refine seq_nil' ?_
  refine code_region ?_
  refine mv E fun fr E => ?_
  refine mv E fun fr E => ?_
  have M := M.pull 1 rfl
  refine scallI ([dkE D]) E M rfl rfl rfl rfl rfl (run_call rfl rfl T.fn21) rfl (fun H => Read_a H hD hj) ?_
  rintro ⟨c, D2⟩ fr w hD2 M E
  refine mv E fun fr E => ?_
  refine sw E (run_extract rfl rfl rfl) fun fr E => ?_
  refine sw E (run_extract rfl rfl rfl) fun fr E => ?_
  refine ma E fun fr E => ?_
  refine ma E fun fr E => ?_
  refine seq_nil' ?_
  refine wp_seq ?_
  refine code_region ?_
  refine mv E fun fr E => ?_
  refine sw (v := .bool _) E (rfl) fun fr E => ?_
  refine seq_nil' ?_
  refine cond_false E rfl (rfl) ?_
  refine wp_skip ?_
  refine then_normal ?_
  refine code_region ?_
  refine mv E fun fr E => ?_
  refine mv E fun fr E => ?_
  refine mv E fun fr E => ?_
  refine sgive E M rfl rfl rfl rfl rfl (run_call rfl rfl T.fn45) (he1 _ _ (M.bytes 0 rfl) (M.has1 (i := 3) rfl)) fun fr w M E => ?_
  refine mv E fun fr E => ?_
  refine sw E (run_extract rfl rfl rfl) fun fr E => ?_
  refine sw E (run_extract rfl rfl rfl) fun fr E => ?_
  refine snew (ob := .cells #[_, _, _, _, _] 99) (fun g => .pointer (some ⟨g, 0, none⟩)) E M rfl rfl rfl rfl rfl (run_allocN rfl T.zero99) fun g1 fr w M E => ?_
  refine sset (i := 0) (cs' := #[.int .i64 0, .int .i64 0, .int .i64 0, .int .i64 0, .slice none 0 0]) E M rfl rfl rfl rfl rfl (run_storeN' (vs := #[_, _, _, _, _]) rfl rfl rfl T.size99 rfl (M.row (i := 0) rfl) rfl rfl rfl) rfl fun fr w M E => ?_
  refine ma E fun fr E => ?_
  refine seq_nil' ?_
  refine wp_seq ?_
  refine code_region ?_
  refine mv E fun fr E => ?_
  refine sw (v := .bool true) E (tst rfl (by simp; exact he0)) fun fr E => ?_
  refine seq_nil' ?_
  refine cond_true E rfl (rfl) ?_
  refine code_region ?_
  refine sw (v := .agg (Rec.zero.cells).toArray) E (run_buildP (vs := []) (us := Rec.zero.cells) rfl rfl T.ts62 T.zeroL62 (rfl) rfl rfl (rfl)) fun fr E => ?_
  refine sset (i := 3) (cs' := Rec.zero.cells.toArray) E M rfl rfl rfl rfl rfl (run_storeAll (vs := Rec.zero.cells.toArray) rfl rfl rfl T.size62 (Rec.size Rec.zero_ok) (M.row (i := 3) rfl) rfl (by simpa using Rec.ones _)) rfl fun fr w M E => ?_
  refine sw E (run_assignC rfl) fun fr E => ?_
  refine seq_nil' ?_
  refine wp_ret ?_
  refine then_ret ?_
  refine retC2 E rfl rfl rfl T.agg62 (M.row (i := 3) rfl) (Rec.size Rec.zero_ok) ?_
  have M := M.pull 4 rfl
  have M := M.pull 3 rfl
  exact ⟨D2, rfl, Mem.fin (L := [dkE D2, nmE N] ++ _) M (List.sublist_append_left _ _) hD2⟩

set_option maxRecDepth 100000 in
theorem one_a {D : DV} {N : NV} {g j : Nat} {A : AD} {w0 : World} (H : Has w0 [dkE D, nmE N]) (hD : D.is g A) (hkz : N.ks.length ≤ 1099511627776) (hj : j < A.n) (hl : (A.read j).length ≤ 1024) {e n : Int} {q : List UInt8} (hg : sgetX N.ks 2 (j : Int) (A.read j) = some (e, n, q)) (hq : q.length ≤ 35184372088832) (h1 : ¬ (getX q).2 = 0) : Does Tryz.prog 50 [.pointer (some ⟨g, 0, none⟩), .iface 31 (.pointer (some ⟨N.gn, 0, none⟩)), .int .i64 (j : Int)] w0 [dkE D, nmE N] (fun _ : DV => .tuple #[(getX q).1.val, .bool false]) (fun x => [dkE x, nmE N]) (fun x => x.is g (A.bump j)) := by
  refine enter (n := 53) Tryz.func50 rfl rfl rfl ?_
  intro fr E
  have M : Mem w0 (feet [dkE D, nmE N]) [dkE D, nmE N] (fun _ => True) w0 := Mem.begin H (fun _ _ => trivial)
  refine code_region ?_
  refine snew (ob := .cells _ 62) (fun g => .pointer (some ⟨g, 0, none⟩)) E M rfl rfl rfl rfl rfl (run_allocN rfl T.zero62) fun g0 fr w M E => ?_
  refine sw E (run_assignC rfl) fun fr E => ?_
  refine seq_nil' ?_
  refine code_region ?_
  refine mv E fun fr E => ?_
  refine mv E fun fr E => ?_
  have M := M.pull 1 rfl
  refine scallI ([dkE D]) E M rfl rfl rfl rfl rfl (run_call rfl rfl T.fn21) rfl (fun H => Read_a H hD hj) ?_
  rintro ⟨c, D2⟩ fr w hD2 M E
  refine mv E fun fr E => ?_
  refine sw E (run_extract rfl rfl rfl) fun fr E => ?_
  refine sw E (run_extract rfl rfl rfl) fun fr E => ?_
  refine ma E fun fr E => ?_
  refine ma E fun fr E => ?_
  refine seq_nil' ?_
  refine wp_seq ?_
  refine code_region ?_
  refine mv E fun fr E => ?_
  refine sw (v := .bool _) E (rfl) fun fr E => ?_
  refine seq_nil' ?_
  refine cond_false E rfl (rfl) ?_
  refine wp_skip ?_
  refine then_normal ?_
  refine code_region ?_
  refine mv E fun fr E => ?_
  refine mv E fun fr E => ?_
  refine mv E fun fr E => ?_
  refine scall E M rfl rfl rfl rfl rfl (run_call rfl rfl T.fn45) (sGet_yes (M.bytes 0 rfl) (M.has1 (i := 3) rfl) hkz hg) rfl ?_
  rintro q' fr w - M E
  refine mv E fun fr E => ?_
  refine sw E (run_extract rfl rfl rfl) fun fr E => ?_
  refine sw E (run_extract rfl rfl rfl) fun fr E => ?_
  refine snew (ob := .cells #[_, _, _, _, _] 99) (fun g => .pointer (some ⟨g, 0, none⟩)) E M rfl rfl rfl rfl rfl (run_allocN rfl T.zero99) fun g1 fr w M E => ?_
  refine sset (i := 0) (cs' := #[.int .i64 2, .int .i64 e, .int .i64 n, .int .i64 (j : Int), q']) E M rfl rfl rfl rfl rfl (run_storeN' (vs := #[.int .i64 2, .int .i64 e, .int .i64 n, .int .i64 (j : Int), q']) rfl rfl rfl T.size99 rfl (M.row (i := 0) rfl) rfl (by obtain ⟨b', c', e'⟩ := Reads.slice (M.reads 1 rfl); rw [e']; rfl) rfl) rfl fun fr w M E => ?_
  refine ma E fun fr E => ?_
  refine seq_nil' ?_
  refine wp_seq ?_
  refine code_region ?_
  refine mv E fun fr E => ?_
  refine sw (v := .bool _) E (rfl) fun fr E => ?_
  refine seq_nil' ?_
  refine cond_false E rfl (rfl) ?_
  refine wp_skip ?_
  refine then_normal ?_
  refine code_region ?_
  refine sw (v := .pointer (some ⟨_, 4, none⟩)) E (run_fieldAddr rfl rfl T.fld99_4) fun fr E => ?_
  refine sw E (run_loadB rfl rfl T.one36 (M.row (i := 0) rfl) rfl) fun fr E => ?_
  refine sgive E M rfl rfl rfl rfl rfl (run_call rfl rfl T.fn71) (gGet_x (M.bytes 1 rfl) hq) fun fr w M E => ?_
  refine mv E fun fr E => ?_
  refine sw E (run_extract rfl rfl rfl) fun fr E => ?_
  refine sw E (run_extract rfl rfl rfl) fun fr E => ?_
  refine snew (ob := .cells _ 62) (fun g => .pointer (some ⟨g, 0, none⟩)) E M rfl rfl rfl rfl rfl (run_allocN rfl T.zero62) fun g2 fr w M E => ?_
  refine sset (i := 0) (cs' := (getX q).1.cells.toArray) E M rfl rfl rfl rfl rfl (run_storeAll (vs := (getX q).1.cells.toArray) rfl rfl rfl T.size62 (Rec.size (getX_ok q)) (M.row (i := 0) rfl) rfl (fun v hv => Rec.ones _ v hv)) rfl fun fr w M E => ?_
  refine ma E fun fr E => ?_
  refine seq_nil' ?_
  have M := M.pull 5 rfl
  have M : Mem _ _ ([.blk g0 (.cells Rec.zero.cells.toArray 62)] ++ _) _ _ := M
  refine wp_seq (free_regR (B := T.tab50_8_b) (Vs := (.exact (.agg (getX q).1.cells.toArray) :: .exact _ :: .exact (.bool false) :: .exact _ :: .exact undef :: .exact undef :: .exact undef :: .exact undef :: .exact undef :: .exact (.bool _) :: .exact _ :: .exact undef :: .exact undef :: .exact undef :: .exact undef :: .exact (.bool _) :: CameI w.heap.size ([.blk g0 (.cells Rec.zero.cells.toArray 62)]) (fun _ : Unit => undef) (fun _ => [.blk g0 (.cells (getX q).1.cells.toArray 62)]) (fun _ => True) :: .exact _ :: [])) (ownRoad (oneFs 16 ([.blk g0 (.cells Rec.zero.cells.toArray 62)])) w.drew) T.tab50_8_i E T.mixed T.tab50_8 rfl ?_ ⟨fr_val rfl rfl M (fun i g h => h.2) (fun x w' M' hB hk => ⟨_, _, rfl, rfl, rfl, run_loadAll rfl rfl T.agg62 (M'.row (i := 0) rfl) (Rec.size (getX_ok q)), Ext.refl _, rfl⟩),
      fr_val rfl rfl M (fun i g h => h.2) (fun x w' M' hB hk => ⟨_, _, rfl, rfl, rfl, run_move rfl rfl, Ext.refl _, rfl⟩),
      fr_val rfl rfl M (fun i g h => h.2) (fun x w' M' hB hk => ⟨_, _, rfl, rfl, rfl, tst rfl (decide_eq_false h1), Ext.refl _, rfl⟩),
      fr_val rfl rfl M (fun i g h => h.2) (fun x w' M' hB hk => ⟨_, _, rfl, rfl, rfl, run_move rfl rfl, Ext.refl _, rfl⟩),
      fr_no rfl rfl (fun x => ⟨rfl, rfl⟩),
      fr_no rfl rfl (fun x => ⟨rfl, rfl⟩),
      fr_no rfl rfl (fun x => ⟨rfl, rfl⟩),
      fr_no rfl rfl (fun x => ⟨rfl, rfl⟩),
      fr_no rfl rfl (fun x => ⟨rfl, rfl⟩),
      fr_val rfl rfl M (fun i g h => h.2) (fun x w' M' hB hk => ⟨_, _, rfl, rfl, rfl, rfl, Ext.refl _, rfl⟩),
      fr_val rfl rfl M (fun i g h => h.2) (fun x w' M' hB hk => ⟨_, _, rfl, rfl, rfl, run_move rfl rfl, Ext.refl _, rfl⟩),
      fr_no rfl rfl (fun x => ⟨rfl, rfl⟩),
      fr_no rfl rfl (fun x => ⟨rfl, rfl⟩),
      fr_no rfl rfl (fun x => ⟨rfl, rfl⟩),
      fr_no rfl rfl (fun x => ⟨rfl, rfl⟩),
      fr_val rfl rfl M (fun i g h => h.2) (fun x w' M' hB hk => ⟨_, _, rfl, rfl, rfl, rfl, Ext.refl _, rfl⟩),
      fr_set rfl rfl M (fun x w' M' H' hB hk => ⟨rfl, rfl, rfl, run_storeAll (vs := (getX q).1.cells.toArray) rfl rfl rfl T.size62 (Rec.size (getX_ok q)) (H'.ent 0 rfl) rfl (fun v hv => Rec.ones _ v hv)⟩),
      fr_val rfl rfl M (fun i g h => h.2) (fun x w' M' hB hk => ⟨_, _, rfl, rfl, rfl, run_assign rfl rfl, Ext.refl _, rfl⟩), trivial⟩ ?_)
  · exact one_okW rfl ((allY_ex (allY_ex (allY_ex (allY_ex (allY_ex (allY_ex (allY_ex (allY_ex (allY_ex (allY_ex (allY_ex (allY_ex (allY_ex (allY_ex (allY_ex (allY_ex (allY_in rfl LastsR.came1 (allY_ex allY_nil)))))))))))))))))))
  intro x fr w ⟨b, hb, hI⟩ hk E
  obtain ⟨u, hy, -, M⟩ := M.behind (val := fun _ : Unit => undef) (outs := fun _ => [.blk g0 (.cells (getX q).1.cells.toArray 62)]) (p := fun _ => True) hI (hk 16 (by decide))
  refine then_normal ?_
  refine wp_ret ?_
  refine retC2 E rfl rfl rfl T.agg62 (M.row (i := 0) rfl) (Rec.size (getX_ok q)) ?_
  have M := M.pull 6 rfl
  have M := M.pull 6 rfl
  exact ⟨D2, rfl, Mem.fin (L := [dkE D2, nmE N] ++ _) M (List.sublist_append_left _ _) hD2⟩

set_option maxRecDepth 100000 in
theorem one_b {D : DV} {N : NV} {g j : Nat} {A : AD} {w0 : World} (H : Has w0 [dkE D, nmE N]) (hD : D.is g A) (hkz : N.ks.length ≤ 1099511627776) (hj : j < A.n) (hl : (A.read j).length ≤ 1024) {e n : Int} {q : List UInt8} (hg : sgetX N.ks 2 (j : Int) (A.read j) = some (e, n, q)) (hq : q.length ≤ 35184372088832) (h1 : (getX q).2 = 0) (h2 : ¬ (getX q).1.epoch = e) : Does Tryz.prog 50 [.pointer (some ⟨g, 0, none⟩), .iface 31 (.pointer (some ⟨N.gn, 0, none⟩)), .int .i64 (j : Int)] w0 [dkE D, nmE N] (fun _ : DV => .tuple #[(getX q).1.val, .bool false]) (fun x => [dkE x, nmE N]) (fun x => x.is g (A.bump j)) := by
  refine enter (n := 53) Tryz.func50 rfl rfl rfl ?_
  intro fr E
  have M : Mem w0 (feet [dkE D, nmE N]) [dkE D, nmE N] (fun _ => True) w0 := Mem.begin H (fun _ _ => trivial)
  refine code_region ?_
  refine snew (ob := .cells _ 62) (fun g => .pointer (some ⟨g, 0, none⟩)) E M rfl rfl rfl rfl rfl (run_allocN rfl T.zero62) fun g0 fr w M E => ?_
  refine sw E (run_assignC rfl) fun fr E => ?_
  refine seq_nil' ?_
  refine code_region ?_
  refine mv E fun fr E => ?_
  refine mv E fun fr E => ?_
  have M := M.pull 1 rfl
  refine scallI ([dkE D]) E M rfl rfl rfl rfl rfl (run_call rfl rfl T.fn21) rfl (fun H => Read_a H hD hj) ?_
  rintro ⟨c, D2⟩ fr w hD2 M E
  refine mv E fun fr E => ?_
  refine sw E (run_extract rfl rfl rfl) fun fr E => ?_
  refine sw E (run_extract rfl rfl rfl) fun fr E => ?_
  refine ma E fun fr E => ?_
  refine ma E fun fr E => ?_
  refine seq_nil' ?_
  refine wp_seq ?_
  refine code_region ?_
  refine mv E fun fr E => ?_
  refine sw (v := .bool _) E (rfl) fun fr E => ?_
  refine seq_nil' ?_
  refine cond_false E rfl (rfl) ?_
  refine wp_skip ?_
  refine then_normal ?_
  refine code_region ?_
  refine mv E fun fr E => ?_
  refine mv E fun fr E => ?_
  refine mv E fun fr E => ?_
  refine scall E M rfl rfl rfl rfl rfl (run_call rfl rfl T.fn45) (sGet_yes (M.bytes 0 rfl) (M.has1 (i := 3) rfl) hkz hg) rfl ?_
  rintro q' fr w - M E
  refine mv E fun fr E => ?_
  refine sw E (run_extract rfl rfl rfl) fun fr E => ?_
  refine sw E (run_extract rfl rfl rfl) fun fr E => ?_
  refine snew (ob := .cells #[_, _, _, _, _] 99) (fun g => .pointer (some ⟨g, 0, none⟩)) E M rfl rfl rfl rfl rfl (run_allocN rfl T.zero99) fun g1 fr w M E => ?_
  refine sset (i := 0) (cs' := #[.int .i64 2, .int .i64 e, .int .i64 n, .int .i64 (j : Int), q']) E M rfl rfl rfl rfl rfl (run_storeN' (vs := #[.int .i64 2, .int .i64 e, .int .i64 n, .int .i64 (j : Int), q']) rfl rfl rfl T.size99 rfl (M.row (i := 0) rfl) rfl (by obtain ⟨b', c', e'⟩ := Reads.slice (M.reads 1 rfl); rw [e']; rfl) rfl) rfl fun fr w M E => ?_
  refine ma E fun fr E => ?_
  refine seq_nil' ?_
  refine wp_seq ?_
  refine code_region ?_
  refine mv E fun fr E => ?_
  refine sw (v := .bool _) E (rfl) fun fr E => ?_
  refine seq_nil' ?_
  refine cond_false E rfl (rfl) ?_
  refine wp_skip ?_
  refine then_normal ?_
  refine code_region ?_
  refine sw (v := .pointer (some ⟨_, 4, none⟩)) E (run_fieldAddr rfl rfl T.fld99_4) fun fr E => ?_
  refine sw E (run_loadB rfl rfl T.one36 (M.row (i := 0) rfl) rfl) fun fr E => ?_
  refine sgive E M rfl rfl rfl rfl rfl (run_call rfl rfl T.fn71) (gGet_x (M.bytes 1 rfl) hq) fun fr w M E => ?_
  refine mv E fun fr E => ?_
  refine sw E (run_extract rfl rfl rfl) fun fr E => ?_
  refine sw E (run_extract rfl rfl rfl) fun fr E => ?_
  refine snew (ob := .cells _ 62) (fun g => .pointer (some ⟨g, 0, none⟩)) E M rfl rfl rfl rfl rfl (run_allocN rfl T.zero62) fun g2 fr w M E => ?_
  refine sset (i := 0) (cs' := (getX q).1.cells.toArray) E M rfl rfl rfl rfl rfl (run_storeAll (vs := (getX q).1.cells.toArray) rfl rfl rfl T.size62 (Rec.size (getX_ok q)) (M.row (i := 0) rfl) rfl (fun v hv => Rec.ones _ v hv)) rfl fun fr w M E => ?_
  refine ma E fun fr E => ?_
  refine seq_nil' ?_
  have M := M.pull 5 rfl
  have M : Mem _ _ ([.blk g0 (.cells Rec.zero.cells.toArray 62)] ++ _) _ _ := M
  refine wp_seq (free_regR (B := T.tab50_8_b) (Vs := (.exact (.agg (getX q).1.cells.toArray) :: .exact _ :: .exact (.bool true) :: .exact _ :: .exact (.pointer (some ⟨_, 2, none⟩)) :: .exact (.int .i64 (getX q).1.epoch) :: .exact (.pointer (some ⟨_, 1, none⟩)) :: .exact (.int .i64 _) :: .exact (.bool false) :: .exact (.bool _) :: .exact _ :: .exact undef :: .exact undef :: .exact undef :: .exact undef :: .exact (.bool _) :: CameI w.heap.size ([.blk g0 (.cells Rec.zero.cells.toArray 62)]) (fun _ : Unit => undef) (fun _ => [.blk g0 (.cells (getX q).1.cells.toArray 62)]) (fun _ => True) :: .exact _ :: [])) (ownRoad (oneFs 16 ([.blk g0 (.cells Rec.zero.cells.toArray 62)])) w.drew) T.tab50_8_i E T.mixed T.tab50_8 rfl ?_ ⟨fr_val rfl rfl M (fun i g h => h.2) (fun x w' M' hB hk => ⟨_, _, rfl, rfl, rfl, run_loadAll rfl rfl T.agg62 (M'.row (i := 0) rfl) (Rec.size (getX_ok q)), Ext.refl _, rfl⟩),
      fr_val rfl rfl M (fun i g h => h.2) (fun x w' M' hB hk => ⟨_, _, rfl, rfl, rfl, run_move rfl rfl, Ext.refl _, rfl⟩),
      fr_val rfl rfl M (fun i g h => h.2) (fun x w' M' hB hk => ⟨_, _, rfl, rfl, rfl, tst rfl (decide_eq_true h1), Ext.refl _, rfl⟩),
      fr_val rfl rfl M (fun i g h => h.2) (fun x w' M' hB hk => ⟨_, _, rfl, rfl, rfl, run_move rfl rfl, Ext.refl _, rfl⟩),
      fr_val rfl rfl M (fun i g h => h.2) (fun x w' M' hB hk => ⟨_, _, rfl, rfl, rfl, run_fieldAddr rfl rfl T.fld62_2, Ext.refl _, rfl⟩),
      fr_val rfl rfl M (fun i g h => h.2) (fun x w' M' hB hk => ⟨_, _, rfl, rfl, rfl, run_loadB rfl rfl T.one3 (M'.row (i := 0) rfl) Rec.c_epoch, Ext.refl _, rfl⟩),
      fr_val rfl rfl M (fun i g h => h.2) (fun x w' M' hB hk => ⟨_, _, rfl, rfl, rfl, run_fieldAddr rfl rfl T.fld99_1, Ext.refl _, rfl⟩),
      fr_val rfl rfl M (fun i g h => h.2) (fun x w' M' hB hk => ⟨_, _, rfl, rfl, rfl, run_loadB rfl rfl T.one3 (M'.row (i := 1) rfl) rfl, Ext.refl _, rfl⟩),
      fr_val rfl rfl M (fun i g h => h.2) (fun x w' M' hB hk => ⟨_, _, rfl, rfl, rfl, tst rfl (decide_eq_false h2), Ext.refl _, rfl⟩),
      fr_val rfl rfl M (fun i g h => h.2) (fun x w' M' hB hk => ⟨_, _, rfl, rfl, rfl, rfl, Ext.refl _, rfl⟩),
      fr_val rfl rfl M (fun i g h => h.2) (fun x w' M' hB hk => ⟨_, _, rfl, rfl, rfl, run_move rfl rfl, Ext.refl _, rfl⟩),
      fr_no rfl rfl (fun x => ⟨rfl, rfl⟩),
      fr_no rfl rfl (fun x => ⟨rfl, rfl⟩),
      fr_no rfl rfl (fun x => ⟨rfl, rfl⟩),
      fr_no rfl rfl (fun x => ⟨rfl, rfl⟩),
      fr_val rfl rfl M (fun i g h => h.2) (fun x w' M' hB hk => ⟨_, _, rfl, rfl, rfl, rfl, Ext.refl _, rfl⟩),
      fr_set rfl rfl M (fun x w' M' H' hB hk => ⟨rfl, rfl, rfl, run_storeAll (vs := (getX q).1.cells.toArray) rfl rfl rfl T.size62 (Rec.size (getX_ok q)) (H'.ent 0 rfl) rfl (fun v hv => Rec.ones _ v hv)⟩),
      fr_val rfl rfl M (fun i g h => h.2) (fun x w' M' hB hk => ⟨_, _, rfl, rfl, rfl, run_assign rfl rfl, Ext.refl _, rfl⟩), trivial⟩ ?_)
  · exact one_okW rfl ((allY_ex (allY_ex (allY_ex (allY_ex (allY_ex (allY_ex (allY_ex (allY_ex (allY_ex (allY_ex (allY_ex (allY_ex (allY_ex (allY_ex (allY_ex (allY_ex (allY_in rfl LastsR.came1 (allY_ex allY_nil)))))))))))))))))))
  intro x fr w ⟨b, hb, hI⟩ hk E
  obtain ⟨u, hy, -, M⟩ := M.behind (val := fun _ : Unit => undef) (outs := fun _ => [.blk g0 (.cells (getX q).1.cells.toArray 62)]) (p := fun _ => True) hI (hk 16 (by decide))
  refine then_normal ?_
  refine wp_ret ?_
  refine retC2 E rfl rfl rfl T.agg62 (M.row (i := 0) rfl) (Rec.size (getX_ok q)) ?_
  have M := M.pull 6 rfl
  have M := M.pull 6 rfl
  exact ⟨D2, rfl, Mem.fin (L := [dkE D2, nmE N] ++ _) M (List.sublist_append_left _ _) hD2⟩

set_option maxRecDepth 100000 in
theorem one_c {D : DV} {N : NV} {g j : Nat} {A : AD} {w0 : World} (H : Has w0 [dkE D, nmE N]) (hD : D.is g A) (hkz : N.ks.length ≤ 1099511627776) (hj : j < A.n) (hl : (A.read j).length ≤ 1024) {e n : Int} {q : List UInt8} (hg : sgetX N.ks 2 (j : Int) (A.read j) = some (e, n, q)) (hq : q.length ≤ 35184372088832) (h1 : (getX q).2 = 0) (h2 : (getX q).1.epoch = e) (h3 : ¬ 1 + (getX q).1.gen.tmod 2 = (j : Int)) : Does Tryz.prog 50 [.pointer (some ⟨g, 0, none⟩), .iface 31 (.pointer (some ⟨N.gn, 0, none⟩)), .int .i64 (j : Int)] w0 [dkE D, nmE N] (fun _ : DV => .tuple #[(getX q).1.val, .bool false]) (fun x => [dkE x, nmE N]) (fun x => x.is g (A.bump j)) := by
  refine enter (n := 53) Tryz.func50 rfl rfl rfl ?_
  intro fr E
  have M : Mem w0 (feet [dkE D, nmE N]) [dkE D, nmE N] (fun _ => True) w0 := Mem.begin H (fun _ _ => trivial)
  refine code_region ?_
  refine snew (ob := .cells _ 62) (fun g => .pointer (some ⟨g, 0, none⟩)) E M rfl rfl rfl rfl rfl (run_allocN rfl T.zero62) fun g0 fr w M E => ?_
  refine sw E (run_assignC rfl) fun fr E => ?_
  refine seq_nil' ?_
  refine code_region ?_
  refine mv E fun fr E => ?_
  refine mv E fun fr E => ?_
  have M := M.pull 1 rfl
  refine scallI ([dkE D]) E M rfl rfl rfl rfl rfl (run_call rfl rfl T.fn21) rfl (fun H => Read_a H hD hj) ?_
  rintro ⟨c, D2⟩ fr w hD2 M E
  refine mv E fun fr E => ?_
  refine sw E (run_extract rfl rfl rfl) fun fr E => ?_
  refine sw E (run_extract rfl rfl rfl) fun fr E => ?_
  refine ma E fun fr E => ?_
  refine ma E fun fr E => ?_
  refine seq_nil' ?_
  refine wp_seq ?_
  refine code_region ?_
  refine mv E fun fr E => ?_
  refine sw (v := .bool _) E (rfl) fun fr E => ?_
  refine seq_nil' ?_
  refine cond_false E rfl (rfl) ?_
  refine wp_skip ?_
  refine then_normal ?_
  refine code_region ?_
  refine mv E fun fr E => ?_
  refine mv E fun fr E => ?_
  refine mv E fun fr E => ?_
  refine scall E M rfl rfl rfl rfl rfl (run_call rfl rfl T.fn45) (sGet_yes (M.bytes 0 rfl) (M.has1 (i := 3) rfl) hkz hg) rfl ?_
  rintro q' fr w - M E
  refine mv E fun fr E => ?_
  refine sw E (run_extract rfl rfl rfl) fun fr E => ?_
  refine sw E (run_extract rfl rfl rfl) fun fr E => ?_
  refine snew (ob := .cells #[_, _, _, _, _] 99) (fun g => .pointer (some ⟨g, 0, none⟩)) E M rfl rfl rfl rfl rfl (run_allocN rfl T.zero99) fun g1 fr w M E => ?_
  refine sset (i := 0) (cs' := #[.int .i64 2, .int .i64 e, .int .i64 n, .int .i64 (j : Int), q']) E M rfl rfl rfl rfl rfl (run_storeN' (vs := #[.int .i64 2, .int .i64 e, .int .i64 n, .int .i64 (j : Int), q']) rfl rfl rfl T.size99 rfl (M.row (i := 0) rfl) rfl (by obtain ⟨b', c', e'⟩ := Reads.slice (M.reads 1 rfl); rw [e']; rfl) rfl) rfl fun fr w M E => ?_
  refine ma E fun fr E => ?_
  refine seq_nil' ?_
  refine wp_seq ?_
  refine code_region ?_
  refine mv E fun fr E => ?_
  refine sw (v := .bool _) E (rfl) fun fr E => ?_
  refine seq_nil' ?_
  refine cond_false E rfl (rfl) ?_
  refine wp_skip ?_
  refine then_normal ?_
  refine code_region ?_
  refine sw (v := .pointer (some ⟨_, 4, none⟩)) E (run_fieldAddr rfl rfl T.fld99_4) fun fr E => ?_
  refine sw E (run_loadB rfl rfl T.one36 (M.row (i := 0) rfl) rfl) fun fr E => ?_
  refine sgive E M rfl rfl rfl rfl rfl (run_call rfl rfl T.fn71) (gGet_x (M.bytes 1 rfl) hq) fun fr w M E => ?_
  refine mv E fun fr E => ?_
  refine sw E (run_extract rfl rfl rfl) fun fr E => ?_
  refine sw E (run_extract rfl rfl rfl) fun fr E => ?_
  refine snew (ob := .cells _ 62) (fun g => .pointer (some ⟨g, 0, none⟩)) E M rfl rfl rfl rfl rfl (run_allocN rfl T.zero62) fun g2 fr w M E => ?_
  refine sset (i := 0) (cs' := (getX q).1.cells.toArray) E M rfl rfl rfl rfl rfl (run_storeAll (vs := (getX q).1.cells.toArray) rfl rfl rfl T.size62 (Rec.size (getX_ok q)) (M.row (i := 0) rfl) rfl (fun v hv => Rec.ones _ v hv)) rfl fun fr w M E => ?_
  refine ma E fun fr E => ?_
  refine seq_nil' ?_
  have M := M.pull 5 rfl
  have M : Mem _ _ ([.blk g0 (.cells Rec.zero.cells.toArray 62)] ++ _) _ _ := M
  refine wp_seq (free_regR (B := T.tab50_8_b) (Vs := (.exact (.agg (getX q).1.cells.toArray) :: .exact _ :: .exact (.bool true) :: .exact _ :: .exact (.pointer (some ⟨_, 2, none⟩)) :: .exact (.int .i64 (getX q).1.epoch) :: .exact (.pointer (some ⟨_, 1, none⟩)) :: .exact (.int .i64 _) :: .exact (.bool true) :: .exact (.bool _) :: .exact _ :: .exact (.agg (getX q).1.cells.toArray) :: .exact (.int .i64 (1 + (getX q).1.gen.tmod 2)) :: .exact _ :: .exact (.bool false) :: .exact (.bool _) :: CameI w.heap.size ([.blk g0 (.cells Rec.zero.cells.toArray 62)]) (fun _ : Unit => undef) (fun _ => [.blk g0 (.cells (getX q).1.cells.toArray 62)]) (fun _ => True) :: .exact _ :: [])) (ownRoad (oneFs 16 ([.blk g0 (.cells Rec.zero.cells.toArray 62)])) w.drew) T.tab50_8_i E T.mixed T.tab50_8 rfl ?_ ⟨fr_val rfl rfl M (fun i g h => h.2) (fun x w' M' hB hk => ⟨_, _, rfl, rfl, rfl, run_loadAll rfl rfl T.agg62 (M'.row (i := 0) rfl) (Rec.size (getX_ok q)), Ext.refl _, rfl⟩),
      fr_val rfl rfl M (fun i g h => h.2) (fun x w' M' hB hk => ⟨_, _, rfl, rfl, rfl, run_move rfl rfl, Ext.refl _, rfl⟩),
      fr_val rfl rfl M (fun i g h => h.2) (fun x w' M' hB hk => ⟨_, _, rfl, rfl, rfl, tst rfl (decide_eq_true h1), Ext.refl _, rfl⟩),
      fr_val rfl rfl M (fun i g h => h.2) (fun x w' M' hB hk => ⟨_, _, rfl, rfl, rfl, run_move rfl rfl, Ext.refl _, rfl⟩),
      fr_val rfl rfl M (fun i g h => h.2) (fun x w' M' hB hk => ⟨_, _, rfl, rfl, rfl, run_fieldAddr rfl rfl T.fld62_2, Ext.refl _, rfl⟩),
      fr_val rfl rfl M (fun i g h => h.2) (fun x w' M' hB hk => ⟨_, _, rfl, rfl, rfl, run_loadB rfl rfl T.one3 (M'.row (i := 0) rfl) Rec.c_epoch, Ext.refl _, rfl⟩),
      fr_val rfl rfl M (fun i g h => h.2) (fun x w' M' hB hk => ⟨_, _, rfl, rfl, rfl, run_fieldAddr rfl rfl T.fld99_1, Ext.refl _, rfl⟩),
      fr_val rfl rfl M (fun i g h => h.2) (fun x w' M' hB hk => ⟨_, _, rfl, rfl, rfl, run_loadB rfl rfl T.one3 (M'.row (i := 1) rfl) rfl, Ext.refl _, rfl⟩),
      fr_val rfl rfl M (fun i g h => h.2) (fun x w' M' hB hk => ⟨_, _, rfl, rfl, rfl, tst rfl (decide_eq_true h2), Ext.refl _, rfl⟩),
      fr_val rfl rfl M (fun i g h => h.2) (fun x w' M' hB hk => ⟨_, _, rfl, rfl, rfl, rfl, Ext.refl _, rfl⟩),
      fr_val rfl rfl M (fun i g h => h.2) (fun x w' M' hB hk => ⟨_, _, rfl, rfl, rfl, run_move rfl rfl, Ext.refl _, rfl⟩),
      fr_val rfl rfl M (fun i g h => h.2) (fun x w' M' hB hk => ⟨_, _, rfl, rfl, rfl, run_loadAll rfl rfl T.agg62 (M'.row (i := 0) rfl) (Rec.size (getX_ok q)), Ext.refl _, rfl⟩),
      fr_ext rfl rfl M (fun i g h => h.2) (fun x w' M' hB hk => ⟨_, _, rfl, rfl, rfl, run_call rfl rfl T.fn60, (at_x (getX_ok q) _).ext⟩),
      fr_val rfl rfl M (fun i g h => h.2) (fun x w' M' hB hk => ⟨_, _, rfl, rfl, rfl, run_move rfl rfl, Ext.refl _, rfl⟩),
      fr_val rfl rfl M (fun i g h => h.2) (fun x w' M' hB hk => ⟨_, _, rfl, rfl, rfl, tst rfl (decide_eq_false h3), Ext.refl _, rfl⟩),
      fr_val rfl rfl M (fun i g h => h.2) (fun x w' M' hB hk => ⟨_, _, rfl, rfl, rfl, rfl, Ext.refl _, rfl⟩),
      fr_set rfl rfl M (fun x w' M' H' hB hk => ⟨rfl, rfl, rfl, run_storeAll (vs := (getX q).1.cells.toArray) rfl rfl rfl T.size62 (Rec.size (getX_ok q)) (H'.ent 0 rfl) rfl (fun v hv => Rec.ones _ v hv)⟩),
      fr_val rfl rfl M (fun i g h => h.2) (fun x w' M' hB hk => ⟨_, _, rfl, rfl, rfl, run_assign rfl rfl, Ext.refl _, rfl⟩), trivial⟩ ?_)
  · exact one_okW rfl ((allY_ex (allY_ex (allY_ex (allY_ex (allY_ex (allY_ex (allY_ex (allY_ex (allY_ex (allY_ex (allY_ex (allY_ex (allY_ex (allY_ex (allY_ex (allY_ex (allY_in rfl LastsR.came1 (allY_ex allY_nil)))))))))))))))))))
  intro x fr w ⟨b, hb, hI⟩ hk E
  obtain ⟨u, hy, -, M⟩ := M.behind (val := fun _ : Unit => undef) (outs := fun _ => [.blk g0 (.cells (getX q).1.cells.toArray 62)]) (p := fun _ => True) hI (hk 16 (by decide))
  refine then_normal ?_
  refine wp_ret ?_
  refine retC2 E rfl rfl rfl T.agg62 (M.row (i := 0) rfl) (Rec.size (getX_ok q)) ?_
  have M := M.pull 6 rfl
  have M := M.pull 6 rfl
  exact ⟨D2, rfl, Mem.fin (L := [dkE D2, nmE N] ++ _) M (List.sublist_append_left _ _) hD2⟩

set_option maxRecDepth 100000 in
theorem one_d {D : DV} {N : NV} {g j : Nat} {A : AD} {w0 : World} (H : Has w0 [dkE D, nmE N]) (hD : D.is g A) (hkz : N.ks.length ≤ 1099511627776) (hj : j < A.n) (hl : (A.read j).length ≤ 1024) {e n : Int} {q : List UInt8} (hg : sgetX N.ks 2 (j : Int) (A.read j) = some (e, n, q)) (hq : q.length ≤ 35184372088832) (h1 : (getX q).2 = 0) (h2 : (getX q).1.epoch = e) (h3 : 1 + (getX q).1.gen.tmod 2 = (j : Int)) : Does Tryz.prog 50 [.pointer (some ⟨g, 0, none⟩), .iface 31 (.pointer (some ⟨N.gn, 0, none⟩)), .int .i64 (j : Int)] w0 [dkE D, nmE N] (fun _ : DV => .tuple #[(getX q).1.val, .bool true]) (fun x => [dkE x, nmE N]) (fun x => x.is g (A.bump j)) := by
  refine enter (n := 53) Tryz.func50 rfl rfl rfl ?_
  intro fr E
  have M : Mem w0 (feet [dkE D, nmE N]) [dkE D, nmE N] (fun _ => True) w0 := Mem.begin H (fun _ _ => trivial)
  refine code_region ?_
  refine snew (ob := .cells _ 62) (fun g => .pointer (some ⟨g, 0, none⟩)) E M rfl rfl rfl rfl rfl (run_allocN rfl T.zero62) fun g0 fr w M E => ?_
  refine sw E (run_assignC rfl) fun fr E => ?_
  refine seq_nil' ?_
  refine code_region ?_
  refine mv E fun fr E => ?_
  refine mv E fun fr E => ?_
  have M := M.pull 1 rfl
  refine scallI ([dkE D]) E M rfl rfl rfl rfl rfl (run_call rfl rfl T.fn21) rfl (fun H => Read_a H hD hj) ?_
  rintro ⟨c, D2⟩ fr w hD2 M E
  refine mv E fun fr E => ?_
  refine sw E (run_extract rfl rfl rfl) fun fr E => ?_
  refine sw E (run_extract rfl rfl rfl) fun fr E => ?_
  refine ma E fun fr E => ?_
  refine ma E fun fr E => ?_
  refine seq_nil' ?_
  refine wp_seq ?_
  refine code_region ?_
  refine mv E fun fr E => ?_
  refine sw (v := .bool _) E (rfl) fun fr E => ?_
  refine seq_nil' ?_
  refine cond_false E rfl (rfl) ?_
  refine wp_skip ?_
  refine then_normal ?_
  refine code_region ?_
  refine mv E fun fr E => ?_
  refine mv E fun fr E => ?_
  refine mv E fun fr E => ?_
  refine scall E M rfl rfl rfl rfl rfl (run_call rfl rfl T.fn45) (sGet_yes (M.bytes 0 rfl) (M.has1 (i := 3) rfl) hkz hg) rfl ?_
  rintro q' fr w - M E
  refine mv E fun fr E => ?_
  refine sw E (run_extract rfl rfl rfl) fun fr E => ?_
  refine sw E (run_extract rfl rfl rfl) fun fr E => ?_
  refine snew (ob := .cells #[_, _, _, _, _] 99) (fun g => .pointer (some ⟨g, 0, none⟩)) E M rfl rfl rfl rfl rfl (run_allocN rfl T.zero99) fun g1 fr w M E => ?_
  refine sset (i := 0) (cs' := #[.int .i64 2, .int .i64 e, .int .i64 n, .int .i64 (j : Int), q']) E M rfl rfl rfl rfl rfl (run_storeN' (vs := #[.int .i64 2, .int .i64 e, .int .i64 n, .int .i64 (j : Int), q']) rfl rfl rfl T.size99 rfl (M.row (i := 0) rfl) rfl (by obtain ⟨b', c', e'⟩ := Reads.slice (M.reads 1 rfl); rw [e']; rfl) rfl) rfl fun fr w M E => ?_
  refine ma E fun fr E => ?_
  refine seq_nil' ?_
  refine wp_seq ?_
  refine code_region ?_
  refine mv E fun fr E => ?_
  refine sw (v := .bool _) E (rfl) fun fr E => ?_
  refine seq_nil' ?_
  refine cond_false E rfl (rfl) ?_
  refine wp_skip ?_
  refine then_normal ?_
  refine code_region ?_
  refine sw (v := .pointer (some ⟨_, 4, none⟩)) E (run_fieldAddr rfl rfl T.fld99_4) fun fr E => ?_
  refine sw E (run_loadB rfl rfl T.one36 (M.row (i := 0) rfl) rfl) fun fr E => ?_
  refine sgive E M rfl rfl rfl rfl rfl (run_call rfl rfl T.fn71) (gGet_x (M.bytes 1 rfl) hq) fun fr w M E => ?_
  refine mv E fun fr E => ?_
  refine sw E (run_extract rfl rfl rfl) fun fr E => ?_
  refine sw E (run_extract rfl rfl rfl) fun fr E => ?_
  refine snew (ob := .cells _ 62) (fun g => .pointer (some ⟨g, 0, none⟩)) E M rfl rfl rfl rfl rfl (run_allocN rfl T.zero62) fun g2 fr w M E => ?_
  refine sset (i := 0) (cs' := (getX q).1.cells.toArray) E M rfl rfl rfl rfl rfl (run_storeAll (vs := (getX q).1.cells.toArray) rfl rfl rfl T.size62 (Rec.size (getX_ok q)) (M.row (i := 0) rfl) rfl (fun v hv => Rec.ones _ v hv)) rfl fun fr w M E => ?_
  refine ma E fun fr E => ?_
  refine seq_nil' ?_
  have M := M.pull 5 rfl
  have M : Mem _ _ ([.blk g0 (.cells Rec.zero.cells.toArray 62)] ++ _) _ _ := M
  refine wp_seq (free_regR (B := T.tab50_8_b) (Vs := (.exact (.agg (getX q).1.cells.toArray) :: .exact _ :: .exact (.bool true) :: .exact _ :: .exact (.pointer (some ⟨_, 2, none⟩)) :: .exact (.int .i64 (getX q).1.epoch) :: .exact (.pointer (some ⟨_, 1, none⟩)) :: .exact (.int .i64 _) :: .exact (.bool true) :: .exact (.bool _) :: .exact _ :: .exact (.agg (getX q).1.cells.toArray) :: .exact (.int .i64 (1 + (getX q).1.gen.tmod 2)) :: .exact _ :: .exact (.bool true) :: .exact (.bool _) :: CameI w.heap.size ([.blk g0 (.cells Rec.zero.cells.toArray 62)]) (fun _ : Unit => undef) (fun _ => [.blk g0 (.cells (getX q).1.cells.toArray 62)]) (fun _ => True) :: .exact _ :: [])) (ownRoad (oneFs 16 ([.blk g0 (.cells Rec.zero.cells.toArray 62)])) w.drew) T.tab50_8_i E T.mixed T.tab50_8 rfl ?_ ⟨fr_val rfl rfl M (fun i g h => h.2) (fun x w' M' hB hk => ⟨_, _, rfl, rfl, rfl, run_loadAll rfl rfl T.agg62 (M'.row (i := 0) rfl) (Rec.size (getX_ok q)), Ext.refl _, rfl⟩),
      fr_val rfl rfl M (fun i g h => h.2) (fun x w' M' hB hk => ⟨_, _, rfl, rfl, rfl, run_move rfl rfl, Ext.refl _, rfl⟩),
      fr_val rfl rfl M (fun i g h => h.2) (fun x w' M' hB hk => ⟨_, _, rfl, rfl, rfl, tst rfl (decide_eq_true h1), Ext.refl _, rfl⟩),
      fr_val rfl rfl M (fun i g h => h.2) (fun x w' M' hB hk => ⟨_, _, rfl, rfl, rfl, run_move rfl rfl, Ext.refl _, rfl⟩),
      fr_val rfl rfl M (fun i g h => h.2) (fun x w' M' hB hk => ⟨_, _, rfl, rfl, rfl, run_fieldAddr rfl rfl T.fld62_2, Ext.refl _, rfl⟩),
      fr_val rfl rfl M (fun i g h => h.2) (fun x w' M' hB hk => ⟨_, _, rfl, rfl, rfl, run_loadB rfl rfl T.one3 (M'.row (i := 0) rfl) Rec.c_epoch, Ext.refl _, rfl⟩),
      fr_val rfl rfl M (fun i g h => h.2) (fun x w' M' hB hk => ⟨_, _, rfl, rfl, rfl, run_fieldAddr rfl rfl T.fld99_1, Ext.refl _, rfl⟩),
      fr_val rfl rfl M (fun i g h => h.2) (fun x w' M' hB hk => ⟨_, _, rfl, rfl, rfl, run_loadB rfl rfl T.one3 (M'.row (i := 1) rfl) rfl, Ext.refl _, rfl⟩),
      fr_val rfl rfl M (fun i g h => h.2) (fun x w' M' hB hk => ⟨_, _, rfl, rfl, rfl, tst rfl (decide_eq_true h2), Ext.refl _, rfl⟩),
      fr_val rfl rfl M (fun i g h => h.2) (fun x w' M' hB hk => ⟨_, _, rfl, rfl, rfl, rfl, Ext.refl _, rfl⟩),
      fr_val rfl rfl M (fun i g h => h.2) (fun x w' M' hB hk => ⟨_, _, rfl, rfl, rfl, run_move rfl rfl, Ext.refl _, rfl⟩),
      fr_val rfl rfl M (fun i g h => h.2) (fun x w' M' hB hk => ⟨_, _, rfl, rfl, rfl, run_loadAll rfl rfl T.agg62 (M'.row (i := 0) rfl) (Rec.size (getX_ok q)), Ext.refl _, rfl⟩),
      fr_ext rfl rfl M (fun i g h => h.2) (fun x w' M' hB hk => ⟨_, _, rfl, rfl, rfl, run_call rfl rfl T.fn60, (at_x (getX_ok q) _).ext⟩),
      fr_val rfl rfl M (fun i g h => h.2) (fun x w' M' hB hk => ⟨_, _, rfl, rfl, rfl, run_move rfl rfl, Ext.refl _, rfl⟩),
      fr_val rfl rfl M (fun i g h => h.2) (fun x w' M' hB hk => ⟨_, _, rfl, rfl, rfl, tst rfl (decide_eq_true h3), Ext.refl _, rfl⟩),
      fr_val rfl rfl M (fun i g h => h.2) (fun x w' M' hB hk => ⟨_, _, rfl, rfl, rfl, rfl, Ext.refl _, rfl⟩),
      fr_set rfl rfl M (fun x w' M' H' hB hk => ⟨rfl, rfl, rfl, run_storeAll (vs := (getX q).1.cells.toArray) rfl rfl rfl T.size62 (Rec.size (getX_ok q)) (H'.ent 0 rfl) rfl (fun v hv => Rec.ones _ v hv)⟩),
      fr_val rfl rfl M (fun i g h => h.2) (fun x w' M' hB hk => ⟨_, _, rfl, rfl, rfl, run_assign rfl rfl, Ext.refl _, rfl⟩), trivial⟩ ?_)
  · exact one_okW rfl ((allY_ex (allY_ex (allY_ex (allY_ex (allY_ex (allY_ex (allY_ex (allY_ex (allY_ex (allY_ex (allY_ex (allY_ex (allY_ex (allY_ex (allY_ex (allY_ex (allY_in rfl LastsR.came1 (allY_ex allY_nil)))))))))))))))))))
  intro x fr w ⟨b, hb, hI⟩ hk E
  obtain ⟨u, hy, -, M⟩ := M.behind (val := fun _ : Unit => undef) (outs := fun _ => [.blk g0 (.cells (getX q).1.cells.toArray 62)]) (p := fun _ => True) hI (hk 16 (by decide))
  refine then_normal ?_
  refine wp_ret ?_
  refine retC2 E rfl rfl rfl T.agg62 (M.row (i := 0) rfl) (Rec.size (getX_ok q)) ?_
  have M := M.pull 6 rfl
  have M := M.pull 6 rfl
  exact ⟨D2, rfl, Mem.fin (L := [dkE D2, nmE N] ++ _) M (List.sublist_append_left _ _) hD2⟩

theorem one_x {D : DV} {N : NV} {g j : Nat} {A : AD} {w0 : World} (H : Has w0 [dkE D, nmE N]) (hD : D.is g A) (hkz : N.ks.length ≤ 1099511627776) (hj : j < A.n) : Does Tryz.prog 50 [.pointer (some ⟨g, 0, none⟩), .iface 31 (.pointer (some ⟨N.gn, 0, none⟩)), .int .i64 (j : Int)] w0 [dkE D, nmE N] (fun _ : DV => .tuple #[(oneX A N.ks j).1.val, .bool (oneX A N.ks j).2]) (fun x => [dkE x, nmE N]) (fun x => x.is g (A.bump j)) := by
  have hl := hD.2.read_len j
  unfold oneX
  cases hg : sgetX N.ks 2 (j : Int) (A.read j) with
  | none =>
    have key : ∃ err : Int, err ≠ 0 ∧ ∀ (w : World) (c : Value), Bytes w c (A.read j) → Has w [nmE N] → Gives Tryz.prog 45 [.iface 31 (.pointer (some ⟨N.gn, 0, none⟩)), .int .i64 2, .int .i64 (j : Int), c] w (.tuple #[.agg #[.int .i64 0, .int .i64 0, .int .i64 0, .int .i64 0, .slice none 0 0], .int .i64 err]) := sGet_err hkz hg
    obtain ⟨err, he0, he1⟩ := key
    exact one_no H hD hkz hj hl err he0 he1
  | some x =>
    obtain ⟨e, n, q⟩ := x
    have hq : q.length ≤ 35184372088832 := by have := sgetX_len hg; omega
    simp only
    by_cases h1 : (getX q).2 = 0
    · by_cases h2 : (getX q).1.epoch = e
      · by_cases h3 : 1 + (getX q).1.gen.tmod 2 = (j : Int)
        · rw [decide_eq_true (⟨h1, h2, h3⟩ : (getX q).2 = 0 ∧ _ ∧ _)]; exact one_d H hD hkz hj hl hg hq h1 h2 h3
        · rw [decide_eq_false (fun c => h3 c.2.2)]; exact one_c H hD hkz hj hl hg hq h1 h2 h3
      · rw [decide_eq_false (fun c => h2 c.2.1)]; exact one_b H hD hkz hj hl hg hq h1 h2
    · rw [decide_eq_false (fun c => h1 c.1)]; exact one_a H hD hkz hj hl hg hq h1

set_option maxRecDepth 100000 in
theorem All_x {D : DV} {N : NV} {g : Nat} {A : AD} {w0 : World} (H : Has w0 [dkE D, nmE N]) (hD : D.is g A) (hkz : N.ks.length ≤ 1099511627776) (hn : 2 < A.n)  : Does Tryz.prog 26 [.pointer (some ⟨g, 0, none⟩), .iface 31 (.pointer (some ⟨N.gn, 0, none⟩))] w0 [dkE D, nmE N] (fun x : Value × DV => x.1) (fun x => [.recs 62 x.1 (allL A N.ks 2), dkE x.2, nmE N]) (fun x => x.2.is g (bumps A 2)) := by
  refine enter (n := 30) Tryz.func26 rfl rfl rfl ?_
  intro fr E
  have M : Mem w0 (feet [dkE D, nmE N]) [dkE D, nmE N] (fun _ => True) w0 := Mem.begin H (fun _ _ => trivial)
  refine code_region ?_
  refine sw E (run_assignC rfl) fun fr E => ?_
  refine seq_nil' ?_
  refine code_region ?_
  refine sw E (run_assignC rfl) fun fr E => ?_
  refine seq_nil' ?_
  refine wp_seq ?_
  refine code_region ?_
  refine srow (sz := 1) (xs := [.int .i64 1, .int .i64 2]) E M rfl rfl rfl rfl rfl (run_buildSliceA (us := [_, _]) (vs := [_, _]) rfl rfl rfl T.slice33 T.size3 T.zl3 rfl rfl rfl rfl rfl) (rfl) (Nat.le_refl _) (by decide) (rfl) fun is fr w M E => ?_
  refine sw (v := .int .i64 _) E (run_lenR rfl rfl rfl rfl T.slice33 (M.reads 0 rfl)) fun fr E => ?_
  refine sw E (run_moveC rfl) fun fr E => ?_
  refine seq_nil' ?_
  refine wp_block ?_
  refine loop_dec (fun d fr w => ∃ (i : Nat) (v is : Value) (D' : DV), d = 2 - i ∧ i ≤ 2 ∧ D'.is g (bumps A i) ∧ Env [(12, .int .i64 i), (11, .int .i64 2), (10, is), (5, v), (1, .iface 31 (.pointer (some ⟨N.gn, 0, none⟩))), (0, .pointer (some ⟨g, 0, none⟩))] 30 fr ∧ Mem w0 (feet [dkE D, nmE N]) [.recs 62 v (allL A N.ks i), .row 3 1 is 2 [.int .i64 1, .int .i64 2], dkE D', nmE N] (fun _ => True) w) (2) ?_ ?_
  · have M := M.nilRecs 62
    refine ⟨0, _, _, D, rfl, by decide, hD, ((((((Env.nil E).add E (t := 0) rfl).add E (t := 1) rfl).add E (t := 5) rfl).add E (t := 10) rfl).add E (t := 11) rfl).add E (t := 12) rfl, M⟩
  · clear E M
    rintro d fr w ⟨i, v, is, D', rfl, hle, hD', E, M⟩
    by_cases hi : i < 2
    · have hj : i + 1 < (bumps A i).n := by rw [bumps_n]; omega
      cases hb : (oneX (bumps A i) N.ks (i + 1)).2
      · refine code_region ?_
        refine sw (v := .bool true) E (tst rfl (decide_eq_true (by omega))) fun fr E => ?_
        refine seq_nil' ?_
        refine wp_seq ?_
        refine cond_true E rfl (rfl) ?_
        refine wp_skip ?_
        refine then_normal ?_
        refine wp_seq ?_
        refine wp_block ?_
        refine code_region ?_
        refine sw E (run_indexR (i := i) rfl (M.reads 1 rfl) rfl rfl (rfl) (hi) T.slice33 T.size3) fun fr E => ?_
        refine sw (v := .int .i64 ((i + 1 : Nat) : Int)) E (run_loadR rfl (M.reads 1 rfl) rfl T.one3 (by rw [Nat.mul_one]; exact is_get hi)) fun fr E => ?_
        refine ma E fun fr E => ?_
        refine seq_nil' ?_
        refine code_region ?_
        refine mv E fun fr E => ?_
        refine mv E fun fr E => ?_
        refine mv E fun fr E => ?_
        have M := M.pull 3 rfl
        have M := M.pull 3 rfl
        refine scallI ([dkE D', nmE N]) E M rfl rfl rfl rfl rfl (run_call rfl rfl T.fn50) rfl (fun H => one_x H hD' hkz hj) ?_
        rintro D2 fr w hD2 M E
        rw [hb] at E
        refine mv E fun fr E => ?_
        refine sw (v := (oneX (bumps A i) N.ks (i + 1)).1.val) E (run_extract rfl rfl rfl) fun fr E => ?_
        refine sw E (run_extract rfl rfl rfl) fun fr E => ?_
        refine snew (ob := .cells _ 62) (fun g => .pointer (some ⟨g, 0, none⟩)) E M rfl rfl rfl rfl rfl (run_allocN rfl T.zero62) fun g0 fr w M E => ?_
        refine sset (i := 0) (cs' := (oneX (bumps A i) N.ks (i + 1)).1.cells.toArray) E M rfl rfl rfl rfl rfl (run_storeAll (vs := (oneX (bumps A i) N.ks (i + 1)).1.cells.toArray) rfl rfl rfl T.size62 (Rec.size (oneX_ok _ _ _)) (M.row (i := 0) rfl) rfl (fun v hv => Rec.ones _ v hv)) rfl fun fr w M E => ?_
        refine ma E fun fr E => ?_
        refine seq_nil' ?_
        refine code_region ?_
        refine mv E fun fr E => ?_
        refine seq_nil' ?_
        refine cond_false E rfl (rfl) ?_
        refine wp_skip ?_
        refine block_normal ?_
        refine then_normal ?_
        refine code_last ?_
        refine sw (v := .int _ (((i + 1 : Nat) : Int))) E (num rfl ((i64_id (by omega) (by omega)).trans (by omega))) fun fr E => ?_
        refine mv E fun fr E => ?_
        refine seq_nil ?_
        refine then_any ?_
        have M := M.pull 2 rfl
        have M := M.pull 2 rfl
        have M := M.pull 4 rfl
        have M := M.pull 4 rfl
        refine ⟨2 - (i + 1), by omega, i + 1, _, _, D2, rfl, by omega, by rw [bumps]; exact hD2, ((((((Env.nil E).add E (t := 0) rfl).add E (t := 1) rfl).add E (t := 5) rfl).add E (t := 10) rfl).add E (t := 11) rfl).add E (t := 12) rfl, Mem.take (L := [.recs 62 _ (allL A N.ks (i + 1)), .row 3 1 _ 2 [.int .i64 1, .int .i64 2], dkE D2, nmE N]) (M.as (by rw [allL_no (by simpa using hb)]; rfl))⟩
      · refine code_region ?_
        refine sw (v := .bool true) E (tst rfl (decide_eq_true (by omega))) fun fr E => ?_
        refine seq_nil' ?_
        refine wp_seq ?_
        refine cond_true E rfl (rfl) ?_
        refine wp_skip ?_
        refine then_normal ?_
        refine wp_seq ?_
        refine wp_block ?_
        refine code_region ?_
        refine sw E (run_indexR (i := i) rfl (M.reads 1 rfl) rfl rfl (rfl) (hi) T.slice33 T.size3) fun fr E => ?_
        refine sw (v := .int .i64 ((i + 1 : Nat) : Int)) E (run_loadR rfl (M.reads 1 rfl) rfl T.one3 (by rw [Nat.mul_one]; exact is_get hi)) fun fr E => ?_
        refine ma E fun fr E => ?_
        refine seq_nil' ?_
        refine code_region ?_
        refine mv E fun fr E => ?_
        refine mv E fun fr E => ?_
        refine mv E fun fr E => ?_
        have M := M.pull 3 rfl
        have M := M.pull 3 rfl
        refine scallI ([dkE D', nmE N]) E M rfl rfl rfl rfl rfl (run_call rfl rfl T.fn50) rfl (fun H => one_x H hD' hkz hj) ?_
        rintro D2 fr w hD2 M E
        rw [hb] at E
        refine mv E fun fr E => ?_
        refine sw (v := (oneX (bumps A i) N.ks (i + 1)).1.val) E (run_extract rfl rfl rfl) fun fr E => ?_
        refine sw E (run_extract rfl rfl rfl) fun fr E => ?_
        refine snew (ob := .cells _ 62) (fun g => .pointer (some ⟨g, 0, none⟩)) E M rfl rfl rfl rfl rfl (run_allocN rfl T.zero62) fun g1 fr w M E => ?_
        refine sset (i := 0) (cs' := (oneX (bumps A i) N.ks (i + 1)).1.cells.toArray) E M rfl rfl rfl rfl rfl (run_storeAll (vs := (oneX (bumps A i) N.ks (i + 1)).1.cells.toArray) rfl rfl rfl T.size62 (Rec.size (oneX_ok _ _ _)) (M.row (i := 0) rfl) rfl (fun v hv => Rec.ones _ v hv)) rfl fun fr w M E => ?_
        refine ma E fun fr E => ?_
        refine seq_nil' ?_
        refine code_region ?_
        refine mv E fun fr E => ?_
        refine seq_nil' ?_
        refine cond_true E rfl (rfl) ?_
        refine code_last ?_
        refine mv E fun fr E => ?_
        refine sw (v := .agg (oneX (bumps A i) N.ks (i + 1)).1.cells.toArray) E (run_loadAll rfl rfl T.agg62 (M.row (i := 0) rfl) (Rec.size (oneX_ok _ _ _))) fun fr E => ?_
        refine srow (sz := 136) (xs := (oneX (bumps A i) N.ks (i + 1)).1.cells) E M rfl rfl rfl rfl rfl (run_buildSliceA (us := (oneX (bumps A i) N.ks (i + 1)).1.cells) (vs := [.agg (oneX (bumps A i) N.ks (i + 1)).1.cells.toArray]) rfl rfl rfl T.slice65 T.size62 T.zl62 rfl (by simp [Value.cells, Rec.len (oneX_ok (bumps A i) N.ks (i + 1))]) rfl rfl (by simp [Value.cells])) (by simp [Rec.len (oneX_ok (bumps A i) N.ks (i + 1))]) (Nat.le_refl _) (by decide) (by simp [List.take_of_length_le, Rec.len (oneX_ok (bumps A i) N.ks (i + 1))]) fun one fr w M E => ?_
        refine sappRec (i := 4) (xs := allL A N.ks i) (news := [(oneX (bumps A i) N.ks (i + 1)).1]) E M rfl rfl rfl rfl rfl rfl rfl rfl rfl rfl rfl T.slice65 T.slice65 T.zt62 T.by62 (recs1 (M.reads 0 rfl)) (by have := allL_len A N.ks i; simp; omega) fun v fr w M E => ?_
        refine ma E fun fr E => ?_
        refine seq_nil ?_
        refine block_normal ?_
        refine then_normal ?_
        refine code_last ?_
        refine sw (v := .int _ (((i + 1 : Nat) : Int))) E (num rfl ((i64_id (by omega) (by omega)).trans (by omega))) fun fr E => ?_
        refine mv E fun fr E => ?_
        refine seq_nil ?_
        refine then_any ?_
        have M := M.pull 3 rfl
        have M := M.pull 3 rfl
        have M := M.pull 5 rfl
        have M := M.pull 5 rfl
        refine ⟨2 - (i + 1), by omega, i + 1, _, _, D2, rfl, by omega, by rw [bumps]; exact hD2, ((((((Env.nil E).add E (t := 0) rfl).add E (t := 1) rfl).add E (t := 5) rfl).add E (t := 10) rfl).add E (t := 11) rfl).add E (t := 12) rfl, Mem.take (L := [.recs 62 _ (allL A N.ks (i + 1)), .row 3 1 _ 2 [.int .i64 1, .int .i64 2], dkE D2, nmE N]) (M.as (by rw [allL_yes (by simpa using hb)]; rfl))⟩
    · obtain rfl : i = 2 := by omega
      refine code_region ?_
      refine sw (v := .bool false) E (tst rfl (rfl)) fun fr E => ?_
      refine seq_nil' ?_
      refine wp_seq ?_
      refine cond_false E rfl (rfl) ?_
      refine wp_exit ?_
      refine then_exit ?_
      refine then_exit ?_
      refine block_exit ?_
      refine then_normal ?_
      refine code_region ?_
      refine mv E fun fr E => ?_
      refine ma E fun fr E => ?_
      refine seq_nil' ?_
      refine wp_ret ?_
      refine ret1 E rfl rfl ?_
      have M := M.pull 3 rfl
      have M := M.pull 3 rfl
      have M := M.pull 2 rfl
      exact ⟨(v, D'), rfl, Mem.fin (L := [.recs 62 v (allL A N.ks 2), dkE D', nmE N] ++ _) M (List.sublist_append_left _ _) hD'⟩

theorem rWrite_y {D : DV} {N : NV} {g : Nat} {A : AD} {r : Rec} {num : Int} {w0 : World} (H : Has w0 [dkE D, nmE N]) (hD : D.is g A) (hr : r.Ok) (hkz : N.ks.length ≤ 1099511627776) {a : Nat} (ha : N.gn = a) : Does Tryz.prog 39 [.pointer (some ⟨g, 0, none⟩), .iface 31 (.pointer (some ⟨a, 0, none⟩)), r.val, .int .i64 num] w0 [dkE D, nmE N] (fun _ : DV × NV => .int .i64 (regW A N.ks r num).1) (fun x => [dkE x.1, nmE x.2]) (fun x => x.1.is g (regW A N.ks r num).2.1 ∧ x.2.gn = a ∧ x.2.ks = (regW A N.ks r num).2.2 ∧ x.2.ts = N.ts) := by
  subst ha
  exact rWrite_x H hD hr hkz
theorem All_y {D : DV} {N : NV} {g : Nat} {A : AD} {w0 : World} (H : Has w0 [dkE D, nmE N]) (hD : D.is g A) (hkz : N.ks.length ≤ 1099511627776) (hn : 2 < A.n) {a : Nat} (ha : N.gn = a) : Does Tryz.prog 26 [.pointer (some ⟨g, 0, none⟩), .iface 31 (.pointer (some ⟨a, 0, none⟩))] w0 [dkE D, nmE N] (fun x : Value × DV => x.1) (fun x => [.recs 62 x.1 (allL A N.ks 2), dkE x.2, nmE N]) (fun x => x.2.is g (bumps A 2)) := by
  subst ha
  exact All_x H hD hkz hn
end Go.Proofs.YtnebjbgcibjohaaGreat.K
end
