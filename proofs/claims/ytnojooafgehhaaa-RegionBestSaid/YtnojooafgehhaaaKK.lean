/- Contracts of package pack: numbers, digests, refs as bytes. -/
import Derived.Test.YtnojooafgehhaaaRTypes
import Derived.Test.YtnojooafgehhaaaRR
import Derived.Test.YtnojooafgehhaaaVWorks
import Derived.Test.YtnojooafgehhaaaRArgs
section
namespace Go.Proofs.Ytnojooafgehhaaa.K
open Go.RowKit Go.Rill Go.Proofs
set_option linter.unusedVariables false
end Go.Proofs.Ytnojooafgehhaaa.K
end
section
namespace Go.Proofs.Ytnojooafgehhaaa.K
open Go.RowKit Go.Rill Go.Proofs
set_option linter.unusedVariables false
set_option linter.unusedSimpArgs false
/-- What a reader tells, and what is left then. -/
def rNext (n : Nat) (s : List UInt8 × Bool) : List UInt8 × Bool := if s.2 = true ∨ s.1.length < n then (s.1, true) else (s.1.drop n, false)
def rInt (s : List UInt8 × Bool) : Int := if s.2 = true ∨ s.1.length < 8 then 0 else num64 (s.1.take 8)
def rSum (s : List UInt8 × Bool) : List UInt8 := if s.2 = true ∨ s.1.length < 32 then List.replicate 32 0 else s.1.take 32
def rRef (s : List UInt8 × Bool) : Int × List UInt8 := if s.2 = true ∨ s.1.length < 40 then (0, List.replicate 32 0) else (num64 ((s.1.take 40).take 8), (s.1.take 40).drop 8)
end Go.Proofs.Ytnojooafgehhaaa.K
end
section
namespace Go.Proofs.Ytnojooafgehhaaa.K
open Go.RowKit Go.Rill Go.Proofs
set_option linter.unusedVariables false
set_option linter.unusedSimpArgs false
end Go.Proofs.Ytnojooafgehhaaa.K
end
section
namespace Go.Proofs.Ytnojooafgehhaaa.K
open Go.RowKit Go.Rill Go.Proofs
set_option linter.unusedVariables false
set_option linter.unusedSimpArgs false
end Go.Proofs.Ytnojooafgehhaaa.K
end
section
namespace Go.Proofs.Ytnojooafgehhaaa.K
open Go.RowKit Go.Rill Go.Proofs
set_option linter.unusedVariables false
set_option linter.unusedSimpArgs false
end Go.Proofs.Ytnojooafgehhaaa.K
end
section
namespace Go.Proofs.Ytnojooafgehhaaa.K
open Go.RowKit Go.Rill Go.Proofs
set_option linter.unusedVariables false
set_option linter.unusedSimpArgs false
end Go.Proofs.Ytnojooafgehhaaa.K
end
section
namespace Go.Proofs.Ytnojooafgehhaaa.K
open Go.RowKit Go.Rill Go.Proofs
set_option linter.unusedVariables false
set_option linter.unusedSimpArgs false
/-- What a reader of a record has left behind k things. -/
def rst (l : List UInt8) : Nat → List UInt8 × Bool
  | 0 => (l, false)
  | k + 1 => rNext (match k with | 3 => 32 | 4 => 40 | 9 => 32 | 10 => 32 | _ => 8) (rst l k)
def Rec.r5 (l : List UInt8) : Rec := { Rec.zero with gen := rInt (rst l 0), stamp := rInt (rst l 1), epoch := rInt (rst l 2), super := rSum (rst l 3), rat := (rRef (rst l 4)).1, rsum := (rRef (rst l 4)).2 }
def Rec.r7 (l : List UInt8) : Rec := { Rec.r5 l with bseg := rInt (rst l 5), bslot := rInt (rst l 6) }
def Rec.r9 (l : List UInt8) : Rec := { Rec.r7 l with tseg := rInt (rst l 7), tslot := rInt (rst l 8) }
def Rec.r10 (l : List UInt8) : Rec := { Rec.r9 l with bsum := rSum (rst l 9) }
def Rec.read (l : List UInt8) : Rec := { Rec.r10 l with tsum := rSum (rst l 10) }
end Go.Proofs.Ytnojooafgehhaaa.K
end
section
namespace Go.Proofs.Ytnojooafgehhaaa.K
open Go.RowKit Go.Rill Go.Proofs
set_option linter.unusedVariables false
set_option linter.unusedSimpArgs false
end Go.Proofs.Ytnojooafgehhaaa.K
end
section
namespace Go.Proofs.Ytnojooafgehhaaa.K
open Go.RowKit Go.Rill Go.Proofs
set_option linter.unusedVariables false
set_option linter.unusedSimpArgs false
def n9 (n : Nat) (l : List UInt8) (a : Nat) (b : Bool) : Nat × Bool := if b = true ∨ l.length - a < n then (a, true) else (a + n, false)
/-- The record as it is filled, field by field. -/
def Rec.q (l : List UInt8) : Nat → Rec
  | 0 => Rec.zero
  | 1 => { Rec.zero with gen := rInt (rst l 0) }
  | 2 => { Rec.zero with gen := rInt (rst l 0), stamp := rInt (rst l 1) }
  | 3 => { Rec.zero with gen := rInt (rst l 0), stamp := rInt (rst l 1), epoch := rInt (rst l 2) }
  | 4 => { Rec.zero with gen := rInt (rst l 0), stamp := rInt (rst l 1), epoch := rInt (rst l 2), super := rSum (rst l 3) }
  | 5 => Rec.r5 l
  | 6 => { Rec.r5 l with bseg := rInt (rst l 5) }
  | 7 => Rec.r7 l
  | 8 => { Rec.r7 l with tseg := rInt (rst l 7) }
  | 9 => Rec.r9 l
  | 10 => Rec.r10 l
  | _ => Rec.read l
theorem blt_of {n m k : Nat} (h : m = k) (hn : Nat.blt n k = true) : Nat.blt n m = true := by rw [h]; exact hn
end Go.Proofs.Ytnojooafgehhaaa.K
end
section
namespace Go.Proofs.Ytnojooafgehhaaa.K
open Go.RowKit Go.Rill Go.Proofs
set_option linter.unusedVariables false
set_option linter.unusedSimpArgs false
end Go.Proofs.Ytnojooafgehhaaa.K
end
section
namespace Go.Proofs.Ytnojooafgehhaaa.K
open Go.RowKit Go.Rill Go.Proofs
set_option linter.unusedVariables false
set_option linter.unusedSimpArgs false
theorem works_x (w0 : World) : Gives Try.prog 15 [] w0 (.bool true) :=
  (VMWorks.calls w0).mono fun e w' ⟨he, hx⟩ => ⟨(), he, ⟨hx.os, hx.tape, hx.output, hx.size, fun g hg _ => hx.block g hg⟩, Has.nil _, fun g h => absurd h feet_nil, trivial⟩
theorem row_of {P : Program} {f : FuncId} {args : List Value} {w : World} {v : Value} (h : Gives P f args w v) : Calls P f args.toArray w fun e w' => e = .returned v ∧ Below w.heap.size w w' :=
  h.mono fun e w' ⟨_, he, hc, _⟩ => ⟨he, ⟨hc.os, hc.tape, hc.output, hc.held.size, fun k hk => hc.held.block k hk feet_nil⟩⟩
theorem Bytes.as {w : World} {v : Value} {l k : List UInt8} (h : Bytes w v l) (e : l = k) : Bytes w v k := e ▸ h
theorem Rec.fit {r : Rec} (h : r.Ok) : Fit ([.i64] ++ [.i64] ++ [.i64] ++ List.replicate 32 .u8 ++ [.i64] ++ List.replicate 32 .u8 ++ [.i64] ++ [.i64] ++ [.i64] ++ [.i64] ++ List.replicate 32 .u8 ++ List.replicate 32 .u8) r.cells := by
  have e : ∀ l : List UInt8, l.length = 32 → Fit (List.replicate 32 .u8) (bc l) := fun l hl => by have := fit_bc l; rwa [hl] at this
  have one : ∀ n : Int, Fit [.i64] [iv n] := fun n => rfl
  have := ((((((((((((one r.gen).app (one r.stamp)).app (one r.epoch)).app (e _ h.super)).app (one r.rat)).app (e _ h.rsum)).app (one r.bseg)).app (one r.bslot)).app (one r.tseg)).app (one r.tslot)).app (e _ h.bsum)).app (e _ h.tsum))
  have e2 : r.cells = [iv r.gen] ++ [iv r.stamp] ++ [iv r.epoch] ++ bc r.super ++ [iv r.rat] ++ bc r.rsum ++ [iv r.bseg] ++ [iv r.bslot] ++ [iv r.tseg] ++ [iv r.tslot] ++ bc r.bsum ++ bc r.tsum := by simp [Rec.cells]
  rw [e2]
  exact this
end Go.Proofs.Ytnojooafgehhaaa.K
end
section
namespace Go.Proofs.Ytnojooafgehhaaa.K
open Go.RowKit Go.Rill Go.Proofs
set_option linter.unusedVariables false
set_option linter.unusedSimpArgs false
def Rec.lent : Rec := { Rec.zero with gen := -77 }
theorem Rec.lent_ok : Rec.lent.Ok := ⟨Rec.zero_ok.super, Rec.zero_ok.rsum, Rec.zero_ok.bsum, Rec.zero_ok.tsum⟩
theorem oks_lent {l : List Rec} (h : Oks l) : Oks (l ++ List.replicate 5 Rec.lent) := fun r hr => by
  rcases List.mem_append.1 hr with h1 | h1
  · exact h r h1
  · rw [List.eq_of_mem_replicate h1]; exact Rec.lent_ok
theorem oks_fill {l : List Rec} (h : Oks l) (i m : Nat) : Oks (l.take i ++ List.replicate m Rec.zero) := fun r hr => by
  rcases List.mem_append.1 hr with h1 | h1
  · exact h r (List.mem_of_mem_take h1)
  · rw [List.eq_of_mem_replicate h1]; exact Rec.zero_ok
theorem fill_stepA {α : Type} {F : List α} {i n : Nat} {c z : α} (hi : i < n) (hF : F.length = n) (hc : F[i]'(by omega) = c) : (F.take i ++ List.replicate (n - i) z).set i c = F.take (i + 1) ++ List.replicate (n - (i + 1)) z := by
  subst hc
  have e : n - i = (n - (i + 1)) + 1 := by omega
  rw [List.take_succ_eq_append_getElem (by omega), e, List.replicate_succ, List.set_append_right _ _ (by simp; omega)]
  have e2 : i - (F.take i).length = 0 := by simp; omega
  rw [e2, List.set_cons_zero]
  simp only [List.append_assoc, List.singleton_append]
set_option maxRecDepth 100000 in
theorem SameRecords_eq {a b : Value} {l : List Rec} {w0 : World} (ha : Recs w0 a l) (hb : Recs w0 b l) (ho : Oks l) (hz : l.length ≤ 300)  : Gives Try.prog 60 [a, b] w0 (.bool true) := by
  refine enter (n := 26) Try.func60 rfl rfl rfl ?_
  intro fr E
  have M : Mem w0 (feet []) [] (fun w' => Recs w' a l ∧ Recs w' b l) w0 := Mem.begin (Has.nil w0) (fun w' h => ⟨ha.held0 h, hb.held0 h⟩)
  refine code_region ?_
  refine sv (v := _) E rfl rfl rfl rfl rfl (run_assignC rfl) fun fr E => ?_
  refine seq_nil' ?_
  refine wp_seq ?_
  refine code_region ?_
  refine sv (v := _) E rfl rfl rfl rfl rfl (run_move rfl rfl) fun fr E => ?_
  refine sv (v := .int .i64 _) E rfl rfl rfl rfl rfl (run_lenR rfl rfl rfl rfl T.slice42 M.fact.1) fun fr E => ?_
  refine sv (v := _) E rfl rfl rfl rfl rfl (run_move rfl rfl) fun fr E => ?_
  refine sv (v := .int .i64 _) E rfl rfl rfl rfl rfl (run_lenR rfl rfl rfl rfl T.slice42 M.fact.2) fun fr E => ?_
  refine sv (v := .bool false) E rfl rfl rfl rfl rfl (tst rfl (by simp)) fun fr E => ?_
  refine seq_nil' ?_
  refine cond_false E rfl (rfl) ?_
  refine wp_skip ?_
  refine then_normal ?_
  refine wp_seq ?_
  refine code_region ?_
  refine sv (v := _) E rfl rfl rfl rfl rfl (run_assignC rfl) fun fr E => ?_
  refine seq_nil' ?_
  refine wp_block ?_
  refine loop_dec (fun d fr w => ∃ i : Nat, d = l.length - i ∧ i ≤ l.length ∧ Env [(5, .int .i64 i), (1, b), (0, a)] 26 fr ∧ Mem w0 (feet []) [] (fun w' => Recs w' a l ∧ Recs w' b l) w) (l.length) ?_ ?_
  · refine ⟨0, rfl, Nat.zero_le _, (((Env.nil E).add E (t := 0) rfl).add E (t := 1) rfl).add E (t := 5) rfl, M⟩
  · clear E M
    rintro d fr w ⟨i, rfl, hle, E, M⟩
    by_cases hi : i < l.length
    · refine wp_seq ?_
      refine code_region ?_
      refine sv (v := _) E rfl rfl rfl rfl rfl (run_move rfl rfl) fun fr E => ?_
      refine sv (v := _) E rfl rfl rfl rfl rfl (run_move rfl rfl) fun fr E => ?_
      refine sv (v := .int .i64 _) E rfl rfl rfl rfl rfl (run_lenR rfl rfl rfl rfl T.slice42 M.fact.1) fun fr E => ?_
      refine sv (v := .bool true) E rfl rfl rfl rfl rfl (tst rfl (decide_eq_true (by omega))) fun fr E => ?_
      refine seq_nil' ?_
      refine cond_true E rfl (rfl) ?_
      refine wp_skip ?_
      refine then_normal ?_
      refine wp_seq ?_
      refine wp_block ?_
      refine wp_seq (free_reg (B := T.tab60_6_b) (Vs := (.exact _ :: .exact _ :: .exact (cellAt a (i * 136)) :: .exact (.agg (l[i]).cells.toArray) :: .exact _ :: .exact _ :: .exact (cellAt b (i * 136)) :: .exact (.agg (l[i]).cells.toArray) :: .exact (.bool false) :: [])) T.tab60_6_i E T.mixed T.tab60_6 rfl (AllS.lasts ⟨trivial, trivial, trivial, trivial, trivial, trivial, trivial, trivial, trivial, trivial⟩) ⟨fs_val rfl rfl (fun x w hx hk => ⟨_, _, rfl, rfl, rfl, run_move rfl rfl, Ext.refl _, rfl⟩),
      fs_val rfl rfl (fun x w hx hk => ⟨_, _, rfl, rfl, rfl, run_move rfl rfl, Ext.refl _, rfl⟩),
      fs_val rfl rfl (fun x w hx hk => ⟨_, _, rfl, rfl, rfl, run_indexR (i := i) rfl (M.ext ((Ext.drew _).trans hx)).fact.1 rfl rfl (rfl) (hi) T.slice42 T.size29, Ext.refl _, rfl⟩),
      fs_val rfl rfl (fun x w hx hk => ⟨_, _, rfl, rfl, rfl, run_loadRN rfl (M.ext ((Ext.drew _).trans hx)).fact.1 rfl T.agg29 (by omega) (by omega) (rcs_get ho hi), Ext.refl _, rfl⟩),
      fs_val rfl rfl (fun x w hx hk => ⟨_, _, rfl, rfl, rfl, run_move rfl rfl, Ext.refl _, rfl⟩),
      fs_val rfl rfl (fun x w hx hk => ⟨_, _, rfl, rfl, rfl, run_move rfl rfl, Ext.refl _, rfl⟩),
      fs_val rfl rfl (fun x w hx hk => ⟨_, _, rfl, rfl, rfl, run_indexR (i := i) rfl (M.ext ((Ext.drew _).trans hx)).fact.2 rfl rfl (rfl) (hi) T.slice42 T.size29, Ext.refl _, rfl⟩),
      fs_val rfl rfl (fun x w hx hk => ⟨_, _, rfl, rfl, rfl, run_loadRN rfl (M.ext ((Ext.drew _).trans hx)).fact.2 rfl T.agg29 (by omega) (by omega) (rcs_get ho hi), Ext.refl _, rfl⟩),
      fs_val rfl rfl (fun x w hx hk => ⟨_, _, rfl, rfl, rfl, run_neF (b := true) (xs := (l[i]).cells) (ys := (l[i]).cells) rfl rfl rfl T.flat29 (Rec.fit (ho.get hi)) (Rec.fit (ho.get hi)) (by simp), Ext.refl _, rfl⟩), trivial⟩ ?_)
      intro x fr w hx hk E
      have M := M.ext hx
      refine then_normal ?_
      refine cond_false E rfl (rfl) ?_
      refine wp_skip ?_
      refine block_normal ?_
      refine then_normal ?_
      refine code_last ?_
      refine sv (v := _) E rfl rfl rfl rfl rfl (run_move rfl rfl) fun fr E => ?_
      refine sv (v := .int _ (((i + 1 : Nat) : Int))) E rfl rfl rfl rfl rfl (num rfl ((i64_id (by omega) (by omega)).trans (by omega))) fun fr E => ?_
      refine sv (v := _) E rfl rfl rfl rfl rfl (run_assign rfl rfl) fun fr E => ?_
      refine seq_nil ?_
      refine then_any ?_
      refine ⟨l.length - (i + 1), by omega, i + 1, rfl, by omega, (((Env.nil E).add E (t := 0) rfl).add E (t := 1) rfl).add E (t := 5) rfl, M⟩
    · refine wp_seq ?_
      refine code_region ?_
      refine sv (v := _) E rfl rfl rfl rfl rfl (run_move rfl rfl) fun fr E => ?_
      refine sv (v := _) E rfl rfl rfl rfl rfl (run_move rfl rfl) fun fr E => ?_
      refine sv (v := .int .i64 _) E rfl rfl rfl rfl rfl (run_lenR rfl rfl rfl rfl T.slice42 M.fact.1) fun fr E => ?_
      refine sv (v := .bool false) E rfl rfl rfl rfl rfl (tst rfl (decide_eq_false (by omega))) fun fr E => ?_
      refine seq_nil' ?_
      refine cond_false E rfl (rfl) ?_
      refine wp_exit ?_
      refine then_exit ?_
      refine then_exit ?_
      refine block_exit ?_
      refine then_normal ?_
      refine code_region ?_
      refine sv (v := _) E rfl rfl rfl rfl rfl (run_assignC rfl) fun fr E => ?_
      refine seq_nil' ?_
      refine wp_ret ?_
      refine ret1 E rfl rfl ?_
      exact given M

set_option maxRecDepth 100000 in
theorem has_x {a : Value} {l : List Rec} {r : Rec} {w0 : World} (ha : Recs w0 a l) (hr : r.Ok) (hm : r ∈ l) (ho : Oks l) (hz : l.length ≤ 300)  : Gives Try.prog 30 [a, r.val] w0 (.bool true) := by
  refine enter (n := 18) Try.func30 rfl rfl rfl ?_
  intro fr E
  have M : Mem w0 (feet []) [] (fun w' => Recs w' a l) w0 := Mem.begin (Has.nil w0) (fun w' h => ha.held0 h)
  refine code_region ?_
  refine snew (ob := .cells (r.cells.toArray) 29) (fun g => .pointer (some ⟨g, 0, none⟩)) E M rfl rfl rfl rfl rfl (run_boxN (cs := (r.cells.toArray)) rfl rfl) fun g0 fr w M E => ?_
  refine sv (v := _) E rfl rfl rfl rfl rfl (run_assignC rfl) fun fr E => ?_
  refine seq_nil' ?_
  refine wp_seq ?_
  refine code_region ?_
  refine sv (v := _) E rfl rfl rfl rfl rfl (run_assignC rfl) fun fr E => ?_
  refine seq_nil' ?_
  refine wp_block ?_
  refine loop_dec (fun d fr w => ∃ i : Nat, d = l.length - i ∧ i ≤ l.length ∧ (∀ j, j < i → ∀ hj : j < l.length, (l[j]).cells ≠ r.cells) ∧ Env [(5, .int .i64 i), (3, .pointer (some ⟨g0, 0, none⟩)), (0, a)] 18 fr ∧ Mem w0 (feet []) [.blk g0 (.cells r.cells.toArray 29)] (fun w' => Recs w' a l) w) (l.length) ?_ ?_
  · refine ⟨0, rfl, Nat.zero_le _, fun j hj => absurd hj (by omega), (((Env.nil E).add E (t := 0) rfl).add E (t := 3) rfl).add E (t := 5) rfl, M⟩
  · clear E M
    rintro d fr w ⟨i, rfl, hle, hno, E, M⟩
    by_cases hi : i < l.length
    · by_cases hc : (l[i]).cells = r.cells
      · refine wp_seq ?_
        refine code_region ?_
        refine sv (v := _) E rfl rfl rfl rfl rfl (run_move rfl rfl) fun fr E => ?_
        refine sv (v := _) E rfl rfl rfl rfl rfl (run_move rfl rfl) fun fr E => ?_
        refine sv (v := .int .i64 _) E rfl rfl rfl rfl rfl (run_lenR rfl rfl rfl rfl T.slice42 M.fact) fun fr E => ?_
        refine sv (v := .bool true) E rfl rfl rfl rfl rfl (tst rfl (decide_eq_true (by omega))) fun fr E => ?_
        refine seq_nil' ?_
        refine cond_true E rfl (rfl) ?_
        refine wp_skip ?_
        refine then_normal ?_
        refine wp_seq ?_
        refine wp_block ?_
        refine wp_seq (free_reg (B := T.tab30_4_b) (Vs := (.exact _ :: .exact _ :: .exact (cellAt a (i * 136)) :: .exact (.agg (l[i]).cells.toArray) :: .exact (.agg r.cells.toArray) :: .exact (.bool true) :: [])) T.tab30_4_i E T.mixed T.tab30_4 rfl (AllS.lasts ⟨trivial, trivial, trivial, trivial, trivial, trivial, trivial⟩) ⟨fs_val rfl rfl (fun x w hx hk => ⟨_, _, rfl, rfl, rfl, run_move rfl rfl, Ext.refl _, rfl⟩),
      fs_val rfl rfl (fun x w hx hk => ⟨_, _, rfl, rfl, rfl, run_move rfl rfl, Ext.refl _, rfl⟩),
      fs_val rfl rfl (fun x w hx hk => ⟨_, _, rfl, rfl, rfl, run_indexR (i := i) rfl (M.ext ((Ext.drew _).trans hx)).fact rfl rfl (rfl) (hi) T.slice42 T.size29, Ext.refl _, rfl⟩),
      fs_val rfl rfl (fun x w hx hk => ⟨_, _, rfl, rfl, rfl, run_loadRN rfl (M.ext ((Ext.drew _).trans hx)).fact rfl T.agg29 (by omega) (by omega) (rcs_get ho hi), Ext.refl _, rfl⟩),
      fs_val rfl rfl (fun x w hx hk => ⟨_, _, rfl, rfl, rfl, run_loadAll rfl rfl T.agg29 ((M.ext ((Ext.drew _).trans hx)).row (i := 0) rfl) (Rec.size hr), Ext.refl _, rfl⟩),
      fs_val rfl rfl (fun x w hx hk => ⟨_, _, rfl, rfl, rfl, run_eqF (b := true) (xs := (l[i]).cells) (ys := r.cells) rfl rfl rfl T.flat29 (Rec.fit (ho.get hi)) (Rec.fit hr) (by simp [hc]), Ext.refl _, rfl⟩), trivial⟩ ?_)
        intro x fr w hx hk E
        have M := M.ext hx
        refine then_normal ?_
        refine cond_true E rfl (rfl) ?_
        refine code_region ?_
        refine sv (v := _) E rfl rfl rfl rfl rfl (run_assignC rfl) fun fr E => ?_
        refine seq_nil' ?_
        refine wp_ret ?_
        refine block_ret ?_
        refine then_ret ?_
        refine then_ret ?_
        refine block_ret ?_
        refine then_ret ?_
        refine ret1 E rfl rfl ?_
        exact given M
      · refine wp_seq ?_
        refine code_region ?_
        refine sv (v := _) E rfl rfl rfl rfl rfl (run_move rfl rfl) fun fr E => ?_
        refine sv (v := _) E rfl rfl rfl rfl rfl (run_move rfl rfl) fun fr E => ?_
        refine sv (v := .int .i64 _) E rfl rfl rfl rfl rfl (run_lenR rfl rfl rfl rfl T.slice42 M.fact) fun fr E => ?_
        refine sv (v := .bool true) E rfl rfl rfl rfl rfl (tst rfl (decide_eq_true (by omega))) fun fr E => ?_
        refine seq_nil' ?_
        refine cond_true E rfl (rfl) ?_
        refine wp_skip ?_
        refine then_normal ?_
        refine wp_seq ?_
        refine wp_block ?_
        refine wp_seq (free_reg (B := T.tab30_4_b) (Vs := (.exact _ :: .exact _ :: .exact (cellAt a (i * 136)) :: .exact (.agg (l[i]).cells.toArray) :: .exact (.agg r.cells.toArray) :: .exact (.bool false) :: [])) T.tab30_4_i E T.mixed T.tab30_4 rfl (AllS.lasts ⟨trivial, trivial, trivial, trivial, trivial, trivial, trivial⟩) ⟨fs_val rfl rfl (fun x w hx hk => ⟨_, _, rfl, rfl, rfl, run_move rfl rfl, Ext.refl _, rfl⟩),
      fs_val rfl rfl (fun x w hx hk => ⟨_, _, rfl, rfl, rfl, run_move rfl rfl, Ext.refl _, rfl⟩),
      fs_val rfl rfl (fun x w hx hk => ⟨_, _, rfl, rfl, rfl, run_indexR (i := i) rfl (M.ext ((Ext.drew _).trans hx)).fact rfl rfl (rfl) (hi) T.slice42 T.size29, Ext.refl _, rfl⟩),
      fs_val rfl rfl (fun x w hx hk => ⟨_, _, rfl, rfl, rfl, run_loadRN rfl (M.ext ((Ext.drew _).trans hx)).fact rfl T.agg29 (by omega) (by omega) (rcs_get ho hi), Ext.refl _, rfl⟩),
      fs_val rfl rfl (fun x w hx hk => ⟨_, _, rfl, rfl, rfl, run_loadAll rfl rfl T.agg29 ((M.ext ((Ext.drew _).trans hx)).row (i := 0) rfl) (Rec.size hr), Ext.refl _, rfl⟩),
      fs_val rfl rfl (fun x w hx hk => ⟨_, _, rfl, rfl, rfl, run_eqF (b := false) (xs := (l[i]).cells) (ys := r.cells) rfl rfl rfl T.flat29 (Rec.fit (ho.get hi)) (Rec.fit hr) (by simp [hc]), Ext.refl _, rfl⟩), trivial⟩ ?_)
        intro x fr w hx hk E
        have M := M.ext hx
        refine then_normal ?_
        refine cond_false E rfl (rfl) ?_
        refine wp_skip ?_
        refine block_normal ?_
        refine then_normal ?_
        refine code_last ?_
        refine sv (v := _) E rfl rfl rfl rfl rfl (run_move rfl rfl) fun fr E => ?_
        refine sv (v := .int _ (((i + 1 : Nat) : Int))) E rfl rfl rfl rfl rfl (num rfl ((i64_id (by omega) (by omega)).trans (by omega))) fun fr E => ?_
        refine sv (v := _) E rfl rfl rfl rfl rfl (run_assign rfl rfl) fun fr E => ?_
        refine seq_nil ?_
        refine then_any ?_
        refine ⟨l.length - (i + 1), by omega, i + 1, rfl, by omega, fun j hj hj2 => ?_, (((Env.nil E).add E (t := 0) rfl).add E (t := 3) rfl).add E (t := 5) rfl, M⟩
        rcases Nat.lt_or_eq_of_le (Nat.le_of_lt_succ hj) with h | rfl
        · exact hno j h hj2
        · exact hc
    · obtain ⟨j, hj, hjr⟩ := List.getElem_of_mem hm
      exact absurd (congrArg Rec.cells hjr) (hno j (by omega) hj)

set_option maxRecDepth 100000 in
theorem LentRecords_x {b : Value} {l : List Rec} {w0 : World} (hb : Recs w0 b l) (ho : Oks l) (hz : l.length ≤ 300)  : Does Try.prog 20 [b] w0 [] (fun s : Value => s) (fun s => [.recs 29 s (l ++ List.replicate 5 Rec.lent)]) (fun _ => True) := by
  refine enter (n := 31) Try.func20 rfl rfl rfl ?_
  intro fr E
  have M : Mem w0 (feet []) [] (fun w' => Recs w' b l) w0 := Mem.begin (Has.nil w0) (fun w' h => hb.held0 h)
  refine code_region ?_
  refine sv (v := _) E rfl rfl rfl rfl rfl (run_assignC rfl) fun fr E => ?_
  refine seq_nil' ?_
  refine code_region ?_
  refine sv (v := _) E rfl rfl rfl rfl rfl (run_move rfl rfl) fun fr E => ?_
  refine sv (v := .int .i64 _) E rfl rfl rfl rfl rfl (run_lenR rfl rfl rfl rfl T.slice42 M.fact) fun fr E => ?_
  refine sv (v := .int _ (((l.length + 5 : Nat) : Int))) E rfl rfl rfl rfl rfl (num rfl ((i64_id (by omega) (by omega)).trans (by omega))) fun fr E => ?_
  refine smakeRec (k := l.length + 5) (bytes := 192) E M rfl rfl rfl rfl rfl rfl rfl rfl rfl rfl T.slice42 T.zt29 T.zrec T.by29 (by omega) fun o fr w M E => ?_
  refine sv (v := _) E rfl rfl rfl rfl rfl (run_assign rfl rfl) fun fr E => ?_
  refine seq_nil' ?_
  refine wp_seq ?_
  refine code_region ?_
  refine sv (v := _) E rfl rfl rfl rfl rfl (run_assignC rfl) fun fr E => ?_
  refine seq_nil' ?_
  refine wp_block ?_
  refine loop_dec (fun d fr w => ∃ i : Nat, d = (l.length + 5) - i ∧ i ≤ (l.length + 5) ∧ Env [(4, .int .i64 i), (3, o), (0, b)] 31 fr ∧ Mem w0 (feet []) [.recs 29 o ((l ++ List.replicate 5 Rec.lent).take i ++ List.replicate ((l.length + 5) - i) Rec.zero)] (fun w' => Recs w' b l) w) ((l.length + 5)) ?_ ?_
  · refine ⟨0, rfl, by omega, (((Env.nil E).add E (t := 0) rfl).add E (t := 3) rfl).add E (t := 4) rfl, M.as (by simp)⟩
  · clear E M
    rintro d fr w ⟨i, hd, hle, E, M⟩
    have hF : (l ++ List.replicate 5 Rec.lent).length = (l.length + 5) := by simp
    have hX : ((l ++ List.replicate 5 Rec.lent).take i ++ List.replicate ((l.length + 5) - i) Rec.zero).length = (l.length + 5) := by rw [List.length_append, List.length_take, List.length_replicate, hF]; omega
    have hXo : Oks ((l ++ List.replicate 5 Rec.lent).take i ++ List.replicate ((l.length + 5) - i) Rec.zero) := oks_fill (oks_lent ho) _ _
    by_cases hi : i < (l.length + 5)
    · by_cases hl : i < l.length
      · refine wp_seq ?_
        refine code_region ?_
        refine sv (v := _) E rfl rfl rfl rfl rfl (run_move rfl rfl) fun fr E => ?_
        refine sv (v := _) E rfl rfl rfl rfl rfl (run_move rfl rfl) fun fr E => ?_
        refine sv (v := .int .i64 _) E rfl rfl rfl rfl rfl (run_lenR rfl rfl rfl rfl T.slice42 (M.reads 0 rfl)) fun fr E => ?_
        refine sv (v := .bool true) E rfl rfl rfl rfl rfl (tst rfl (by rw [hX]; exact decide_eq_true (by omega))) fun fr E => ?_
        refine seq_nil' ?_
        refine cond_true E rfl (rfl) ?_
        refine wp_skip ?_
        refine then_normal ?_
        refine wp_seq ?_
        refine wp_block ?_
        refine code_region ?_
        refine sv (v := _) E rfl rfl rfl rfl rfl (run_move rfl rfl) fun fr E => ?_
        refine sv (v := _) E rfl rfl rfl rfl rfl (run_move rfl rfl) fun fr E => ?_
        refine sv (v := .agg (Rec.lent.cells).toArray) E rfl rfl rfl rfl rfl (run_buildP (vs := [iv (-77)]) (us := Rec.lent.cells) rfl rfl T.ts29 T.zeroL29 (rfl) rfl rfl (rfl)) fun fr E => ?_
        refine sv (v := _) E rfl rfl rfl rfl rfl (run_indexR (i := i) rfl (M.reads 0 rfl) rfl rfl (rfl) ((by omega)) T.slice42 T.size29) fun fr E => ?_
        refine ssetRec (i := 0) (k := i) (r := Rec.lent) E M rfl rfl rfl rfl rfl rfl rfl rfl T.size29 (by omega) (Rec.lent_ok) (hXo) fun fr w M E => ?_
        refine seq_nil' ?_
        refine code_region ?_
        refine sv (v := _) E rfl rfl rfl rfl rfl (run_move rfl rfl) fun fr E => ?_
        refine sv (v := _) E rfl rfl rfl rfl rfl (run_move rfl rfl) fun fr E => ?_
        refine sv (v := .int .i64 _) E rfl rfl rfl rfl rfl (run_lenR rfl rfl rfl rfl T.slice42 M.fact) fun fr E => ?_
        refine sv (v := .bool true) E rfl rfl rfl rfl rfl (tst rfl (decide_eq_true (by omega))) fun fr E => ?_
        refine seq_nil' ?_
        refine cond_true E rfl (rfl) ?_
        refine code_last ?_
        refine sv (v := _) E rfl rfl rfl rfl rfl (run_move rfl rfl) fun fr E => ?_
        refine sv (v := _) E rfl rfl rfl rfl rfl (run_move rfl rfl) fun fr E => ?_
        refine sv (v := _) E rfl rfl rfl rfl rfl (run_move rfl rfl) fun fr E => ?_
        refine sv (v := _) E rfl rfl rfl rfl rfl (run_move rfl rfl) fun fr E => ?_
        refine sv (v := _) E rfl rfl rfl rfl rfl (run_indexR (i := i) rfl M.fact rfl rfl (rfl) (hl) T.slice42 T.size29) fun fr E => ?_
        refine sv (v := .agg (l[i]).cells.toArray) E rfl rfl rfl rfl rfl (run_loadRN rfl M.fact rfl T.agg29 (by omega) (by omega) (rcs_get ho hl)) fun fr E => ?_
        refine sv (v := _) E rfl rfl rfl rfl rfl (run_indexR (i := i) rfl (M.reads 0 rfl) rfl rfl (rfl) ((by rw [List.length_set]; omega)) T.slice42 T.size29) fun fr E => ?_
        refine ssetRec (i := 0) (k := i) (r := l[i]) E M rfl rfl rfl rfl rfl rfl rfl rfl T.size29 (by rw [List.length_set]; omega) (ho.get hl) (hXo.set Rec.lent_ok) fun fr w M E => ?_
        refine seq_nil ?_
        refine block_normal ?_
        refine then_normal ?_
        refine code_last ?_
        refine sv (v := _) E rfl rfl rfl rfl rfl (run_move rfl rfl) fun fr E => ?_
        refine sv (v := .int _ (((i + 1 : Nat) : Int))) E rfl rfl rfl rfl rfl (num rfl ((i64_id (by omega) (by omega)).trans (by omega))) fun fr E => ?_
        refine sv (v := _) E rfl rfl rfl rfl rfl (run_assign rfl rfl) fun fr E => ?_
        refine seq_nil ?_
        refine then_any ?_
        refine ⟨(l.length + 5) - (i + 1), by omega, i + 1, rfl, by omega, (((Env.nil E).add E (t := 0) rfl).add E (t := 3) rfl).add E (t := 4) rfl, M.as ?_⟩
        refine congrArg (fun x => [Ent.recs 29 o x]) ?_
        exact ((List.set_set ..).trans (fill_stepA (F := (l ++ List.replicate 5 Rec.lent)) hi hF (by rw [List.getElem_append_left hl])))
      · refine wp_seq ?_
        refine code_region ?_
        refine sv (v := _) E rfl rfl rfl rfl rfl (run_move rfl rfl) fun fr E => ?_
        refine sv (v := _) E rfl rfl rfl rfl rfl (run_move rfl rfl) fun fr E => ?_
        refine sv (v := .int .i64 _) E rfl rfl rfl rfl rfl (run_lenR rfl rfl rfl rfl T.slice42 (M.reads 0 rfl)) fun fr E => ?_
        refine sv (v := .bool true) E rfl rfl rfl rfl rfl (tst rfl (by rw [hX]; exact decide_eq_true (by omega))) fun fr E => ?_
        refine seq_nil' ?_
        refine cond_true E rfl (rfl) ?_
        refine wp_skip ?_
        refine then_normal ?_
        refine wp_seq ?_
        refine wp_block ?_
        refine code_region ?_
        refine sv (v := _) E rfl rfl rfl rfl rfl (run_move rfl rfl) fun fr E => ?_
        refine sv (v := _) E rfl rfl rfl rfl rfl (run_move rfl rfl) fun fr E => ?_
        refine sv (v := .agg (Rec.lent.cells).toArray) E rfl rfl rfl rfl rfl (run_buildP (vs := [iv (-77)]) (us := Rec.lent.cells) rfl rfl T.ts29 T.zeroL29 (rfl) rfl rfl (rfl)) fun fr E => ?_
        refine sv (v := _) E rfl rfl rfl rfl rfl (run_indexR (i := i) rfl (M.reads 0 rfl) rfl rfl (rfl) ((by omega)) T.slice42 T.size29) fun fr E => ?_
        refine ssetRec (i := 0) (k := i) (r := Rec.lent) E M rfl rfl rfl rfl rfl rfl rfl rfl T.size29 (by omega) (Rec.lent_ok) (hXo) fun fr w M E => ?_
        refine seq_nil' ?_
        refine code_region ?_
        refine sv (v := _) E rfl rfl rfl rfl rfl (run_move rfl rfl) fun fr E => ?_
        refine sv (v := _) E rfl rfl rfl rfl rfl (run_move rfl rfl) fun fr E => ?_
        refine sv (v := .int .i64 _) E rfl rfl rfl rfl rfl (run_lenR rfl rfl rfl rfl T.slice42 M.fact) fun fr E => ?_
        refine sv (v := .bool false) E rfl rfl rfl rfl rfl (tst rfl (decide_eq_false (by omega))) fun fr E => ?_
        refine seq_nil' ?_
        refine cond_false E rfl (rfl) ?_
        refine wp_skip ?_
        refine block_normal ?_
        refine then_normal ?_
        refine code_last ?_
        refine sv (v := _) E rfl rfl rfl rfl rfl (run_move rfl rfl) fun fr E => ?_
        refine sv (v := .int _ (((i + 1 : Nat) : Int))) E rfl rfl rfl rfl rfl (num rfl ((i64_id (by omega) (by omega)).trans (by omega))) fun fr E => ?_
        refine sv (v := _) E rfl rfl rfl rfl rfl (run_assign rfl rfl) fun fr E => ?_
        refine seq_nil ?_
        refine then_any ?_
        refine ⟨(l.length + 5) - (i + 1), by omega, i + 1, rfl, by omega, (((Env.nil E).add E (t := 0) rfl).add E (t := 3) rfl).add E (t := 4) rfl, M.as ?_⟩
        refine congrArg (fun x => [Ent.recs 29 o x]) ?_
        exact (fill_stepA (F := (l ++ List.replicate 5 Rec.lent)) hi hF (by rw [List.getElem_append_right (by omega), List.getElem_replicate]))
    · obtain rfl : i = (l.length + 5) := by omega
      refine wp_seq ?_
      refine code_region ?_
      refine sv (v := _) E rfl rfl rfl rfl rfl (run_move rfl rfl) fun fr E => ?_
      refine sv (v := _) E rfl rfl rfl rfl rfl (run_move rfl rfl) fun fr E => ?_
      refine sv (v := .int .i64 _) E rfl rfl rfl rfl rfl (run_lenR rfl rfl rfl rfl T.slice42 (M.reads 0 rfl)) fun fr E => ?_
      refine sv (v := .bool false) E rfl rfl rfl rfl rfl (tst rfl (by rw [hX]; exact decide_eq_false (by omega))) fun fr E => ?_
      refine seq_nil' ?_
      refine cond_false E rfl (rfl) ?_
      refine wp_exit ?_
      refine then_exit ?_
      refine then_exit ?_
      refine block_exit ?_
      refine then_normal ?_
      refine code_region ?_
      refine sv (v := _) E rfl rfl rfl rfl rfl (run_move rfl rfl) fun fr E => ?_
      refine sv (v := _) E rfl rfl rfl rfl rfl (run_assign rfl rfl) fun fr E => ?_
      refine seq_nil' ?_
      refine wp_ret ?_
      refine ret1 E rfl rfl ?_
      have M := M.as (L' := [.recs 29 o (l ++ List.replicate 5 Rec.lent)]) (by rw [← hF, List.take_length, hF, Nat.sub_self, List.replicate_zero, List.append_nil])
      exact ⟨_, rfl, M.fin (.refl _) trivial⟩

set_option maxRecDepth 100000 in
theorem KeptRecords_x {a b : Value} {l : List Rec} {w0 : World} (ha : Recs w0 a (l ++ List.replicate 5 Rec.lent)) (hb : Recs w0 b l) (ho : Oks l) (hz : l.length ≤ 300)  : Gives Try.prog 23 [a, b] w0 (.bool true) := by
  refine enter (n := 35) Try.func23 rfl rfl rfl ?_
  intro fr E
  have M : Mem w0 (feet []) [] (fun w' => Recs w' a (l ++ List.replicate 5 Rec.lent) ∧ Recs w' b l) w0 := Mem.begin (Has.nil w0) (fun w' h => ⟨ha.held0 h, hb.held0 h⟩)
  refine code_region ?_
  refine sv (v := _) E rfl rfl rfl rfl rfl (run_assignC rfl) fun fr E => ?_
  refine seq_nil' ?_
  refine wp_seq ?_
  refine code_region ?_
  refine sv (v := _) E rfl rfl rfl rfl rfl (run_move rfl rfl) fun fr E => ?_
  refine sv (v := .int .i64 _) E rfl rfl rfl rfl rfl (run_lenR rfl rfl rfl rfl T.slice42 M.fact.1) fun fr E => ?_
  refine sv (v := _) E rfl rfl rfl rfl rfl (run_move rfl rfl) fun fr E => ?_
  refine sv (v := .int .i64 _) E rfl rfl rfl rfl rfl (run_lenR rfl rfl rfl rfl T.slice42 M.fact.2) fun fr E => ?_
  refine sv (v := .int _ (((l.length + 5 : Nat) : Int))) E rfl rfl rfl rfl rfl (num rfl ((i64_id (by omega) (by omega)).trans (by omega))) fun fr E => ?_
  refine sv (v := .bool false) E rfl rfl rfl rfl rfl (tst rfl (by simp)) fun fr E => ?_
  refine sv (v := _) E rfl rfl rfl rfl rfl (run_move rfl rfl) fun fr E => ?_
  refine sv (v := _) E rfl rfl rfl rfl rfl (run_move rfl rfl) fun fr E => ?_
  refine sv (v := _) E rfl rfl rfl rfl rfl (run_move rfl rfl) fun fr E => ?_
  refine sv (v := .int .i64 _) E rfl rfl rfl rfl rfl (run_lenR rfl rfl rfl rfl T.slice42 M.fact.2) fun fr E => ?_
  refine sv (v := _) E rfl rfl rfl rfl rfl (run_sliceR (lo := 0) (hi := l.length) rfl M.fact.1 rfl T.slice42 T.size29 (rfl) (⟨_, _, rfl, rfl⟩) (Nat.zero_le _) (by simp)) fun fr E => ?_
  refine sv (v := _) E rfl rfl rfl rfl rfl (run_move rfl rfl) fun fr E => ?_
  refine sgive E M rfl rfl rfl rfl rfl (run_call rfl rfl T.fn60) (SameRecords_eq (l := l) (Recs.as (Recs.pre M.fact.1 (oks_lent ho) (k := l.length) (by simp)) (List.take_left' rfl)) M.fact.2 ho hz) fun fr w M E => ?_
  refine sv (v := .bool false) E rfl rfl rfl rfl rfl (tst rfl (rfl)) fun fr E => ?_
  refine sv (v := .bool _) E rfl rfl rfl rfl rfl (rfl) fun fr E => ?_
  refine seq_nil' ?_
  refine cond_false E rfl (rfl) ?_
  refine wp_skip ?_
  refine then_normal ?_
  refine wp_seq ?_
  refine code_region ?_
  refine sv (v := _) E rfl rfl rfl rfl rfl (run_move rfl rfl) fun fr E => ?_
  refine sv (v := .int .i64 _) E rfl rfl rfl rfl rfl (run_lenR rfl rfl rfl rfl T.slice42 M.fact.2) fun fr E => ?_
  refine sv (v := _) E rfl rfl rfl rfl rfl (run_assign rfl rfl) fun fr E => ?_
  refine seq_nil' ?_
  refine wp_block ?_
  refine loop_dec (fun d fr w => ∃ i : Nat, d = (l.length + 5) - i ∧ l.length ≤ i ∧ i ≤ (l.length + 5) ∧ Env [(5, .int .i64 i), (1, b), (0, a)] 35 fr ∧ Mem w0 (feet []) [] (fun w' => Recs w' a (l ++ List.replicate 5 Rec.lent) ∧ Recs w' b l) w) (5) ?_ ?_
  · refine ⟨l.length, by omega, by omega, by omega, (((Env.nil E).add E (t := 0) rfl).add E (t := 1) rfl).add E (t := 5) rfl, M⟩
  · clear E M
    rintro d fr w ⟨i, hd, h0, hle, E, M⟩
    have hF : (l ++ List.replicate 5 Rec.lent).length = (l.length + 5) := by simp
    by_cases hi : i < (l.length + 5)
    · have hg : (l ++ List.replicate 5 Rec.lent)[i]'(by omega) = Rec.lent := by rw [List.getElem_append_right (by omega), List.getElem_replicate]
      refine wp_seq ?_
      refine code_region ?_
      refine sv (v := _) E rfl rfl rfl rfl rfl (run_move rfl rfl) fun fr E => ?_
      refine sv (v := _) E rfl rfl rfl rfl rfl (run_move rfl rfl) fun fr E => ?_
      refine sv (v := .int .i64 _) E rfl rfl rfl rfl rfl (run_lenR rfl rfl rfl rfl T.slice42 M.fact.1) fun fr E => ?_
      refine sv (v := .bool true) E rfl rfl rfl rfl rfl (tst rfl (by rw [hF]; exact decide_eq_true (by omega))) fun fr E => ?_
      refine seq_nil' ?_
      refine cond_true E rfl (rfl) ?_
      refine wp_skip ?_
      refine then_normal ?_
      refine wp_seq ?_
      refine wp_block ?_
      refine code_region ?_
      refine sv (v := _) E rfl rfl rfl rfl rfl (run_move rfl rfl) fun fr E => ?_
      refine sv (v := _) E rfl rfl rfl rfl rfl (run_move rfl rfl) fun fr E => ?_
      refine sv (v := _) E rfl rfl rfl rfl rfl (run_indexR (i := i) rfl M.fact.1 rfl rfl (rfl) ((by omega)) T.slice42 T.size29) fun fr E => ?_
      refine sv (v := .agg Rec.lent.cells.toArray) E rfl rfl rfl rfl rfl (run_loadRN rfl M.fact.1 rfl T.agg29 (by omega) (by omega) ((rcs_get (oks_lent ho) (by omega)).trans (congrArg Rec.cells hg))) fun fr E => ?_
      refine sv (v := .agg (Rec.lent.cells).toArray) E rfl rfl rfl rfl rfl (run_buildP (vs := [iv (-77)]) (us := Rec.lent.cells) rfl rfl T.ts29 T.zeroL29 (rfl) rfl rfl (rfl)) fun fr E => ?_
      refine sv (v := .bool false) E rfl rfl rfl rfl rfl (run_neF (b := true) (xs := Rec.lent.cells) (ys := Rec.lent.cells) rfl rfl rfl T.flat29 (Rec.fit Rec.lent_ok) (Rec.fit Rec.lent_ok) (by simp)) fun fr E => ?_
      refine seq_nil' ?_
      refine cond_false E rfl (rfl) ?_
      refine wp_skip ?_
      refine block_normal ?_
      refine then_normal ?_
      refine code_last ?_
      refine sv (v := _) E rfl rfl rfl rfl rfl (run_move rfl rfl) fun fr E => ?_
      refine sv (v := .int _ (((i + 1 : Nat) : Int))) E rfl rfl rfl rfl rfl (num rfl ((i64_id (by omega) (by omega)).trans (by omega))) fun fr E => ?_
      refine sv (v := _) E rfl rfl rfl rfl rfl (run_assign rfl rfl) fun fr E => ?_
      refine seq_nil ?_
      refine then_any ?_
      refine ⟨(l.length + 5) - (i + 1), by omega, i + 1, rfl, by omega, by omega, (((Env.nil E).add E (t := 0) rfl).add E (t := 1) rfl).add E (t := 5) rfl, M⟩
    · refine wp_seq ?_
      refine code_region ?_
      refine sv (v := _) E rfl rfl rfl rfl rfl (run_move rfl rfl) fun fr E => ?_
      refine sv (v := _) E rfl rfl rfl rfl rfl (run_move rfl rfl) fun fr E => ?_
      refine sv (v := .int .i64 _) E rfl rfl rfl rfl rfl (run_lenR rfl rfl rfl rfl T.slice42 M.fact.1) fun fr E => ?_
      refine sv (v := .bool false) E rfl rfl rfl rfl rfl (tst rfl (by rw [hF]; exact decide_eq_false (by omega))) fun fr E => ?_
      refine seq_nil' ?_
      refine cond_false E rfl (rfl) ?_
      refine wp_exit ?_
      refine then_exit ?_
      refine then_exit ?_
      refine block_exit ?_
      refine then_normal ?_
      refine code_region ?_
      refine sv (v := _) E rfl rfl rfl rfl rfl (run_assignC rfl) fun fr E => ?_
      refine seq_nil' ?_
      refine wp_ret ?_
      refine ret1 E rfl rfl ?_
      exact given M
end Go.Proofs.Ytnojooafgehhaaa.K
end
section
namespace Go.Proofs.Ytnojooafgehhaaa.K
open Go.RowKit Go.Rill Go.Proofs
set_option linter.unusedVariables false
set_option linter.unusedSimpArgs false
/-- A record that is too late for a level. -/
def late (lv : Int) (r : Rec) : Bool := decide (lv + 1 < r.stamp)
def idxA (q : Rec → Bool) (l : List Rec) : Int := match l.findIdx? q with | some i => i | none => -1
theorem idxA_none {q : Rec → Bool} {l : List Rec} (h : ∀ j, ∀ hj : j < l.length, q l[j] = false) : idxA q l = -1 := by
  have : l.findIdx? q = none := by
    rw [List.findIdx?_eq_none_iff]
    intro x hx
    obtain ⟨j, hj, rfl⟩ := List.getElem_of_mem hx
    simp [h j hj]
  simp [idxA, this]
theorem idxA_some {q : Rec → Bool} {l : List Rec} {i : Nat} (hi : i < l.length) (h : q l[i] = true) (hno : ∀ j, j < i → ∀ hj : j < l.length, q l[j] = false) : idxA q l = (i : Int) := by
  have : l.findIdx? q = some i := by
    rw [List.findIdx?_eq_some_iff_getElem]
    exact ⟨hi, h, fun j hj => by simp [hno j hj (by omega)]⟩
  simp [idxA, this]
theorem first_late {lv : Int} {l : List Rec} (h : ¬ ∀ j, ∀ hj : j < l.length, late lv l[j] = false) : ∃ i, ∃ hi : i < l.length, late lv l[i] = true ∧ ∀ j, j < i → ∀ hj : j < l.length, late lv l[j] = false := by
  cases hf : l.findIdx? (late lv) with
  | none =>
    rw [List.findIdx?_eq_none_iff] at hf
    exact absurd (fun j hj => by simpa using hf _ (List.getElem_mem hj)) h
  | some i =>
    rw [List.findIdx?_eq_some_iff_getElem] at hf
    obtain ⟨hi, h1, h2⟩ := hf
    exact ⟨i, hi, h1, fun j hj hj2 => by simpa using h2 j hj⟩
theorem filter_all {lv : Int} {l : List Rec} (h : ∀ j, ∀ hj : j < l.length, late lv l[j] = false) : (l.filter fun r => !late lv r) = l := by
  rw [List.filter_eq_self]
  intro x hx
  obtain ⟨j, hj, rfl⟩ := List.getElem_of_mem hx
  simp [h j hj]
theorem filter_step {lv : Int} {l : List Rec} {j : Nat} (hj : j < l.length) : ((l.take (j + 1)).filter fun r => !late lv r) = ((l.take j).filter fun r => !late lv r) ++ (if late lv l[j] then [] else [l[j]]) := by
  rw [List.take_succ_eq_append_getElem hj, List.filter_append]
  cases h : late lv l[j] <;> simp [h]
theorem filter_late {lv : Int} {l : List Rec} {j : Nat} (hj : j < l.length) (h : late lv l[j] = true) : ((l.take (j + 1)).filter fun r => !late lv r) = ((l.take j).filter fun r => !late lv r) := by
  rw [filter_step hj, h]; simp
theorem first_step {lv : Int} {l : List Rec} {i : Nat} (hi : i < l.length) (h : late lv l[i] = true) (hno : ∀ j, j < i → ∀ hj : j < l.length, late lv l[j] = false) : l.take i = ((l.take (i + 1)).filter fun r => !late lv r) := by
  rw [filter_late hi h, filter_all]
  intro j hj
  rw [List.getElem_take]
  exact hno j (by simp at hj; omega) _
theorem drop_get {a b : List Rec} {j : Nat} (h : a.drop j = b.drop j) (ha : j < a.length) (hb : j < b.length) : a[j] = b[j] := by
  have := congrArg (fun l => l[0]?) h
  simpa [List.getElem?_drop, ha, hb] using this
theorem drop_step {a b : List Rec} {j : Nat} (h : a.drop j = b.drop j) : a.drop (j + 1) = b.drop (j + 1) := by
  have := congrArg (fun l => l.drop 1) h
  simpa [List.drop_drop] using this
theorem keep_drop {a b : List Rec} {j k : Nat} {r : Rec} (h : a.drop j = b.drop j) (hk : k < j) : (a.set k r).drop (j + 1) = b.drop (j + 1) := by
  rw [List.drop_set_of_lt (by omega)]
  exact drop_step h
theorem keep_step {lv : Int} {l cur : List Rec} {j k : Nat} (hk : k < cur.length) (h : cur.take k = ((l.take j).filter fun r => !late lv r)) (hj : j < l.length) (hq : late lv l[j] = false) : (cur.set k l[j]).take (k + 1) = ((l.take (j + 1)).filter fun r => !late lv r) := by
  rw [filter_step hj, hq, ← h, List.take_succ_eq_append_getElem (by simpa using hk), List.take_set_of_le (Nat.le_refl k), List.getElem_set_self]
  rfl
/-- The greatest stamp's, the first of these. -/
def pickR (b : Rec) (l : List Rec) : Rec := l.foldl (fun b r => if b.stamp < r.stamp then r else b) b
theorem pickR_ok {b : Rec} {l : List Rec} (hb : b.Ok) (hl : Oks l) : (pickR b l).Ok := by
  induction l generalizing b with
  | nil => exact hb
  | cons r l ih =>
    refine ih (b := if b.stamp < r.stamp then r else b) ?_ fun x hx => hl x (List.mem_cons_of_mem _ hx)
    split
    · exact hl r (List.mem_cons_self ..)
    · exact hb
theorem pickR_snoc (b : Rec) (l : List Rec) (r : Rec) : pickR b (l ++ [r]) = if (pickR b l).stamp < r.stamp then r else pickR b l := by
  unfold pickR
  rw [List.foldl_append]
  rfl
theorem pickR_step {b : Rec} {l : List Rec} {i : Nat} (hi : i < l.length) : pickR b (l.take (i + 1)) = if (pickR b (l.take i)).stamp < (l[i]).stamp then l[i] else pickR b (l.take i) := by
  rw [List.take_succ_eq_append_getElem hi, pickR_snoc]
def choice (lv : Int) (l : List Rec) : Option Rec := match l.filter fun r => !late lv r with | [] => none | r :: k => some (pickR r (r :: k))
theorem choice_none {lv : Int} {l : List Rec} (h : choice lv l = none) : (l.filter fun r => !late lv r) = [] := by
  unfold choice at h
  split at h
  · assumption
  · cases h
theorem choice_some {lv : Int} {l : List Rec} {r : Rec} (h : choice lv l = some r) : ∃ hF : 0 < (l.filter fun r => !late lv r).length, pickR ((l.filter fun r => !late lv r)[0]) (l.filter fun r => !late lv r) = r := by
  unfold choice at h
  split at h
  · cases h
  · rename_i x k hk
    injection h with h
    simp only [hk]
    exact ⟨by simp, h⟩
theorem choice_snoc (lv : Int) (l : List Rec) (r : Rec) : choice lv (l ++ [r]) = if late lv r then choice lv l else match choice lv l with | none => some r | some b => if b.stamp < r.stamp then some r else some b := by
  unfold choice
  rw [List.filter_append]
  cases h : late lv r with
  | true => simp [h]
  | false =>
    cases hf : l.filter fun r => !late lv r with
    | nil => simp [h, pickR]
    | cons x k =>
      simp only [List.filter_cons, List.filter_nil, h, Bool.not_false, if_true, List.cons_append]
      rw [← List.cons_append, pickR_snoc]
      split <;> simp
/-- What the document knows behind so many records. -/
def BestAt (lv : Int) (l : List Rec) (i : Nat) (b : Int) : Prop := (b = -1 ∧ choice lv (l.take i) = none) ∨ ∃ k, ∃ hk : k < l.length, b = (k : Int) ∧ choice lv (l.take i) = some l[k]
theorem BestAt.late {lv : Int} {l : List Rec} {i : Nat} {b : Int} (h : BestAt lv l i b) (hi : i < l.length) (hq : K.late lv l[i] = true) : BestAt lv l (i + 1) b := by
  unfold BestAt
  rw [List.take_succ_eq_append_getElem hi, choice_snoc, hq]
  exact h
theorem BestAt.first {lv : Int} {l : List Rec} {i : Nat} (hi : i < l.length) (h : choice lv (l.take i) = none) (hq : K.late lv l[i] = false) : BestAt lv l (i + 1) (i : Int) := by
  refine .inr ⟨i, hi, rfl, ?_⟩
  rw [List.take_succ_eq_append_getElem hi, choice_snoc, hq, h]
  rfl
theorem BestAt.more {lv : Int} {l : List Rec} {i k : Nat} (hi : i < l.length) (hk : k < l.length) (h : choice lv (l.take i) = some l[k]) (hq : K.late lv l[i] = false) (h3 : (l[k]).stamp < (l[i]).stamp) : BestAt lv l (i + 1) (i : Int) := by
  refine .inr ⟨i, hi, rfl, ?_⟩
  rw [List.take_succ_eq_append_getElem hi, choice_snoc, hq, h]
  simp [h3]
theorem BestAt.less {lv : Int} {l : List Rec} {i k : Nat} (hi : i < l.length) (hk : k < l.length) (h : choice lv (l.take i) = some l[k]) (hq : K.late lv l[i] = false) (h3 : ¬ (l[k]).stamp < (l[i]).stamp) : BestAt lv l (i + 1) (k : Int) := by
  refine .inr ⟨k, hk, rfl, ?_⟩
  rw [List.take_succ_eq_append_getElem hi, choice_snoc, hq, h]
  simp [h3]
def resC : Option Rec → Value
  | none => .tuple #[Rec.zero.val, .bool false]
  | some r => .tuple #[r.val, .bool true]
set_option maxRecDepth 100000 in
theorem late_A {r : Rec} {lv : Int} {g : Nat} {w0 : World} (hr : r.Ok) (hs1 : -9223372036854775808 ≤ r.stamp) (hs2 : r.stamp ≤ 9223372036854775807) (hlv : -9223372036854775808 ≤ lv) (hg : w0.heap[g]? = some (.cells #[.int .i64 lv] 3)) (h1 : lv < r.stamp) (h2 : ¬ r.stamp - 1 = lv) : Gives Try.prog 57 [r.val, .pointer (some ⟨g, 0, none⟩)] w0 (.bool true) := by
  refine enter (n := 15) Try.func57 rfl rfl rfl ?_
  intro fr E
  have M : Mem w0 (feet []) [] (fun w' => w'.heap[g]? = some (.cells #[.int .i64 lv] 3)) w0 := Mem.begin (Has.nil w0) (fun w' h => held_at hg h)
  refine code_region ?_
  refine snew (ob := .cells (r.cells.toArray) 29) (fun g => .pointer (some ⟨g, 0, none⟩)) E M rfl rfl rfl rfl rfl (run_boxN (cs := (r.cells.toArray)) rfl rfl) fun g0 fr w M E => ?_
  refine sv (v := _) E rfl rfl rfl rfl rfl (run_assignC rfl) fun fr E => ?_
  refine seq_nil' ?_
  refine code_region ?_
  refine sv (v := .pointer (some ⟨_, 1, none⟩)) E rfl rfl rfl rfl rfl (run_fieldAddr rfl rfl T.fld29_1) fun fr E => ?_
  refine sv (v := .int .i64 _) E rfl rfl rfl rfl rfl (run_loadB rfl rfl T.one3 (M.row (i := 0) rfl) Rec.c_stamp) fun fr E => ?_
  refine sv (v := .int .i64 lv) E rfl rfl rfl rfl rfl (run_loadB rfl rfl T.one3 (M.fact) rfl) fun fr E => ?_
  refine sv (v := .bool true) E rfl rfl rfl rfl rfl (tst rfl (decide_eq_true (by omega))) fun fr E => ?_
  refine sv (v := _) E rfl rfl rfl rfl rfl (run_move rfl rfl) fun fr E => ?_
  refine sv (v := .pointer (some ⟨_, 1, none⟩)) E rfl rfl rfl rfl rfl (run_fieldAddr rfl rfl T.fld29_1) fun fr E => ?_
  refine sv (v := .int .i64 _) E rfl rfl rfl rfl rfl (run_loadB rfl rfl T.one3 (M.row (i := 0) rfl) Rec.c_stamp) fun fr E => ?_
  refine sv (v := .int _ (r.stamp - 1)) E rfl rfl rfl rfl rfl (num rfl (i64_id (by omega) (by omega))) fun fr E => ?_
  refine sv (v := .int .i64 lv) E rfl rfl rfl rfl rfl (run_loadB rfl rfl T.one3 (M.fact) rfl) fun fr E => ?_
  refine sv (v := .bool true) E rfl rfl rfl rfl rfl (tst rfl (by simp; omega)) fun fr E => ?_
  refine sv (v := .bool _) E rfl rfl rfl rfl rfl (rfl) fun fr E => ?_
  refine sv (v := _) E rfl rfl rfl rfl rfl (run_assign rfl rfl) fun fr E => ?_
  refine seq_nil' ?_
  refine wp_ret ?_
  refine ret1 E rfl rfl ?_
  exact given M

set_option maxRecDepth 100000 in
theorem late_B {r : Rec} {lv : Int} {g : Nat} {w0 : World} (hr : r.Ok) (hs1 : -9223372036854775808 ≤ r.stamp) (hs2 : r.stamp ≤ 9223372036854775807) (hlv : -9223372036854775808 ≤ lv) (hg : w0.heap[g]? = some (.cells #[.int .i64 lv] 3)) (h1 : lv < r.stamp) (h2 : r.stamp - 1 = lv) : Gives Try.prog 57 [r.val, .pointer (some ⟨g, 0, none⟩)] w0 (.bool false) := by
  refine enter (n := 15) Try.func57 rfl rfl rfl ?_
  intro fr E
  have M : Mem w0 (feet []) [] (fun w' => w'.heap[g]? = some (.cells #[.int .i64 lv] 3)) w0 := Mem.begin (Has.nil w0) (fun w' h => held_at hg h)
  refine code_region ?_
  refine snew (ob := .cells (r.cells.toArray) 29) (fun g => .pointer (some ⟨g, 0, none⟩)) E M rfl rfl rfl rfl rfl (run_boxN (cs := (r.cells.toArray)) rfl rfl) fun g0 fr w M E => ?_
  refine sv (v := _) E rfl rfl rfl rfl rfl (run_assignC rfl) fun fr E => ?_
  refine seq_nil' ?_
  refine code_region ?_
  refine sv (v := .pointer (some ⟨_, 1, none⟩)) E rfl rfl rfl rfl rfl (run_fieldAddr rfl rfl T.fld29_1) fun fr E => ?_
  refine sv (v := .int .i64 _) E rfl rfl rfl rfl rfl (run_loadB rfl rfl T.one3 (M.row (i := 0) rfl) Rec.c_stamp) fun fr E => ?_
  refine sv (v := .int .i64 lv) E rfl rfl rfl rfl rfl (run_loadB rfl rfl T.one3 (M.fact) rfl) fun fr E => ?_
  refine sv (v := .bool true) E rfl rfl rfl rfl rfl (tst rfl (decide_eq_true (by omega))) fun fr E => ?_
  refine sv (v := _) E rfl rfl rfl rfl rfl (run_move rfl rfl) fun fr E => ?_
  refine sv (v := .pointer (some ⟨_, 1, none⟩)) E rfl rfl rfl rfl rfl (run_fieldAddr rfl rfl T.fld29_1) fun fr E => ?_
  refine sv (v := .int .i64 _) E rfl rfl rfl rfl rfl (run_loadB rfl rfl T.one3 (M.row (i := 0) rfl) Rec.c_stamp) fun fr E => ?_
  refine sv (v := .int _ (r.stamp - 1)) E rfl rfl rfl rfl rfl (num rfl (i64_id (by omega) (by omega))) fun fr E => ?_
  refine sv (v := .int .i64 lv) E rfl rfl rfl rfl rfl (run_loadB rfl rfl T.one3 (M.fact) rfl) fun fr E => ?_
  refine sv (v := .bool false) E rfl rfl rfl rfl rfl (tst rfl (by simp; omega)) fun fr E => ?_
  refine sv (v := .bool _) E rfl rfl rfl rfl rfl (rfl) fun fr E => ?_
  refine sv (v := _) E rfl rfl rfl rfl rfl (run_assign rfl rfl) fun fr E => ?_
  refine seq_nil' ?_
  refine wp_ret ?_
  refine ret1 E rfl rfl ?_
  exact given M

set_option maxRecDepth 100000 in
theorem late_C {r : Rec} {lv : Int} {g : Nat} {w0 : World} (hr : r.Ok) (hs1 : -9223372036854775808 ≤ r.stamp) (hs2 : r.stamp ≤ 9223372036854775807) (hlv : -9223372036854775808 ≤ lv) (hg : w0.heap[g]? = some (.cells #[.int .i64 lv] 3)) (h1 : ¬ lv < r.stamp) : Gives Try.prog 57 [r.val, .pointer (some ⟨g, 0, none⟩)] w0 (.bool false) := by
  refine enter (n := 15) Try.func57 rfl rfl rfl ?_
  intro fr E
  have M : Mem w0 (feet []) [] (fun w' => w'.heap[g]? = some (.cells #[.int .i64 lv] 3)) w0 := Mem.begin (Has.nil w0) (fun w' h => held_at hg h)
  refine code_region ?_
  refine snew (ob := .cells (r.cells.toArray) 29) (fun g => .pointer (some ⟨g, 0, none⟩)) E M rfl rfl rfl rfl rfl (run_boxN (cs := (r.cells.toArray)) rfl rfl) fun g0 fr w M E => ?_
  refine sv (v := _) E rfl rfl rfl rfl rfl (run_assignC rfl) fun fr E => ?_
  refine seq_nil' ?_
  refine code_region ?_
  refine sv (v := .pointer (some ⟨_, 1, none⟩)) E rfl rfl rfl rfl rfl (run_fieldAddr rfl rfl T.fld29_1) fun fr E => ?_
  refine sv (v := .int .i64 _) E rfl rfl rfl rfl rfl (run_loadB rfl rfl T.one3 (M.row (i := 0) rfl) Rec.c_stamp) fun fr E => ?_
  refine sv (v := .int .i64 lv) E rfl rfl rfl rfl rfl (run_loadB rfl rfl T.one3 (M.fact) rfl) fun fr E => ?_
  refine sv (v := .bool false) E rfl rfl rfl rfl rfl (tst rfl (decide_eq_false (by omega))) fun fr E => ?_
  refine sv (v := _) E rfl rfl rfl rfl rfl (run_move rfl rfl) fun fr E => ?_
  refine sno E rfl rfl rfl rfl fun fr E => ?_
  refine sno E rfl rfl rfl rfl fun fr E => ?_
  refine sno E rfl rfl rfl rfl fun fr E => ?_
  refine sno E rfl rfl rfl rfl fun fr E => ?_
  refine sno E rfl rfl rfl rfl fun fr E => ?_
  refine sv (v := .bool _) E rfl rfl rfl rfl rfl (rfl) fun fr E => ?_
  refine sv (v := _) E rfl rfl rfl rfl rfl (run_assign rfl rfl) fun fr E => ?_
  refine seq_nil' ?_
  refine wp_ret ?_
  refine ret1 E rfl rfl ?_
  exact given M

theorem late_x {r : Rec} {lv : Int} {g : Nat} {w0 : World} (hr : r.Ok) (hs : StampIn r) (hlv : -9223372036854775808 ≤ lv) (hg : w0.heap[g]? = some (.cells #[.int .i64 lv] 3)) : Gives Try.prog 57 [r.val, .pointer (some ⟨g, 0, none⟩)] w0 (.bool (late lv r)) := by
  by_cases h1 : lv < r.stamp
  · by_cases h2 : r.stamp - 1 = lv
    · rw [show late lv r = false from decide_eq_false (by omega)]; exact late_B hr hs.1 hs.2 hlv hg h1 h2
    · rw [show late lv r = true from decide_eq_true (by omega)]; exact late_A hr hs.1 hs.2 hlv hg h1 h2
  · rw [show late lv r = false from decide_eq_false (by omega)]; exact late_C hr hs.1 hs.2 hlv hg h1

set_option maxRecDepth 100000 in
theorem IndexFunc_rec {b : Value} {l : List Rec} {lv : Int} {g : Nat} {w0 : World} (hb : Recs w0 b l) (hg : w0.heap[g]? = some (.cells #[.int .i64 lv] 3)) (ho : Oks l) (hs : ∀ r ∈ l, StampIn r) (hlv : -9223372036854775808 ≤ lv) (hz : l.length ≤ 300)  : Gives Try.prog 87 [b, (.func (.func 57) #[] #[.pointer (some ⟨g, 0, none⟩)])] w0 (.int .i64 (idxA (late lv) l)) := by
  refine enter (n := 19) Try.func87 rfl rfl rfl ?_
  intro fr E
  have M : Mem w0 (feet []) [] (fun w' => Recs w' b l ∧ w'.heap[g]? = some (.cells #[.int .i64 lv] 3)) w0 := Mem.begin (Has.nil w0) (fun w' h => ⟨hb.held0 h, held_at hg h⟩)
  refine code_region ?_
  refine sv (v := _) E rfl rfl rfl rfl rfl (run_assignC rfl) fun fr E => ?_
  refine seq_nil' ?_
  refine wp_seq ?_
  refine code_region ?_
  refine sv (v := _) E rfl rfl rfl rfl rfl (run_move rfl rfl) fun fr E => ?_
  refine sv (v := .int .i64 _) E rfl rfl rfl rfl rfl (run_lenR rfl rfl rfl rfl T.slice42 M.fact.1) fun fr E => ?_
  refine sv (v := _) E rfl rfl rfl rfl rfl (run_moveC rfl) fun fr E => ?_
  refine seq_nil' ?_
  refine wp_block ?_
  refine loop_dec (fun d fr w => ∃ i : Nat, d = l.length - i ∧ i ≤ l.length ∧ (∀ j, j < i → ∀ hj : j < l.length, late lv l[j] = false) ∧ Env [(8, .int .i64 i), (7, .int .i64 l.length), (6, b), (1, (.func (.func 57) #[] #[.pointer (some ⟨g, 0, none⟩)])), (0, b)] 19 fr ∧ Mem w0 (feet []) [] (fun w' => Recs w' b l ∧ w'.heap[g]? = some (.cells #[.int .i64 lv] 3)) w) (l.length) ?_ ?_
  · refine ⟨0, rfl, Nat.zero_le _, fun j hj => absurd hj (by omega), (((((Env.nil E).add E (t := 0) rfl).add E (t := 1) rfl).add E (t := 6) rfl).add E (t := 7) rfl).add E (t := 8) rfl, M⟩
  · clear E M
    rintro d fr w ⟨i, rfl, hle, hno, E, M⟩
    by_cases hi : i < l.length
    · cases hq' : late lv l[i] with
      | false =>
        refine code_region ?_
        refine sv (v := .bool true) E rfl rfl rfl rfl rfl (tst rfl (decide_eq_true (by omega))) fun fr E => ?_
        refine seq_nil' ?_
        refine wp_seq ?_
        refine cond_true E rfl (rfl) ?_
        refine wp_skip ?_
        refine then_normal ?_
        refine wp_seq ?_
        refine wp_block ?_
        refine code_region ?_
        refine sv (v := _) E rfl rfl rfl rfl rfl (run_move rfl rfl) fun fr E => ?_
        refine sv (v := _) E rfl rfl rfl rfl rfl (run_assign rfl rfl) fun fr E => ?_
        refine seq_nil' ?_
        refine code_region ?_
        refine sv (v := _) E rfl rfl rfl rfl rfl (run_move rfl rfl) fun fr E => ?_
        refine sv (v := _) E rfl rfl rfl rfl rfl (run_move rfl rfl) fun fr E => ?_
        refine sv (v := _) E rfl rfl rfl rfl rfl (run_move rfl rfl) fun fr E => ?_
        refine sv (v := _) E rfl rfl rfl rfl rfl (run_indexR (i := i) rfl M.fact.1 rfl rfl (rfl) (hi) T.slice42 T.size29) fun fr E => ?_
        refine sv (v := .agg (l[i]).cells.toArray) E rfl rfl rfl rfl rfl (run_loadRN rfl M.fact.1 rfl T.agg29 (by omega) (by omega) (rcs_get ho hi)) fun fr E => ?_
        refine sgive E M rfl rfl rfl rfl rfl (run_callC (cs := [.pointer (some ⟨g, 0, none⟩)]) rfl rfl T.fn57) (late_x (ho.get hi) (hs _ (List.getElem_mem hi)) hlv M.fact.2) fun fr w M E => ?_
        rw [hq'] at E
        refine seq_nil' ?_
        refine cond_false E rfl (rfl) ?_
        refine wp_skip ?_
        refine block_normal ?_
        refine then_normal ?_
        refine code_last ?_
        refine sv (v := .int _ (((i + 1 : Nat) : Int))) E rfl rfl rfl rfl rfl (num rfl ((i64_id (by omega) (by omega)).trans (by omega))) fun fr E => ?_
        refine sv (v := _) E rfl rfl rfl rfl rfl (run_move rfl rfl) fun fr E => ?_
        refine seq_nil ?_
        refine then_any ?_
        refine ⟨l.length - (i + 1), by omega, i + 1, rfl, by omega, fun j hj hj2 => ?_, (((((Env.nil E).add E (t := 0) rfl).add E (t := 1) rfl).add E (t := 6) rfl).add E (t := 7) rfl).add E (t := 8) rfl, M⟩
        rcases Nat.lt_or_eq_of_le (Nat.le_of_lt_succ hj) with h | rfl
        · exact hno j h hj2
        · exact hq'
      | true =>
        refine code_region ?_
        refine sv (v := .bool true) E rfl rfl rfl rfl rfl (tst rfl (decide_eq_true (by omega))) fun fr E => ?_
        refine seq_nil' ?_
        refine wp_seq ?_
        refine cond_true E rfl (rfl) ?_
        refine wp_skip ?_
        refine then_normal ?_
        refine wp_seq ?_
        refine wp_block ?_
        refine code_region ?_
        refine sv (v := _) E rfl rfl rfl rfl rfl (run_move rfl rfl) fun fr E => ?_
        refine sv (v := _) E rfl rfl rfl rfl rfl (run_assign rfl rfl) fun fr E => ?_
        refine seq_nil' ?_
        refine code_region ?_
        refine sv (v := _) E rfl rfl rfl rfl rfl (run_move rfl rfl) fun fr E => ?_
        refine sv (v := _) E rfl rfl rfl rfl rfl (run_move rfl rfl) fun fr E => ?_
        refine sv (v := _) E rfl rfl rfl rfl rfl (run_move rfl rfl) fun fr E => ?_
        refine sv (v := _) E rfl rfl rfl rfl rfl (run_indexR (i := i) rfl M.fact.1 rfl rfl (rfl) (hi) T.slice42 T.size29) fun fr E => ?_
        refine sv (v := .agg (l[i]).cells.toArray) E rfl rfl rfl rfl rfl (run_loadRN rfl M.fact.1 rfl T.agg29 (by omega) (by omega) (rcs_get ho hi)) fun fr E => ?_
        refine sgive E M rfl rfl rfl rfl rfl (run_callC (cs := [.pointer (some ⟨g, 0, none⟩)]) rfl rfl T.fn57) (late_x (ho.get hi) (hs _ (List.getElem_mem hi)) hlv M.fact.2) fun fr w M E => ?_
        rw [hq'] at E
        refine seq_nil' ?_
        refine cond_true E rfl (rfl) ?_
        refine code_region ?_
        refine sv (v := _) E rfl rfl rfl rfl rfl (run_move rfl rfl) fun fr E => ?_
        refine sv (v := _) E rfl rfl rfl rfl rfl (run_assign rfl rfl) fun fr E => ?_
        refine seq_nil' ?_
        refine wp_ret ?_
        refine block_ret ?_
        refine then_ret ?_
        refine then_ret ?_
        refine block_ret ?_
        refine then_ret ?_
        refine ret1 E rfl rfl ?_
        have e : idxA (late lv) l = (i : Int) := idxA_some hi hq' hno
        rw [e]
        exact given M
    · refine code_region ?_
      refine sv (v := .bool false) E rfl rfl rfl rfl rfl (tst rfl (decide_eq_false (by omega))) fun fr E => ?_
      refine seq_nil' ?_
      refine wp_seq ?_
      refine cond_false E rfl (rfl) ?_
      refine wp_exit ?_
      refine then_exit ?_
      refine then_exit ?_
      refine block_exit ?_
      refine then_normal ?_
      refine code_region ?_
      refine sv (v := _) E rfl rfl rfl rfl rfl (run_assignC rfl) fun fr E => ?_
      refine seq_nil' ?_
      refine wp_ret ?_
      refine ret1 E rfl rfl ?_
      have e : idxA (late lv) l = -1 := idxA_none fun j hj => hno j (by omega) hj
      rw [e]
      exact given M

set_option maxRecDepth 100000 in
theorem DeleteFunc_none {v : Value} {l : List Rec} {lv : Int} {g : Nat} {w0 : World} (H : Has w0 [.recs 29 v l, .blk g (.cells #[.int .i64 lv] 3)]) (ho : Oks l) (hs : ∀ r ∈ l, StampIn r) (hlv : -9223372036854775808 ≤ lv) (hz : l.length ≤ 300) (hn : ∀ j, ∀ hj : j < l.length, late lv l[j] = false) : Does Try.prog 58 [v, (.func (.func 57) #[] #[.pointer (some ⟨g, 0, none⟩)])] w0 [.recs 29 v l, .blk g (.cells #[.int .i64 lv] 3)] (fun x : Value => x) (fun x => [.subr x (l.filter fun r => !late lv r), .blk g (.cells #[.int .i64 lv] 3)]) (fun _ => True) := by
  refine enter (n := 42) Try.func58 rfl rfl rfl ?_
  intro fr E
  have M : Mem w0 (feet [.recs 29 v l, .blk g (.cells #[.int .i64 lv] 3)]) [.recs 29 v l, .blk g (.cells #[.int .i64 lv] 3)] (fun _ => True) w0 := Mem.begin H (fun _ _ => trivial)
  refine code_region ?_
  refine sv (v := _) E rfl rfl rfl rfl rfl (run_assignC rfl) fun fr E => ?_
  refine seq_nil' ?_
  refine code_region ?_
  refine sv (v := _) E rfl rfl rfl rfl rfl (run_move rfl rfl) fun fr E => ?_
  refine sv (v := _) E rfl rfl rfl rfl rfl (run_move rfl rfl) fun fr E => ?_
  refine sgive E M rfl rfl rfl rfl rfl (run_call rfl rfl T.fn87) (IndexFunc_rec (M.reads 0 rfl) (M.row (i := 1) rfl) ho hs hlv hz) fun fr w M E => ?_
  rw [idxA_none hn] at E
  refine sv (v := _) E rfl rfl rfl rfl rfl (run_assign rfl rfl) fun fr E => ?_
  refine seq_nil' ?_
  refine wp_seq ?_
  refine code_region ?_
  refine sv (v := _) E rfl rfl rfl rfl rfl (run_move rfl rfl) fun fr E => ?_
  refine sv (v := .bool true) E rfl rfl rfl rfl rfl (tst rfl (rfl)) fun fr E => ?_
  refine seq_nil' ?_
  refine cond_true E rfl (rfl) ?_
  refine code_region ?_
  refine sv (v := _) E rfl rfl rfl rfl rfl (run_move rfl rfl) fun fr E => ?_
  refine sv (v := _) E rfl rfl rfl rfl rfl (run_assign rfl rfl) fun fr E => ?_
  refine seq_nil' ?_
  refine wp_ret ?_
  refine then_ret ?_
  refine ret1 E rfl rfl ?_
  have M := (M.asWhole 0 rfl).as (L' := [.subr v (l.filter fun r => !late lv r), .blk g (.cells #[.int .i64 lv] 3)]) (by rw [filter_all hn]; rfl)
  exact ⟨_, rfl, M.fin (.refl _) trivial⟩

set_option maxRecDepth 100000 in
theorem DeleteFunc_some {v : Value} {l : List Rec} {lv : Int} {g : Nat} {w0 : World} (H : Has w0 [.recs 29 v l, .blk g (.cells #[.int .i64 lv] 3)]) (ho : Oks l) (hs : ∀ r ∈ l, StampIn r) (hlv : -9223372036854775808 ≤ lv) (hz : l.length ≤ 300) {i : Nat} (hi : i < l.length) (hl : late lv l[i] = true) (hno : ∀ j, j < i → ∀ hj : j < l.length, late lv l[j] = false) : Does Try.prog 58 [v, (.func (.func 57) #[] #[.pointer (some ⟨g, 0, none⟩)])] w0 [.recs 29 v l, .blk g (.cells #[.int .i64 lv] 3)] (fun x : Value => x) (fun x => [.subr x (l.filter fun r => !late lv r), .blk g (.cells #[.int .i64 lv] 3)]) (fun _ => True) := by
  refine enter (n := 42) Try.func58 rfl rfl rfl ?_
  intro fr E
  have M : Mem w0 (feet [.recs 29 v l, .blk g (.cells #[.int .i64 lv] 3)]) [.recs 29 v l, .blk g (.cells #[.int .i64 lv] 3)] (fun _ => True) w0 := Mem.begin H (fun _ _ => trivial)
  refine code_region ?_
  refine sv (v := _) E rfl rfl rfl rfl rfl (run_assignC rfl) fun fr E => ?_
  refine seq_nil' ?_
  refine code_region ?_
  refine sv (v := _) E rfl rfl rfl rfl rfl (run_move rfl rfl) fun fr E => ?_
  refine sv (v := _) E rfl rfl rfl rfl rfl (run_move rfl rfl) fun fr E => ?_
  refine sgive E M rfl rfl rfl rfl rfl (run_call rfl rfl T.fn87) (IndexFunc_rec (M.reads 0 rfl) (M.row (i := 1) rfl) ho hs hlv hz) fun fr w M E => ?_
  rw [idxA_some hi hl hno] at E
  refine sv (v := _) E rfl rfl rfl rfl rfl (run_assign rfl rfl) fun fr E => ?_
  refine seq_nil' ?_
  refine wp_seq ?_
  refine code_region ?_
  refine sv (v := _) E rfl rfl rfl rfl rfl (run_move rfl rfl) fun fr E => ?_
  refine sv (v := .bool false) E rfl rfl rfl rfl rfl (tst rfl (decide_eq_false (by omega))) fun fr E => ?_
  refine seq_nil' ?_
  refine cond_false E rfl (rfl) ?_
  refine wp_skip ?_
  refine then_normal ?_
  refine wp_seq ?_
  refine code_region ?_
  refine sv (v := _) E rfl rfl rfl rfl rfl (run_move rfl rfl) fun fr E => ?_
  refine sv (v := .int _ (((i + 1 : Nat) : Int))) E rfl rfl rfl rfl rfl (num rfl ((i64_id (by omega) (by omega)).trans (by omega))) fun fr E => ?_
  refine sv (v := _) E rfl rfl rfl rfl rfl (run_assign rfl rfl) fun fr E => ?_
  refine seq_nil' ?_
  refine wp_block ?_
  refine loop_dec (fun d fr w => ∃ (j k : Nat) (cur : List Rec), d = l.length - j ∧ j ≤ l.length ∧ k < j ∧ Oks cur ∧ cur.length = l.length ∧ cur.take k = ((l.take j).filter fun r => !late lv r) ∧ cur.drop j = l.drop j ∧ Env [(6, .int .i64 j), (5, .int .i64 k), (1, (.func (.func 57) #[] #[.pointer (some ⟨g, 0, none⟩)])), (0, v)] 42 fr ∧ Mem w0 (feet [.recs 29 v l, .blk g (.cells #[.int .i64 lv] 3)]) [.recs 29 v cur, .blk g (.cells #[.int .i64 lv] 3)] (fun _ => True) w) (l.length - (i + 1)) ?_ ?_
  · refine ⟨i + 1, i, l, rfl, by omega, by omega, ho, rfl, first_step hi hl hno, rfl, ((((Env.nil E).add E (t := 0) rfl).add E (t := 1) rfl).add E (t := 5) rfl).add E (t := 6) rfl, M⟩
  · clear E M
    rintro d fr w ⟨j, k, cur, rfl, hle, hkj, hco, hcl, htk, hdr, E, M⟩
    by_cases hj : j < l.length
    · have hcj : cur[j]'(by omega) = l[j] := drop_get hdr (by omega) hj
      cases hq' : late lv l[j] with
      | false =>
        refine wp_seq ?_
        refine code_region ?_
        refine sv (v := _) E rfl rfl rfl rfl rfl (run_move rfl rfl) fun fr E => ?_
        refine sv (v := _) E rfl rfl rfl rfl rfl (run_move rfl rfl) fun fr E => ?_
        refine sv (v := .int .i64 _) E rfl rfl rfl rfl rfl (run_lenR rfl rfl rfl rfl T.slice42 (M.reads 0 rfl)) fun fr E => ?_
        refine sv (v := .bool true) E rfl rfl rfl rfl rfl (tst rfl (decide_eq_true (by omega))) fun fr E => ?_
        refine seq_nil' ?_
        refine cond_true E rfl (rfl) ?_
        refine wp_skip ?_
        refine then_normal ?_
        refine wp_seq ?_
        refine wp_block ?_
        refine code_region ?_
        refine sv (v := _) E rfl rfl rfl rfl rfl (run_move rfl rfl) fun fr E => ?_
        refine sv (v := _) E rfl rfl rfl rfl rfl (run_move rfl rfl) fun fr E => ?_
        refine sv (v := _) E rfl rfl rfl rfl rfl (run_indexR (i := j) rfl (M.reads 0 rfl) rfl rfl (rfl) ((by omega)) T.slice42 T.size29) fun fr E => ?_
        refine sv (v := .agg (l[j]).cells.toArray) E rfl rfl rfl rfl rfl (run_loadRN rfl (M.reads 0 rfl) rfl T.agg29 (by omega) (by omega) ((rcs_get hco (by omega)).trans (congrArg Rec.cells hcj))) fun fr E => ?_
        refine snew (ob := .cells _ 29) (fun g => .pointer (some ⟨g, 0, none⟩)) E M rfl rfl rfl rfl rfl (run_allocN rfl T.zero29) fun g0 fr w M E => ?_
        refine sset (i := 0) (cs' := (l[j]).cells.toArray) E M rfl rfl rfl rfl rfl (run_storeAll (vs := (l[j]).cells.toArray) rfl rfl rfl T.size29 (Rec.size (ho.get hj)) (M.row (i := 0) rfl) rfl (fun v hv => Rec.ones _ v hv)) rfl fun fr w M E => ?_
        refine seq_nil' ?_
        refine code_region ?_
        refine sv (v := _) E rfl rfl rfl rfl rfl (run_move rfl rfl) fun fr E => ?_
        refine sv (v := .agg (l[j]).cells.toArray) E rfl rfl rfl rfl rfl (run_loadAll rfl rfl T.agg29 (M.row (i := 0) rfl) (Rec.size (ho.get hj))) fun fr E => ?_
        refine sgive E M rfl rfl rfl rfl rfl (run_callC (cs := [.pointer (some ⟨g, 0, none⟩)]) rfl rfl T.fn57) (late_x (ho.get hj) (hs _ (List.getElem_mem hj)) hlv (M.row (i := 2) rfl)) fun fr w M E => ?_
        rw [hq'] at E
        refine sv (v := .bool true) E rfl rfl rfl rfl rfl (tst rfl (rfl)) fun fr E => ?_
        refine seq_nil' ?_
        refine cond_true E rfl (rfl) ?_
        refine code_region ?_
        refine sv (v := _) E rfl rfl rfl rfl rfl (run_move rfl rfl) fun fr E => ?_
        refine sv (v := _) E rfl rfl rfl rfl rfl (run_move rfl rfl) fun fr E => ?_
        refine sv (v := .agg (l[j]).cells.toArray) E rfl rfl rfl rfl rfl (run_loadAll rfl rfl T.agg29 (M.row (i := 0) rfl) (Rec.size (ho.get hj))) fun fr E => ?_
        refine sv (v := _) E rfl rfl rfl rfl rfl (run_indexR (i := k) rfl (M.reads 1 rfl) rfl rfl (rfl) ((by omega)) T.slice42 T.size29) fun fr E => ?_
        refine ssetRec (i := 1) (k := k) (r := l[j]) E M rfl rfl rfl rfl rfl rfl rfl rfl T.size29 (by omega) (ho.get hj) (hco) fun fr w M E => ?_
        refine seq_nil' ?_
        refine code_last ?_
        refine sv (v := _) E rfl rfl rfl rfl rfl (run_move rfl rfl) fun fr E => ?_
        refine sv (v := .int _ (((k + 1 : Nat) : Int))) E rfl rfl rfl rfl rfl (num rfl ((i64_id (by omega) (by omega)).trans (by omega))) fun fr E => ?_
        refine sv (v := _) E rfl rfl rfl rfl rfl (run_assign rfl rfl) fun fr E => ?_
        refine seq_nil ?_
        refine block_normal ?_
        refine then_normal ?_
        refine code_last ?_
        refine sv (v := _) E rfl rfl rfl rfl rfl (run_move rfl rfl) fun fr E => ?_
        refine sv (v := .int _ (((j + 1 : Nat) : Int))) E rfl rfl rfl rfl rfl (num rfl ((i64_id (by omega) (by omega)).trans (by omega))) fun fr E => ?_
        refine sv (v := _) E rfl rfl rfl rfl rfl (run_assign rfl rfl) fun fr E => ?_
        refine seq_nil ?_
        refine then_any ?_
        refine ⟨l.length - (j + 1), by omega, j + 1, k + 1, cur.set k l[j], rfl, by omega, by omega, hco.set (ho.get hj), (List.length_set ..).trans hcl, keep_step (by omega) htk hj hq', keep_drop hdr hkj, ((((Env.nil E).add E (t := 0) rfl).add E (t := 1) rfl).add E (t := 5) rfl).add E (t := 6) rfl, M.sub (.cons _ (.refl _))⟩
      | true =>
        refine wp_seq ?_
        refine code_region ?_
        refine sv (v := _) E rfl rfl rfl rfl rfl (run_move rfl rfl) fun fr E => ?_
        refine sv (v := _) E rfl rfl rfl rfl rfl (run_move rfl rfl) fun fr E => ?_
        refine sv (v := .int .i64 _) E rfl rfl rfl rfl rfl (run_lenR rfl rfl rfl rfl T.slice42 (M.reads 0 rfl)) fun fr E => ?_
        refine sv (v := .bool true) E rfl rfl rfl rfl rfl (tst rfl (decide_eq_true (by omega))) fun fr E => ?_
        refine seq_nil' ?_
        refine cond_true E rfl (rfl) ?_
        refine wp_skip ?_
        refine then_normal ?_
        refine wp_seq ?_
        refine wp_block ?_
        refine code_region ?_
        refine sv (v := _) E rfl rfl rfl rfl rfl (run_move rfl rfl) fun fr E => ?_
        refine sv (v := _) E rfl rfl rfl rfl rfl (run_move rfl rfl) fun fr E => ?_
        refine sv (v := _) E rfl rfl rfl rfl rfl (run_indexR (i := j) rfl (M.reads 0 rfl) rfl rfl (rfl) ((by omega)) T.slice42 T.size29) fun fr E => ?_
        refine sv (v := .agg (l[j]).cells.toArray) E rfl rfl rfl rfl rfl (run_loadRN rfl (M.reads 0 rfl) rfl T.agg29 (by omega) (by omega) ((rcs_get hco (by omega)).trans (congrArg Rec.cells hcj))) fun fr E => ?_
        refine snew (ob := .cells _ 29) (fun g => .pointer (some ⟨g, 0, none⟩)) E M rfl rfl rfl rfl rfl (run_allocN rfl T.zero29) fun g1 fr w M E => ?_
        refine sset (i := 0) (cs' := (l[j]).cells.toArray) E M rfl rfl rfl rfl rfl (run_storeAll (vs := (l[j]).cells.toArray) rfl rfl rfl T.size29 (Rec.size (ho.get hj)) (M.row (i := 0) rfl) rfl (fun v hv => Rec.ones _ v hv)) rfl fun fr w M E => ?_
        refine seq_nil' ?_
        refine code_region ?_
        refine sv (v := _) E rfl rfl rfl rfl rfl (run_move rfl rfl) fun fr E => ?_
        refine sv (v := .agg (l[j]).cells.toArray) E rfl rfl rfl rfl rfl (run_loadAll rfl rfl T.agg29 (M.row (i := 0) rfl) (Rec.size (ho.get hj))) fun fr E => ?_
        refine sgive E M rfl rfl rfl rfl rfl (run_callC (cs := [.pointer (some ⟨g, 0, none⟩)]) rfl rfl T.fn57) (late_x (ho.get hj) (hs _ (List.getElem_mem hj)) hlv (M.row (i := 2) rfl)) fun fr w M E => ?_
        rw [hq'] at E
        refine sv (v := .bool false) E rfl rfl rfl rfl rfl (tst rfl (rfl)) fun fr E => ?_
        refine seq_nil' ?_
        refine cond_false E rfl (rfl) ?_
        refine wp_skip ?_
        refine block_normal ?_
        refine then_normal ?_
        refine code_last ?_
        refine sv (v := _) E rfl rfl rfl rfl rfl (run_move rfl rfl) fun fr E => ?_
        refine sv (v := .int _ (((j + 1 : Nat) : Int))) E rfl rfl rfl rfl rfl (num rfl ((i64_id (by omega) (by omega)).trans (by omega))) fun fr E => ?_
        refine sv (v := _) E rfl rfl rfl rfl rfl (run_assign rfl rfl) fun fr E => ?_
        refine seq_nil ?_
        refine then_any ?_
        refine ⟨l.length - (j + 1), by omega, j + 1, k, cur, rfl, by omega, by omega, hco, hcl, htk.trans (filter_late hj hq').symm, drop_step hdr, ((((Env.nil E).add E (t := 0) rfl).add E (t := 1) rfl).add E (t := 5) rfl).add E (t := 6) rfl, M.sub (.cons _ (.refl _))⟩
    · obtain rfl : j = l.length := by omega
      refine wp_seq ?_
      refine code_region ?_
      refine sv (v := _) E rfl rfl rfl rfl rfl (run_move rfl rfl) fun fr E => ?_
      refine sv (v := _) E rfl rfl rfl rfl rfl (run_move rfl rfl) fun fr E => ?_
      refine sv (v := .int .i64 _) E rfl rfl rfl rfl rfl (run_lenR rfl rfl rfl rfl T.slice42 (M.reads 0 rfl)) fun fr E => ?_
      refine sv (v := .bool false) E rfl rfl rfl rfl rfl (tst rfl (decide_eq_false (by omega))) fun fr E => ?_
      refine seq_nil' ?_
      refine cond_false E rfl (rfl) ?_
      refine wp_exit ?_
      refine then_exit ?_
      refine then_exit ?_
      refine block_exit ?_
      refine then_normal ?_
      refine code_region ?_
      refine sv (v := _) E rfl rfl rfl rfl rfl (run_move rfl rfl) fun fr E => ?_
      refine sv (v := _) E rfl rfl rfl rfl rfl (run_move rfl rfl) fun fr E => ?_
      refine sv (v := _) E rfl rfl rfl rfl rfl (run_sliceR (lo := k) (hi := cur.length) rfl (M.reads 0 rfl) rfl T.slice42 T.size29 (⟨_, _, rfl, rfl⟩) (rfl) (by omega) (Nat.le_refl _)) fun fr E => ?_
      refine sclear (i := 0) (k := k) (m := cur.length) E M rfl rfl rfl rfl rfl rfl rfl rfl rfl (by omega) T.slice42 T.zvrec (Rec.size Rec.zero_ok) (by decide) (Rec.ones _) fun cur2 fr w hc2 hp2 M E => ?_
      refine seq_nil' ?_
      refine code_region ?_
      refine sv (v := _) E rfl rfl rfl rfl rfl (run_move rfl rfl) fun fr E => ?_
      refine sv (v := _) E rfl rfl rfl rfl rfl (run_move rfl rfl) fun fr E => ?_
      refine sv (v := _) E rfl rfl rfl rfl rfl (run_sliceR (lo := 0) (hi := k) rfl (M.reads 0 rfl) rfl T.slice42 T.size29 (rfl) (⟨_, _, rfl, rfl⟩) (Nat.zero_le _) (by omega)) fun fr E => ?_
      refine sv (v := _) E rfl rfl rfl rfl rfl (run_assign rfl rfl) fun fr E => ?_
      refine seq_nil' ?_
      refine wp_ret ?_
      refine ret1 E rfl rfl ?_
      have hk2 : k = ((l.filter fun r => !late lv r)).length := by rw [List.take_length] at htk; rw [← htk, List.length_take]; omega
      have M := (M.asPart 0 k rfl (by omega)).as (L' := [.subr (cutV 136 v 0 k) (l.filter fun r => !late lv r), .blk g (.cells #[.int .i64 lv] 3)]) (by rw [hp2, rcs_take hco (by omega), htk, List.take_length]; unfold Ent.subr; rw [← hk2]; rfl)
      exact ⟨_, rfl, M.fin (.refl _) trivial⟩

theorem DeleteFunc_x {v : Value} {l : List Rec} {lv : Int} {g : Nat} {w0 : World} (H : Has w0 [.recs 29 v l, .blk g (.cells #[.int .i64 lv] 3)]) (ho : Oks l) (hs : ∀ r ∈ l, StampIn r) (hlv : -9223372036854775808 ≤ lv) (hz : l.length ≤ 300) : Does Try.prog 58 [v, (.func (.func 57) #[] #[.pointer (some ⟨g, 0, none⟩)])] w0 [.recs 29 v l, .blk g (.cells #[.int .i64 lv] 3)] (fun x : Value => x) (fun x => [.subr x (l.filter fun r => !late lv r), .blk g (.cells #[.int .i64 lv] 3)]) (fun _ => True) := by
  by_cases hn : ∀ j, ∀ hj : j < l.length, late lv l[j] = false
  · exact DeleteFunc_none H ho hs hlv hz hn
  · obtain ⟨i, hi, hl, hno⟩ := first_late hn
    exact DeleteFunc_some H ho hs hlv hz hi hl hno

set_option maxRecDepth 100000 in
theorem CloneR_nil (w0 : World) : Does Try.prog 59 [.slice none 0 0] w0 [] (fun s : Value => s) (fun s => [.recs 29 s []]) (fun _ => True) := by
  refine enter (n := 8) Try.func59 rfl rfl rfl ?_
  intro fr E
  have M : Mem w0 (feet []) [] (fun _ => True) w0 := Mem.begin (Has.nil w0) (fun _ _ => trivial)
  refine code_region ?_
  refine sv (v := _) E rfl rfl rfl rfl rfl (run_assignC rfl) fun fr E => ?_
  refine seq_nil' ?_
  refine wp_seq ?_
  refine code_region ?_
  refine sv (v := _) E rfl rfl rfl rfl rfl (run_move rfl rfl) fun fr E => ?_
  refine sv (v := .bool true) E rfl rfl rfl rfl rfl (run_sliceNil rfl rfl rfl T.slice42 rfl) fun fr E => ?_
  refine seq_nil' ?_
  refine cond_true E rfl (rfl) ?_
  refine code_region ?_
  refine sv (v := _) E rfl rfl rfl rfl rfl (run_assignC rfl) fun fr E => ?_
  refine seq_nil' ?_
  refine wp_ret ?_
  refine then_ret ?_
  refine ret1 E rfl rfl ?_
  have M := M.nilRecs 29
  exact ⟨_, rfl, M.fin (.refl _) trivial⟩

set_option maxRecDepth 100000 in
theorem CloneR_some {g off c : Nat} {l : List Rec} {w0 : World} (hb : Recs w0 (.slice (some ⟨g, off, none⟩) l.length c) l) (hz : l.length ≤ 300) : Does Try.prog 59 [.slice (some ⟨g, off, none⟩) l.length c] w0 [] (fun s : Value => s) (fun s => [.recs 29 s l]) (fun _ => True) := by
  refine enter (n := 8) Try.func59 rfl rfl rfl ?_
  intro fr E
  have M : Mem w0 (feet []) [] (fun w' => Recs w' (.slice (some ⟨g, off, none⟩) l.length c) l) w0 := Mem.begin (Has.nil w0) (fun w' h => hb.held0 h)
  refine code_region ?_
  refine sv (v := _) E rfl rfl rfl rfl rfl (run_assignC rfl) fun fr E => ?_
  refine seq_nil' ?_
  refine wp_seq ?_
  refine code_region ?_
  refine sv (v := _) E rfl rfl rfl rfl rfl (run_move rfl rfl) fun fr E => ?_
  refine sv (v := .bool false) E rfl rfl rfl rfl rfl (run_sliceNil rfl rfl rfl T.slice42 rfl) fun fr E => ?_
  refine seq_nil' ?_
  refine cond_false E rfl (rfl) ?_
  refine wp_skip ?_
  refine then_normal ?_
  refine code_region ?_
  refine srow (sz := 136) (xs := rcs []) E M rfl rfl rfl rfl rfl (run_buildSlice0 rfl T.slice42 rfl) (rfl) (Nat.le_refl _) (by decide) (rfl) fun o fr w M E => ?_
  refine sv (v := _) E rfl rfl rfl rfl rfl (run_move rfl rfl) fun fr E => ?_
  refine sapp (i := 0) E M rfl rfl rfl rfl rfl rfl rfl rfl rfl rfl rfl T.slice42 T.slice42 T.zt29 T.by29 (by decide) M.fact (rcs_one l) (by omega) fun o fr w M E => ?_
  refine sv (v := _) E rfl rfl rfl rfl rfl (run_assign rfl rfl) fun fr E => ?_
  refine seq_nil' ?_
  refine wp_ret ?_
  refine ret1 E rfl rfl ?_
  have M := M.as (L' := [.recs 29 o l]) (by simp)
  exact ⟨_, rfl, M.fin (.refl _) trivial⟩

theorem CloneR_x {b : Value} {l : List Rec} {w0 : World} (hb : Recs w0 b l) (hz : l.length ≤ 300) : Does Try.prog 59 [b] w0 [] (fun s : Value => s) (fun s => [.recs 29 s l]) (fun _ => True) := by
  rcases hb.2 with ⟨rfl, h⟩ | ⟨g, off, c, rfl, _⟩
  · have e : l = [] := List.eq_nil_of_length_eq_zero h
    subst e
    exact CloneR_nil w0
  · exact CloneR_some hb hz

set_option maxRecDepth 100000 in
theorem Choose_none {a : Value} {l : List Rec} {lv : Int} {w0 : World} (ha : Recs w0 a l) (ho : Oks l) (hs : ∀ r ∈ l, StampIn r) (hlv : -9223372036854775808 ≤ lv) (hz : l.length ≤ 300) (hc : choice lv l = none) : Gives Try.prog 21 [a, .int .i64 lv] w0 (.tuple #[Rec.zero.val, .bool false]) := by
  refine enter (n := 36) Try.func21 rfl rfl rfl ?_
  intro fr E
  have M : Mem w0 (feet []) [] (fun w' => Recs w' a l) w0 := Mem.begin (Has.nil w0) (fun w' h => ha.held0 h)
  have hF : (l.filter fun r => !late lv r) = [] := choice_none hc
  refine code_region ?_
  refine snew (ob := .cells #[_] 3) (fun g => .pointer (some ⟨g, 0, none⟩)) E M rfl rfl rfl rfl rfl (run_box1 (v := _) rfl rfl rfl) fun g0 fr w M E => ?_
  refine snew (ob := .cells _ 29) (fun g => .pointer (some ⟨g, 0, none⟩)) E M rfl rfl rfl rfl rfl (run_allocN rfl T.zero29) fun g1 fr w M E => ?_
  refine sv (v := _) E rfl rfl rfl rfl rfl (run_assignC rfl) fun fr E => ?_
  refine seq_nil' ?_
  refine code_region ?_
  refine sv (v := .func (.func 57) #[] #[.pointer (some ⟨g0, 0, none⟩)]) E rfl rfl rfl rfl rfl (run_mkF rfl rfl) fun fr E => ?_
  refine sv (v := _) E rfl rfl rfl rfl rfl (run_assign rfl rfl) fun fr E => ?_
  refine seq_nil' ?_
  refine code_region ?_
  refine sv (v := _) E rfl rfl rfl rfl rfl (run_move rfl rfl) fun fr E => ?_
  refine scall E M rfl rfl rfl rfl rfl (run_call rfl rfl T.fn59) (CloneR_x M.fact hz) rfl ?_
  rintro cv fr w - M E
  refine sv (v := _) E rfl rfl rfl rfl rfl (run_move rfl rfl) fun fr E => ?_
  have M := M.pull 2 rfl
  have M := M.pull 1 rfl
  refine scallI ([.recs 29 cv l, .blk g0 (.cells #[.int .i64 lv] 3)]) E M rfl rfl rfl rfl rfl (run_call rfl rfl T.fn58) rfl (fun H => DeleteFunc_x (lv := lv) (g := g0) H ho hs hlv hz) ?_
  rintro dv fr w - M E
  refine sv (v := _) E rfl rfl rfl rfl rfl (run_assign rfl rfl) fun fr E => ?_
  refine seq_nil' ?_
  refine wp_seq ?_
  refine code_region ?_
  refine sv (v := _) E rfl rfl rfl rfl rfl (run_move rfl rfl) fun fr E => ?_
  refine sv (v := .int .i64 _) E rfl rfl rfl rfl rfl (run_lenR rfl rfl rfl rfl T.slice42 (M.parts 0 rfl)) fun fr E => ?_
  refine sv (v := .bool true) E rfl rfl rfl rfl rfl (tst rfl (by rw [hF]; rfl)) fun fr E => ?_
  refine seq_nil' ?_
  refine cond_true E rfl (rfl) ?_
  refine code_region ?_
  refine sv (v := .agg (Rec.zero.cells).toArray) E rfl rfl rfl rfl rfl (run_buildP (vs := []) (us := Rec.zero.cells) rfl rfl T.ts29 T.zeroL29 (rfl) rfl rfl (rfl)) fun fr E => ?_
  refine sset (i := 2) (cs' := Rec.zero.cells.toArray) E M rfl rfl rfl rfl rfl (run_storeAll (vs := Rec.zero.cells.toArray) rfl rfl rfl T.size29 (Rec.size Rec.zero_ok) (M.row (i := 2) rfl) rfl (fun v hv => Rec.ones _ v hv)) rfl fun fr w M E => ?_
  refine sv (v := _) E rfl rfl rfl rfl rfl (run_assignC rfl) fun fr E => ?_
  refine seq_nil' ?_
  refine wp_ret ?_
  refine then_ret ?_
  refine retC2 E rfl rfl rfl T.agg29 (M.row (i := 2) rfl) (Rec.size Rec.zero_ok) ?_
  exact given M

set_option maxRecDepth 100000 in
theorem Choose_some {a : Value} {l : List Rec} {lv : Int} {w0 : World} (ha : Recs w0 a l) (ho : Oks l) (hs : ∀ r ∈ l, StampIn r) (hlv : -9223372036854775808 ≤ lv) (hz : l.length ≤ 300) {r : Rec} (hc : choice lv l = some r) : Gives Try.prog 21 [a, .int .i64 lv] w0 (.tuple #[r.val, .bool true]) := by
  refine enter (n := 36) Try.func21 rfl rfl rfl ?_
  intro fr E
  have M : Mem w0 (feet []) [] (fun w' => Recs w' a l) w0 := Mem.begin (Has.nil w0) (fun w' h => ha.held0 h)
  obtain ⟨hF, hr⟩ := choice_some hc
  subst hr
  have hFo : Oks (l.filter fun r => !late lv r) := ho.sub fun r hr => (List.mem_filter.1 hr).1
  have hFz : ((l.filter fun r => !late lv r)).length ≤ 300 := Nat.le_trans (List.length_filter_le _ _) hz
  generalize hFe : (l.filter fun r => !late lv r) = F at *
  refine code_region ?_
  refine snew (ob := .cells #[_] 3) (fun g => .pointer (some ⟨g, 0, none⟩)) E M rfl rfl rfl rfl rfl (run_box1 (v := _) rfl rfl rfl) fun g0 fr w M E => ?_
  refine snew (ob := .cells _ 29) (fun g => .pointer (some ⟨g, 0, none⟩)) E M rfl rfl rfl rfl rfl (run_allocN rfl T.zero29) fun g1 fr w M E => ?_
  refine sv (v := _) E rfl rfl rfl rfl rfl (run_assignC rfl) fun fr E => ?_
  refine seq_nil' ?_
  refine code_region ?_
  refine sv (v := .func (.func 57) #[] #[.pointer (some ⟨g0, 0, none⟩)]) E rfl rfl rfl rfl rfl (run_mkF rfl rfl) fun fr E => ?_
  refine sv (v := _) E rfl rfl rfl rfl rfl (run_assign rfl rfl) fun fr E => ?_
  refine seq_nil' ?_
  refine code_region ?_
  refine sv (v := _) E rfl rfl rfl rfl rfl (run_move rfl rfl) fun fr E => ?_
  refine scall E M rfl rfl rfl rfl rfl (run_call rfl rfl T.fn59) (CloneR_x M.fact hz) rfl ?_
  rintro cv fr w - M E
  refine sv (v := _) E rfl rfl rfl rfl rfl (run_move rfl rfl) fun fr E => ?_
  have M := M.pull 2 rfl
  have M := M.pull 1 rfl
  refine scallI ([.recs 29 cv l, .blk g0 (.cells #[.int .i64 lv] 3)]) E M rfl rfl rfl rfl rfl (run_call rfl rfl T.fn58) rfl (fun H => DeleteFunc_x (lv := lv) (g := g0) H ho hs hlv hz) ?_
  rintro dv fr w - M E
  rw [hFe] at M
  refine sv (v := _) E rfl rfl rfl rfl rfl (run_assign rfl rfl) fun fr E => ?_
  refine seq_nil' ?_
  refine wp_seq ?_
  refine code_region ?_
  refine sv (v := _) E rfl rfl rfl rfl rfl (run_move rfl rfl) fun fr E => ?_
  refine sv (v := .int .i64 _) E rfl rfl rfl rfl rfl (run_lenR rfl rfl rfl rfl T.slice42 (M.parts 0 rfl)) fun fr E => ?_
  refine sv (v := .bool false) E rfl rfl rfl rfl rfl (tst rfl (decide_eq_false (by omega))) fun fr E => ?_
  refine seq_nil' ?_
  refine cond_false E rfl (rfl) ?_
  refine wp_skip ?_
  refine then_normal ?_
  refine code_region ?_
  refine sv (v := _) E rfl rfl rfl rfl rfl (run_move rfl rfl) fun fr E => ?_
  refine sv (v := _) E rfl rfl rfl rfl rfl (run_indexR (i := 0) rfl (M.parts 0 rfl) rfl rfl (rfl) (hF) T.slice42 T.size29) fun fr E => ?_
  refine sv (v := .agg (F[0]).cells.toArray) E rfl rfl rfl rfl rfl (run_loadRN rfl (M.parts 0 rfl) rfl T.agg29 (by omega) (by omega) (rcs_get hFo hF)) fun fr E => ?_
  refine snew (ob := .cells _ 29) (fun g => .pointer (some ⟨g, 0, none⟩)) E M rfl rfl rfl rfl rfl (run_allocN rfl T.zero29) fun g2 fr w M E => ?_
  refine sset (i := 0) (cs' := (F[0]).cells.toArray) E M rfl rfl rfl rfl rfl (run_storeAll (vs := (F[0]).cells.toArray) rfl rfl rfl T.size29 (Rec.size (hFo.get hF)) (M.row (i := 0) rfl) rfl (fun v hv => Rec.ones _ v hv)) rfl fun fr w M E => ?_
  refine seq_nil' ?_
  refine wp_seq ?_
  refine code_region ?_
  refine sv (v := _) E rfl rfl rfl rfl rfl (run_move rfl rfl) fun fr E => ?_
  refine sv (v := .int .i64 _) E rfl rfl rfl rfl rfl (run_lenR rfl rfl rfl rfl T.slice42 (M.parts 1 rfl)) fun fr E => ?_
  refine sv (v := _) E rfl rfl rfl rfl rfl (run_moveC rfl) fun fr E => ?_
  refine seq_nil' ?_
  refine wp_block ?_
  refine loop_dec (fun d fr w => ∃ i : Nat, d = F.length - i ∧ i ≤ F.length ∧ Env [(24, .int .i64 i), (23, .int .i64 F.length), (22, dv), (7, .pointer (some ⟨g2, 0, none⟩)), (4, .pointer (some ⟨g1, 0, none⟩))] 36 fr ∧ Mem w0 (feet []) [.blk g2 (.cells (pickR F[0] (F.take i)).cells.toArray 29), .subr dv F, .blk g0 (.cells #[.int .i64 lv] 3), .blk g1 (.cells Rec.zero.cells.toArray 29)] (fun w' => Recs w' a l) w) (F.length) ?_ ?_
  · refine ⟨0, rfl, Nat.zero_le _, (((((Env.nil E).add E (t := 4) rfl).add E (t := 7) rfl).add E (t := 22) rfl).add E (t := 23) rfl).add E (t := 24) rfl, M⟩
  · clear E M
    rintro d fr w ⟨i, rfl, hle, E, M⟩
    by_cases hi : i < F.length
    · have hbo : (pickR F[0] (F.take i)).Ok := pickR_ok (hFo.get hF) (hFo.take i)
      by_cases hc2 : (pickR F[0] (F.take i)).stamp < (F[i]).stamp
      · refine code_region ?_
        refine sv (v := .bool true) E rfl rfl rfl rfl rfl (tst rfl (decide_eq_true (by omega))) fun fr E => ?_
        refine seq_nil' ?_
        refine wp_seq ?_
        refine cond_true E rfl (rfl) ?_
        refine wp_skip ?_
        refine then_normal ?_
        refine wp_seq ?_
        refine wp_block ?_
        refine code_region ?_
        refine sv (v := _) E rfl rfl rfl rfl rfl (run_indexR (i := i) rfl (M.parts 1 rfl) rfl rfl (rfl) (hi) T.slice42 T.size29) fun fr E => ?_
        refine sv (v := .agg (F[i]).cells.toArray) E rfl rfl rfl rfl rfl (run_loadRN rfl (M.parts 1 rfl) rfl T.agg29 (by omega) (by omega) (rcs_get hFo hi)) fun fr E => ?_
        refine snew (ob := .cells _ 29) (fun g => .pointer (some ⟨g, 0, none⟩)) E M rfl rfl rfl rfl rfl (run_allocN rfl T.zero29) fun g3 fr w M E => ?_
        refine sset (i := 0) (cs' := (F[i]).cells.toArray) E M rfl rfl rfl rfl rfl (run_storeAll (vs := (F[i]).cells.toArray) rfl rfl rfl T.size29 (Rec.size (hFo.get hi)) (M.row (i := 0) rfl) rfl (fun v hv => Rec.ones _ v hv)) rfl fun fr w M E => ?_
        refine seq_nil' ?_
        refine code_region ?_
        refine sv (v := .pointer (some ⟨_, 1, none⟩)) E rfl rfl rfl rfl rfl (run_fieldAddr rfl rfl T.fld29_1) fun fr E => ?_
        refine sv (v := .int .i64 _) E rfl rfl rfl rfl rfl (run_loadB rfl rfl T.one3 (M.row (i := 0) rfl) Rec.c_stamp) fun fr E => ?_
        refine sv (v := .pointer (some ⟨_, 1, none⟩)) E rfl rfl rfl rfl rfl (run_fieldAddr rfl rfl T.fld29_1) fun fr E => ?_
        refine sv (v := .int .i64 _) E rfl rfl rfl rfl rfl (run_loadB rfl rfl T.one3 (M.row (i := 1) rfl) Rec.c_stamp) fun fr E => ?_
        refine sv (v := .bool true) E rfl rfl rfl rfl rfl (tst rfl (decide_eq_true (by omega))) fun fr E => ?_
        refine seq_nil' ?_
        refine cond_true E rfl (rfl) ?_
        refine code_last ?_
        refine sv (v := .agg (F[i]).cells.toArray) E rfl rfl rfl rfl rfl (run_loadAll rfl rfl T.agg29 (M.row (i := 0) rfl) (Rec.size (hFo.get hi))) fun fr E => ?_
        refine sset (i := 1) (cs' := (F[i]).cells.toArray) E M rfl rfl rfl rfl rfl (run_storeAll (vs := (F[i]).cells.toArray) rfl rfl rfl T.size29 (Rec.size (hFo.get hi)) (M.row (i := 1) rfl) (Rec.size hbo) (fun v hv => Rec.ones _ v hv)) rfl fun fr w M E => ?_
        refine seq_nil ?_
        refine block_normal ?_
        refine then_normal ?_
        refine code_last ?_
        refine sv (v := .int _ (((i + 1 : Nat) : Int))) E rfl rfl rfl rfl rfl (num rfl ((i64_id (by omega) (by omega)).trans (by omega))) fun fr E => ?_
        refine sv (v := _) E rfl rfl rfl rfl rfl (run_move rfl rfl) fun fr E => ?_
        refine seq_nil ?_
        refine then_any ?_
        refine ⟨F.length - (i + 1), by omega, i + 1, rfl, by omega, (((((Env.nil E).add E (t := 4) rfl).add E (t := 7) rfl).add E (t := 22) rfl).add E (t := 23) rfl).add E (t := 24) rfl, (M.sub (.cons _ (.refl _))).as ?_⟩
        rw [pickR_step hi, if_pos hc2]
        rfl
      · refine code_region ?_
        refine sv (v := .bool true) E rfl rfl rfl rfl rfl (tst rfl (decide_eq_true (by omega))) fun fr E => ?_
        refine seq_nil' ?_
        refine wp_seq ?_
        refine cond_true E rfl (rfl) ?_
        refine wp_skip ?_
        refine then_normal ?_
        refine wp_seq ?_
        refine wp_block ?_
        refine code_region ?_
        refine sv (v := _) E rfl rfl rfl rfl rfl (run_indexR (i := i) rfl (M.parts 1 rfl) rfl rfl (rfl) (hi) T.slice42 T.size29) fun fr E => ?_
        refine sv (v := .agg (F[i]).cells.toArray) E rfl rfl rfl rfl rfl (run_loadRN rfl (M.parts 1 rfl) rfl T.agg29 (by omega) (by omega) (rcs_get hFo hi)) fun fr E => ?_
        refine snew (ob := .cells _ 29) (fun g => .pointer (some ⟨g, 0, none⟩)) E M rfl rfl rfl rfl rfl (run_allocN rfl T.zero29) fun g4 fr w M E => ?_
        refine sset (i := 0) (cs' := (F[i]).cells.toArray) E M rfl rfl rfl rfl rfl (run_storeAll (vs := (F[i]).cells.toArray) rfl rfl rfl T.size29 (Rec.size (hFo.get hi)) (M.row (i := 0) rfl) rfl (fun v hv => Rec.ones _ v hv)) rfl fun fr w M E => ?_
        refine seq_nil' ?_
        refine code_region ?_
        refine sv (v := .pointer (some ⟨_, 1, none⟩)) E rfl rfl rfl rfl rfl (run_fieldAddr rfl rfl T.fld29_1) fun fr E => ?_
        refine sv (v := .int .i64 _) E rfl rfl rfl rfl rfl (run_loadB rfl rfl T.one3 (M.row (i := 0) rfl) Rec.c_stamp) fun fr E => ?_
        refine sv (v := .pointer (some ⟨_, 1, none⟩)) E rfl rfl rfl rfl rfl (run_fieldAddr rfl rfl T.fld29_1) fun fr E => ?_
        refine sv (v := .int .i64 _) E rfl rfl rfl rfl rfl (run_loadB rfl rfl T.one3 (M.row (i := 1) rfl) Rec.c_stamp) fun fr E => ?_
        refine sv (v := .bool false) E rfl rfl rfl rfl rfl (tst rfl (decide_eq_false (by omega))) fun fr E => ?_
        refine seq_nil' ?_
        refine cond_false E rfl (rfl) ?_
        refine wp_skip ?_
        refine block_normal ?_
        refine then_normal ?_
        refine code_last ?_
        refine sv (v := .int _ (((i + 1 : Nat) : Int))) E rfl rfl rfl rfl rfl (num rfl ((i64_id (by omega) (by omega)).trans (by omega))) fun fr E => ?_
        refine sv (v := _) E rfl rfl rfl rfl rfl (run_move rfl rfl) fun fr E => ?_
        refine seq_nil ?_
        refine then_any ?_
        refine ⟨F.length - (i + 1), by omega, i + 1, rfl, by omega, (((((Env.nil E).add E (t := 4) rfl).add E (t := 7) rfl).add E (t := 22) rfl).add E (t := 23) rfl).add E (t := 24) rfl, (M.sub (.cons _ (.refl _))).as ?_⟩
        rw [pickR_step hi, if_neg hc2]
    · obtain rfl : i = F.length := by omega
      rw [List.take_length] at M
      have hbo : (pickR F[0] F).Ok := pickR_ok (hFo.get hF) hFo
      refine code_region ?_
      refine sv (v := .bool false) E rfl rfl rfl rfl rfl (tst rfl (decide_eq_false (by omega))) fun fr E => ?_
      refine seq_nil' ?_
      refine wp_seq ?_
      refine cond_false E rfl (rfl) ?_
      refine wp_exit ?_
      refine then_exit ?_
      refine then_exit ?_
      refine block_exit ?_
      refine then_normal ?_
      refine code_region ?_
      refine sv (v := .agg (pickR F[0] F).cells.toArray) E rfl rfl rfl rfl rfl (run_loadAll rfl rfl T.agg29 (M.row (i := 0) rfl) (Rec.size hbo)) fun fr E => ?_
      refine sset (i := 3) (cs' := (pickR F[0] F).cells.toArray) E M rfl rfl rfl rfl rfl (run_storeAll (vs := (pickR F[0] F).cells.toArray) rfl rfl rfl T.size29 (Rec.size hbo) (M.row (i := 3) rfl) (Rec.size Rec.zero_ok) (fun v hv => Rec.ones _ v hv)) rfl fun fr w M E => ?_
      refine sv (v := _) E rfl rfl rfl rfl rfl (run_assignC rfl) fun fr E => ?_
      refine seq_nil' ?_
      refine wp_ret ?_
      refine retC2 E rfl rfl rfl T.agg29 (M.row (i := 3) rfl) (Rec.size hbo) ?_
      exact given M

set_option maxRecDepth 100000 in
theorem Choose14_x {a : Value} {l : List Rec} {lv : Int} {w0 : World} (ha : Recs w0 a l) (ho : Oks l) (hs : ∀ r ∈ l, StampIn r) (hlv : -9223372036854775808 ≤ lv) (hz : l.length ≤ 300)  : Gives Try.prog 22 [a, .int .i64 lv] w0 (resC (choice lv l)) := by
  refine enter (n := 54) Try.func22 rfl rfl rfl ?_
  intro fr E
  have M : Mem w0 (feet []) [] (fun w' => Recs w' a l) w0 := Mem.begin (Has.nil w0) (fun w' h => ha.held0 h)
  refine code_region ?_
  refine snew (ob := .cells _ 29) (fun g => .pointer (some ⟨g, 0, none⟩)) E M rfl rfl rfl rfl rfl (run_allocN rfl T.zero29) fun g0 fr w M E => ?_
  refine sv (v := _) E rfl rfl rfl rfl rfl (run_assignC rfl) fun fr E => ?_
  refine seq_nil' ?_
  refine code_region ?_
  refine sv (v := _) E rfl rfl rfl rfl rfl (run_assignC rfl) fun fr E => ?_
  refine seq_nil' ?_
  refine wp_seq ?_
  refine code_region ?_
  refine sv (v := _) E rfl rfl rfl rfl rfl (run_assignC rfl) fun fr E => ?_
  refine seq_nil' ?_
  refine wp_block ?_
  refine loop_dec (fun d fr w => ∃ (i : Nat) (b : Int), d = l.length - i ∧ i ≤ l.length ∧ BestAt lv l i b ∧ Env [(7, .int .i64 i), (6, .int .i64 b), (4, .pointer (some ⟨g0, 0, none⟩)), (1, .int .i64 lv), (0, a)] 54 fr ∧ Mem w0 (feet []) [.blk g0 (.cells Rec.zero.cells.toArray 29)] (fun w' => Recs w' a l) w) (l.length) ?_ ?_
  · refine ⟨0, -1, rfl, Nat.zero_le _, .inl ⟨rfl, rfl⟩, (((((Env.nil E).add E (t := 0) rfl).add E (t := 1) rfl).add E (t := 4) rfl).add E (t := 6) rfl).add E (t := 7) rfl, M⟩
  · clear E M
    rintro d fr w ⟨i, b, rfl, hle, hb, E, M⟩
    by_cases hi : i < l.length
    · have hsi := hs _ (List.getElem_mem hi)
      have hsi1 := hsi.1
      have hsi2 := hsi.2
      by_cases h1 : lv < (l[i]).stamp
      · by_cases h2 : lv < (l[i]).stamp - 1
        · refine wp_seq ?_
          refine code_region ?_
          refine sv (v := _) E rfl rfl rfl rfl rfl (run_move rfl rfl) fun fr E => ?_
          refine sv (v := _) E rfl rfl rfl rfl rfl (run_move rfl rfl) fun fr E => ?_
          refine sv (v := .int .i64 _) E rfl rfl rfl rfl rfl (run_lenR rfl rfl rfl rfl T.slice42 M.fact) fun fr E => ?_
          refine sv (v := .bool true) E rfl rfl rfl rfl rfl (tst rfl (decide_eq_true (by omega))) fun fr E => ?_
          refine seq_nil' ?_
          refine cond_true E rfl (rfl) ?_
          refine wp_skip ?_
          refine then_normal ?_
          refine wp_seq ?_
          refine wp_block ?_
          refine wp_seq ?_
          refine code_region ?_
          refine sv (v := _) E rfl rfl rfl rfl rfl (run_move rfl rfl) fun fr E => ?_
          refine sv (v := _) E rfl rfl rfl rfl rfl (run_move rfl rfl) fun fr E => ?_
          refine sv (v := _) E rfl rfl rfl rfl rfl (run_indexR (i := i) rfl M.fact rfl rfl (rfl) (hi) T.slice42 T.size29) fun fr E => ?_
          refine sv (v := _) E rfl rfl rfl rfl rfl (run_fieldAddrR rfl M.fact rfl T.fld29_1 (by omega)) fun fr E => ?_
          refine sv (v := .int .i64 (l[i]).stamp) E rfl rfl rfl rfl rfl (run_loadR rfl M.fact rfl T.one3 (rcs_stamp ho hi)) fun fr E => ?_
          refine sv (v := _) E rfl rfl rfl rfl rfl (run_move rfl rfl) fun fr E => ?_
          refine sv (v := .bool true) E rfl rfl rfl rfl rfl (tst rfl (decide_eq_true (by omega))) fun fr E => ?_
          refine sv (v := _) E rfl rfl rfl rfl rfl (run_move rfl rfl) fun fr E => ?_
          refine sv (v := _) E rfl rfl rfl rfl rfl (run_move rfl rfl) fun fr E => ?_
          refine sv (v := _) E rfl rfl rfl rfl rfl (run_move rfl rfl) fun fr E => ?_
          refine sv (v := _) E rfl rfl rfl rfl rfl (run_indexR (i := i) rfl M.fact rfl rfl (rfl) (hi) T.slice42 T.size29) fun fr E => ?_
          refine sv (v := _) E rfl rfl rfl rfl rfl (run_fieldAddrR rfl M.fact rfl T.fld29_1 (by omega)) fun fr E => ?_
          refine sv (v := .int .i64 (l[i]).stamp) E rfl rfl rfl rfl rfl (run_loadR rfl M.fact rfl T.one3 (rcs_stamp ho hi)) fun fr E => ?_
          refine sv (v := .int _ ((l[i]).stamp - 1)) E rfl rfl rfl rfl rfl (num rfl (i64_id (by omega) (by omega))) fun fr E => ?_
          refine sv (v := _) E rfl rfl rfl rfl rfl (run_move rfl rfl) fun fr E => ?_
          refine sv (v := .bool true) E rfl rfl rfl rfl rfl (tst rfl (decide_eq_true (by omega))) fun fr E => ?_
          refine sv (v := .bool _) E rfl rfl rfl rfl rfl (rfl) fun fr E => ?_
          refine seq_nil' ?_
          refine cond_true E rfl (rfl) ?_
          refine wp_exit ?_
          refine then_exit ?_
          refine block_exit ?_
          refine then_normal ?_
          refine code_last ?_
          refine sv (v := _) E rfl rfl rfl rfl rfl (run_move rfl rfl) fun fr E => ?_
          refine sv (v := .int _ (((i + 1 : Nat) : Int))) E rfl rfl rfl rfl rfl (num rfl ((i64_id (by omega) (by omega)).trans (by omega))) fun fr E => ?_
          refine sv (v := _) E rfl rfl rfl rfl rfl (run_assign rfl rfl) fun fr E => ?_
          refine seq_nil ?_
          refine then_any ?_
          refine ⟨l.length - (i + 1), by omega, i + 1, _, rfl, by omega, hb.late hi (decide_eq_true (by omega)), (((((Env.nil E).add E (t := 0) rfl).add E (t := 1) rfl).add E (t := 4) rfl).add E (t := 6) rfl).add E (t := 7) rfl, M⟩
        · have hq' : late lv l[i] = false := decide_eq_false (by omega)
          rcases hb with ⟨rfl, hch⟩ | ⟨k, hkl, rfl, hch⟩
          · refine wp_seq ?_
            refine code_region ?_
            refine sv (v := _) E rfl rfl rfl rfl rfl (run_move rfl rfl) fun fr E => ?_
            refine sv (v := _) E rfl rfl rfl rfl rfl (run_move rfl rfl) fun fr E => ?_
            refine sv (v := .int .i64 _) E rfl rfl rfl rfl rfl (run_lenR rfl rfl rfl rfl T.slice42 M.fact) fun fr E => ?_
            refine sv (v := .bool true) E rfl rfl rfl rfl rfl (tst rfl (decide_eq_true (by omega))) fun fr E => ?_
            refine seq_nil' ?_
            refine cond_true E rfl (rfl) ?_
            refine wp_skip ?_
            refine then_normal ?_
            refine wp_seq ?_
            refine wp_block ?_
            refine wp_seq ?_
            refine code_region ?_
            refine sv (v := _) E rfl rfl rfl rfl rfl (run_move rfl rfl) fun fr E => ?_
            refine sv (v := _) E rfl rfl rfl rfl rfl (run_move rfl rfl) fun fr E => ?_
            refine sv (v := _) E rfl rfl rfl rfl rfl (run_indexR (i := i) rfl M.fact rfl rfl (rfl) (hi) T.slice42 T.size29) fun fr E => ?_
            refine sv (v := _) E rfl rfl rfl rfl rfl (run_fieldAddrR rfl M.fact rfl T.fld29_1 (by omega)) fun fr E => ?_
            refine sv (v := .int .i64 (l[i]).stamp) E rfl rfl rfl rfl rfl (run_loadR rfl M.fact rfl T.one3 (rcs_stamp ho hi)) fun fr E => ?_
            refine sv (v := _) E rfl rfl rfl rfl rfl (run_move rfl rfl) fun fr E => ?_
            refine sv (v := .bool true) E rfl rfl rfl rfl rfl (tst rfl (decide_eq_true (by omega))) fun fr E => ?_
            refine sv (v := _) E rfl rfl rfl rfl rfl (run_move rfl rfl) fun fr E => ?_
            refine sv (v := _) E rfl rfl rfl rfl rfl (run_move rfl rfl) fun fr E => ?_
            refine sv (v := _) E rfl rfl rfl rfl rfl (run_move rfl rfl) fun fr E => ?_
            refine sv (v := _) E rfl rfl rfl rfl rfl (run_indexR (i := i) rfl M.fact rfl rfl (rfl) (hi) T.slice42 T.size29) fun fr E => ?_
            refine sv (v := _) E rfl rfl rfl rfl rfl (run_fieldAddrR rfl M.fact rfl T.fld29_1 (by omega)) fun fr E => ?_
            refine sv (v := .int .i64 (l[i]).stamp) E rfl rfl rfl rfl rfl (run_loadR rfl M.fact rfl T.one3 (rcs_stamp ho hi)) fun fr E => ?_
            refine sv (v := .int _ ((l[i]).stamp - 1)) E rfl rfl rfl rfl rfl (num rfl (i64_id (by omega) (by omega))) fun fr E => ?_
            refine sv (v := _) E rfl rfl rfl rfl rfl (run_move rfl rfl) fun fr E => ?_
            refine sv (v := .bool false) E rfl rfl rfl rfl rfl (tst rfl (decide_eq_false (by omega))) fun fr E => ?_
            refine sv (v := .bool _) E rfl rfl rfl rfl rfl (rfl) fun fr E => ?_
            refine seq_nil' ?_
            refine cond_false E rfl (rfl) ?_
            refine wp_skip ?_
            refine then_normal ?_
            refine wp_seq (free_reg (B := T.tab22_6_b) (Vs := (.exact _ :: .exact (.bool true) :: .exact _ :: .exact undef :: .exact undef :: .exact undef :: .exact undef :: .exact undef :: .exact undef :: .exact undef :: .exact undef :: .exact undef :: .exact undef :: .exact undef :: .exact (.bool true) :: [])) T.tab22_6_i E T.mixed T.tab22_6 rfl (AllS.lasts ⟨trivial, trivial, trivial, trivial, trivial, trivial, trivial, trivial, trivial, trivial, trivial, trivial, trivial, trivial, trivial, trivial⟩) ⟨fs_val rfl rfl (fun x w hx hk => ⟨_, _, rfl, rfl, rfl, run_move rfl rfl, Ext.refl _, rfl⟩),
      fs_val rfl rfl (fun x w hx hk => ⟨_, _, rfl, rfl, rfl, tst rfl (rfl), Ext.refl _, rfl⟩),
      fs_val rfl rfl (fun x w hx hk => ⟨_, _, rfl, rfl, rfl, run_move rfl rfl, Ext.refl _, rfl⟩),
      fs_no rfl rfl (fun x => ⟨rfl, rfl⟩),
      fs_no rfl rfl (fun x => ⟨rfl, rfl⟩),
      fs_no rfl rfl (fun x => ⟨rfl, rfl⟩),
      fs_no rfl rfl (fun x => ⟨rfl, rfl⟩),
      fs_no rfl rfl (fun x => ⟨rfl, rfl⟩),
      fs_no rfl rfl (fun x => ⟨rfl, rfl⟩),
      fs_no rfl rfl (fun x => ⟨rfl, rfl⟩),
      fs_no rfl rfl (fun x => ⟨rfl, rfl⟩),
      fs_no rfl rfl (fun x => ⟨rfl, rfl⟩),
      fs_no rfl rfl (fun x => ⟨rfl, rfl⟩),
      fs_no rfl rfl (fun x => ⟨rfl, rfl⟩),
      fs_val rfl rfl (fun x w hx hk => ⟨_, _, rfl, rfl, rfl, rfl, Ext.refl _, rfl⟩), trivial⟩ ?_)
            intro x fr w hx hk E
            have M := M.ext hx
            refine then_normal ?_
            refine cond_true E rfl (rfl) ?_
            refine code_last ?_
            refine sv (v := _) E rfl rfl rfl rfl rfl (run_move rfl rfl) fun fr E => ?_
            refine sv (v := _) E rfl rfl rfl rfl rfl (run_assign rfl rfl) fun fr E => ?_
            refine seq_nil ?_
            refine block_normal ?_
            refine then_normal ?_
            refine code_last ?_
            refine sv (v := _) E rfl rfl rfl rfl rfl (run_move rfl rfl) fun fr E => ?_
            refine sv (v := .int _ (((i + 1 : Nat) : Int))) E rfl rfl rfl rfl rfl (num rfl ((i64_id (by omega) (by omega)).trans (by omega))) fun fr E => ?_
            refine sv (v := _) E rfl rfl rfl rfl rfl (run_assign rfl rfl) fun fr E => ?_
            refine seq_nil ?_
            refine then_any ?_
            refine ⟨l.length - (i + 1), by omega, i + 1, _, rfl, by omega, BestAt.first hi hch hq', (((((Env.nil E).add E (t := 0) rfl).add E (t := 1) rfl).add E (t := 4) rfl).add E (t := 6) rfl).add E (t := 7) rfl, M⟩
          · by_cases h3 : (l[k]).stamp < (l[i]).stamp
            · refine wp_seq ?_
              refine code_region ?_
              refine sv (v := _) E rfl rfl rfl rfl rfl (run_move rfl rfl) fun fr E => ?_
              refine sv (v := _) E rfl rfl rfl rfl rfl (run_move rfl rfl) fun fr E => ?_
              refine sv (v := .int .i64 _) E rfl rfl rfl rfl rfl (run_lenR rfl rfl rfl rfl T.slice42 M.fact) fun fr E => ?_
              refine sv (v := .bool true) E rfl rfl rfl rfl rfl (tst rfl (decide_eq_true (by omega))) fun fr E => ?_
              refine seq_nil' ?_
              refine cond_true E rfl (rfl) ?_
              refine wp_skip ?_
              refine then_normal ?_
              refine wp_seq ?_
              refine wp_block ?_
              refine wp_seq ?_
              refine code_region ?_
              refine sv (v := _) E rfl rfl rfl rfl rfl (run_move rfl rfl) fun fr E => ?_
              refine sv (v := _) E rfl rfl rfl rfl rfl (run_move rfl rfl) fun fr E => ?_
              refine sv (v := _) E rfl rfl rfl rfl rfl (run_indexR (i := i) rfl M.fact rfl rfl (rfl) (hi) T.slice42 T.size29) fun fr E => ?_
              refine sv (v := _) E rfl rfl rfl rfl rfl (run_fieldAddrR rfl M.fact rfl T.fld29_1 (by omega)) fun fr E => ?_
              refine sv (v := .int .i64 (l[i]).stamp) E rfl rfl rfl rfl rfl (run_loadR rfl M.fact rfl T.one3 (rcs_stamp ho hi)) fun fr E => ?_
              refine sv (v := _) E rfl rfl rfl rfl rfl (run_move rfl rfl) fun fr E => ?_
              refine sv (v := .bool true) E rfl rfl rfl rfl rfl (tst rfl (decide_eq_true (by omega))) fun fr E => ?_
              refine sv (v := _) E rfl rfl rfl rfl rfl (run_move rfl rfl) fun fr E => ?_
              refine sv (v := _) E rfl rfl rfl rfl rfl (run_move rfl rfl) fun fr E => ?_
              refine sv (v := _) E rfl rfl rfl rfl rfl (run_move rfl rfl) fun fr E => ?_
              refine sv (v := _) E rfl rfl rfl rfl rfl (run_indexR (i := i) rfl M.fact rfl rfl (rfl) (hi) T.slice42 T.size29) fun fr E => ?_
              refine sv (v := _) E rfl rfl rfl rfl rfl (run_fieldAddrR rfl M.fact rfl T.fld29_1 (by omega)) fun fr E => ?_
              refine sv (v := .int .i64 (l[i]).stamp) E rfl rfl rfl rfl rfl (run_loadR rfl M.fact rfl T.one3 (rcs_stamp ho hi)) fun fr E => ?_
              refine sv (v := .int _ ((l[i]).stamp - 1)) E rfl rfl rfl rfl rfl (num rfl (i64_id (by omega) (by omega))) fun fr E => ?_
              refine sv (v := _) E rfl rfl rfl rfl rfl (run_move rfl rfl) fun fr E => ?_
              refine sv (v := .bool false) E rfl rfl rfl rfl rfl (tst rfl (decide_eq_false (by omega))) fun fr E => ?_
              refine sv (v := .bool _) E rfl rfl rfl rfl rfl (rfl) fun fr E => ?_
              refine seq_nil' ?_
              refine cond_false E rfl (rfl) ?_
              refine wp_skip ?_
              refine then_normal ?_
              refine wp_seq (free_reg (B := T.tab22_6_b) (Vs := (.exact _ :: .exact (.bool false) :: .exact _ :: .exact _ :: .exact _ :: .exact (cellAt a (i * 136)) :: .exact (cellAt a (i * 136 + 1)) :: .exact (.int .i64 (l[i]).stamp) :: .exact _ :: .exact _ :: .exact (cellAt a (k * 136)) :: .exact (cellAt a (k * 136 + 1)) :: .exact (.int .i64 (l[k]).stamp) :: .exact (.bool true) :: .exact (.bool true) :: [])) T.tab22_6_i E T.mixed T.tab22_6 rfl (AllS.lasts ⟨trivial, trivial, trivial, trivial, trivial, trivial, trivial, trivial, trivial, trivial, trivial, trivial, trivial, trivial, trivial, trivial⟩) ⟨fs_val rfl rfl (fun x w hx hk => ⟨_, _, rfl, rfl, rfl, run_move rfl rfl, Ext.refl _, rfl⟩),
      fs_val rfl rfl (fun x w hx hk => ⟨_, _, rfl, rfl, rfl, tst rfl (decide_eq_false (by omega)), Ext.refl _, rfl⟩),
      fs_val rfl rfl (fun x w hx hk => ⟨_, _, rfl, rfl, rfl, run_move rfl rfl, Ext.refl _, rfl⟩),
      fs_val rfl rfl (fun x w hx hk => ⟨_, _, rfl, rfl, rfl, run_move rfl rfl, Ext.refl _, rfl⟩),
      fs_val rfl rfl (fun x w hx hk => ⟨_, _, rfl, rfl, rfl, run_move rfl rfl, Ext.refl _, rfl⟩),
      fs_val rfl rfl (fun x w hx hk => ⟨_, _, rfl, rfl, rfl, run_indexR (i := i) rfl (M.ext ((Ext.drew _).trans hx)).fact rfl rfl (rfl) (hi) T.slice42 T.size29, Ext.refl _, rfl⟩),
      fs_val rfl rfl (fun x w hx hk => ⟨_, _, rfl, rfl, rfl, run_fieldAddrR rfl (M.ext ((Ext.drew _).trans hx)).fact rfl T.fld29_1 (by omega), Ext.refl _, rfl⟩),
      fs_val rfl rfl (fun x w hx hk => ⟨_, _, rfl, rfl, rfl, run_loadR rfl (M.ext ((Ext.drew _).trans hx)).fact rfl T.one3 (rcs_stamp ho hi), Ext.refl _, rfl⟩),
      fs_val rfl rfl (fun x w hx hk => ⟨_, _, rfl, rfl, rfl, run_move rfl rfl, Ext.refl _, rfl⟩),
      fs_val rfl rfl (fun x w hx hk => ⟨_, _, rfl, rfl, rfl, run_move rfl rfl, Ext.refl _, rfl⟩),
      fs_val rfl rfl (fun x w hx hk => ⟨_, _, rfl, rfl, rfl, run_indexR (i := k) rfl (M.ext ((Ext.drew _).trans hx)).fact rfl rfl (rfl) (hkl) T.slice42 T.size29, Ext.refl _, rfl⟩),
      fs_val rfl rfl (fun x w hx hk => ⟨_, _, rfl, rfl, rfl, run_fieldAddrR rfl (M.ext ((Ext.drew _).trans hx)).fact rfl T.fld29_1 (by omega), Ext.refl _, rfl⟩),
      fs_val rfl rfl (fun x w hx hk => ⟨_, _, rfl, rfl, rfl, run_loadR rfl (M.ext ((Ext.drew _).trans hx)).fact rfl T.one3 (rcs_stamp ho hkl), Ext.refl _, rfl⟩),
      fs_val rfl rfl (fun x w hx hk => ⟨_, _, rfl, rfl, rfl, tst rfl (decide_eq_true (by omega)), Ext.refl _, rfl⟩),
      fs_val rfl rfl (fun x w hx hk => ⟨_, _, rfl, rfl, rfl, rfl, Ext.refl _, rfl⟩), trivial⟩ ?_)
              intro x fr w hx hk E
              have M := M.ext hx
              refine then_normal ?_
              refine cond_true E rfl (rfl) ?_
              refine code_last ?_
              refine sv (v := _) E rfl rfl rfl rfl rfl (run_move rfl rfl) fun fr E => ?_
              refine sv (v := _) E rfl rfl rfl rfl rfl (run_assign rfl rfl) fun fr E => ?_
              refine seq_nil ?_
              refine block_normal ?_
              refine then_normal ?_
              refine code_last ?_
              refine sv (v := _) E rfl rfl rfl rfl rfl (run_move rfl rfl) fun fr E => ?_
              refine sv (v := .int _ (((i + 1 : Nat) : Int))) E rfl rfl rfl rfl rfl (num rfl ((i64_id (by omega) (by omega)).trans (by omega))) fun fr E => ?_
              refine sv (v := _) E rfl rfl rfl rfl rfl (run_assign rfl rfl) fun fr E => ?_
              refine seq_nil ?_
              refine then_any ?_
              refine ⟨l.length - (i + 1), by omega, i + 1, _, rfl, by omega, BestAt.more hi hkl hch hq' h3, (((((Env.nil E).add E (t := 0) rfl).add E (t := 1) rfl).add E (t := 4) rfl).add E (t := 6) rfl).add E (t := 7) rfl, M⟩
            · refine wp_seq ?_
              refine code_region ?_
              refine sv (v := _) E rfl rfl rfl rfl rfl (run_move rfl rfl) fun fr E => ?_
              refine sv (v := _) E rfl rfl rfl rfl rfl (run_move rfl rfl) fun fr E => ?_
              refine sv (v := .int .i64 _) E rfl rfl rfl rfl rfl (run_lenR rfl rfl rfl rfl T.slice42 M.fact) fun fr E => ?_
              refine sv (v := .bool true) E rfl rfl rfl rfl rfl (tst rfl (decide_eq_true (by omega))) fun fr E => ?_
              refine seq_nil' ?_
              refine cond_true E rfl (rfl) ?_
              refine wp_skip ?_
              refine then_normal ?_
              refine wp_seq ?_
              refine wp_block ?_
              refine wp_seq ?_
              refine code_region ?_
              refine sv (v := _) E rfl rfl rfl rfl rfl (run_move rfl rfl) fun fr E => ?_
              refine sv (v := _) E rfl rfl rfl rfl rfl (run_move rfl rfl) fun fr E => ?_
              refine sv (v := _) E rfl rfl rfl rfl rfl (run_indexR (i := i) rfl M.fact rfl rfl (rfl) (hi) T.slice42 T.size29) fun fr E => ?_
              refine sv (v := _) E rfl rfl rfl rfl rfl (run_fieldAddrR rfl M.fact rfl T.fld29_1 (by omega)) fun fr E => ?_
              refine sv (v := .int .i64 (l[i]).stamp) E rfl rfl rfl rfl rfl (run_loadR rfl M.fact rfl T.one3 (rcs_stamp ho hi)) fun fr E => ?_
              refine sv (v := _) E rfl rfl rfl rfl rfl (run_move rfl rfl) fun fr E => ?_
              refine sv (v := .bool true) E rfl rfl rfl rfl rfl (tst rfl (decide_eq_true (by omega))) fun fr E => ?_
              refine sv (v := _) E rfl rfl rfl rfl rfl (run_move rfl rfl) fun fr E => ?_
              refine sv (v := _) E rfl rfl rfl rfl rfl (run_move rfl rfl) fun fr E => ?_
              refine sv (v := _) E rfl rfl rfl rfl rfl (run_move rfl rfl) fun fr E => ?_
              refine sv (v := _) E rfl rfl rfl rfl rfl (run_indexR (i := i) rfl M.fact rfl rfl (rfl) (hi) T.slice42 T.size29) fun fr E => ?_
              refine sv (v := _) E rfl rfl rfl rfl rfl (run_fieldAddrR rfl M.fact rfl T.fld29_1 (by omega)) fun fr E => ?_
              refine sv (v := .int .i64 (l[i]).stamp) E rfl rfl rfl rfl rfl (run_loadR rfl M.fact rfl T.one3 (rcs_stamp ho hi)) fun fr E => ?_
              refine sv (v := .int _ ((l[i]).stamp - 1)) E rfl rfl rfl rfl rfl (num rfl (i64_id (by omega) (by omega))) fun fr E => ?_
              refine sv (v := _) E rfl rfl rfl rfl rfl (run_move rfl rfl) fun fr E => ?_
              refine sv (v := .bool false) E rfl rfl rfl rfl rfl (tst rfl (decide_eq_false (by omega))) fun fr E => ?_
              refine sv (v := .bool _) E rfl rfl rfl rfl rfl (rfl) fun fr E => ?_
              refine seq_nil' ?_
              refine cond_false E rfl (rfl) ?_
              refine wp_skip ?_
              refine then_normal ?_
              refine wp_seq (free_reg (B := T.tab22_6_b) (Vs := (.exact _ :: .exact (.bool false) :: .exact _ :: .exact _ :: .exact _ :: .exact (cellAt a (i * 136)) :: .exact (cellAt a (i * 136 + 1)) :: .exact (.int .i64 (l[i]).stamp) :: .exact _ :: .exact _ :: .exact (cellAt a (k * 136)) :: .exact (cellAt a (k * 136 + 1)) :: .exact (.int .i64 (l[k]).stamp) :: .exact (.bool false) :: .exact (.bool false) :: [])) T.tab22_6_i E T.mixed T.tab22_6 rfl (AllS.lasts ⟨trivial, trivial, trivial, trivial, trivial, trivial, trivial, trivial, trivial, trivial, trivial, trivial, trivial, trivial, trivial, trivial⟩) ⟨fs_val rfl rfl (fun x w hx hk => ⟨_, _, rfl, rfl, rfl, run_move rfl rfl, Ext.refl _, rfl⟩),
      fs_val rfl rfl (fun x w hx hk => ⟨_, _, rfl, rfl, rfl, tst rfl (decide_eq_false (by omega)), Ext.refl _, rfl⟩),
      fs_val rfl rfl (fun x w hx hk => ⟨_, _, rfl, rfl, rfl, run_move rfl rfl, Ext.refl _, rfl⟩),
      fs_val rfl rfl (fun x w hx hk => ⟨_, _, rfl, rfl, rfl, run_move rfl rfl, Ext.refl _, rfl⟩),
      fs_val rfl rfl (fun x w hx hk => ⟨_, _, rfl, rfl, rfl, run_move rfl rfl, Ext.refl _, rfl⟩),
      fs_val rfl rfl (fun x w hx hk => ⟨_, _, rfl, rfl, rfl, run_indexR (i := i) rfl (M.ext ((Ext.drew _).trans hx)).fact rfl rfl (rfl) (hi) T.slice42 T.size29, Ext.refl _, rfl⟩),
      fs_val rfl rfl (fun x w hx hk => ⟨_, _, rfl, rfl, rfl, run_fieldAddrR rfl (M.ext ((Ext.drew _).trans hx)).fact rfl T.fld29_1 (by omega), Ext.refl _, rfl⟩),
      fs_val rfl rfl (fun x w hx hk => ⟨_, _, rfl, rfl, rfl, run_loadR rfl (M.ext ((Ext.drew _).trans hx)).fact rfl T.one3 (rcs_stamp ho hi), Ext.refl _, rfl⟩),
      fs_val rfl rfl (fun x w hx hk => ⟨_, _, rfl, rfl, rfl, run_move rfl rfl, Ext.refl _, rfl⟩),
      fs_val rfl rfl (fun x w hx hk => ⟨_, _, rfl, rfl, rfl, run_move rfl rfl, Ext.refl _, rfl⟩),
      fs_val rfl rfl (fun x w hx hk => ⟨_, _, rfl, rfl, rfl, run_indexR (i := k) rfl (M.ext ((Ext.drew _).trans hx)).fact rfl rfl (rfl) (hkl) T.slice42 T.size29, Ext.refl _, rfl⟩),
      fs_val rfl rfl (fun x w hx hk => ⟨_, _, rfl, rfl, rfl, run_fieldAddrR rfl (M.ext ((Ext.drew _).trans hx)).fact rfl T.fld29_1 (by omega), Ext.refl _, rfl⟩),
      fs_val rfl rfl (fun x w hx hk => ⟨_, _, rfl, rfl, rfl, run_loadR rfl (M.ext ((Ext.drew _).trans hx)).fact rfl T.one3 (rcs_stamp ho hkl), Ext.refl _, rfl⟩),
      fs_val rfl rfl (fun x w hx hk => ⟨_, _, rfl, rfl, rfl, tst rfl (decide_eq_false (by omega)), Ext.refl _, rfl⟩),
      fs_val rfl rfl (fun x w hx hk => ⟨_, _, rfl, rfl, rfl, rfl, Ext.refl _, rfl⟩), trivial⟩ ?_)
              intro x fr w hx hk E
              have M := M.ext hx
              refine then_normal ?_
              refine cond_false E rfl (rfl) ?_
              refine wp_skip ?_
              refine block_normal ?_
              refine then_normal ?_
              refine code_last ?_
              refine sv (v := _) E rfl rfl rfl rfl rfl (run_move rfl rfl) fun fr E => ?_
              refine sv (v := .int _ (((i + 1 : Nat) : Int))) E rfl rfl rfl rfl rfl (num rfl ((i64_id (by omega) (by omega)).trans (by omega))) fun fr E => ?_
              refine sv (v := _) E rfl rfl rfl rfl rfl (run_assign rfl rfl) fun fr E => ?_
              refine seq_nil ?_
              refine then_any ?_
              refine ⟨l.length - (i + 1), by omega, i + 1, _, rfl, by omega, BestAt.less hi hkl hch hq' h3, (((((Env.nil E).add E (t := 0) rfl).add E (t := 1) rfl).add E (t := 4) rfl).add E (t := 6) rfl).add E (t := 7) rfl, M⟩
      · have hq' : late lv l[i] = false := decide_eq_false (by omega)
        rcases hb with ⟨rfl, hch⟩ | ⟨k, hkl, rfl, hch⟩
        · refine wp_seq ?_
          refine code_region ?_
          refine sv (v := _) E rfl rfl rfl rfl rfl (run_move rfl rfl) fun fr E => ?_
          refine sv (v := _) E rfl rfl rfl rfl rfl (run_move rfl rfl) fun fr E => ?_
          refine sv (v := .int .i64 _) E rfl rfl rfl rfl rfl (run_lenR rfl rfl rfl rfl T.slice42 M.fact) fun fr E => ?_
          refine sv (v := .bool true) E rfl rfl rfl rfl rfl (tst rfl (decide_eq_true (by omega))) fun fr E => ?_
          refine seq_nil' ?_
          refine cond_true E rfl (rfl) ?_
          refine wp_skip ?_
          refine then_normal ?_
          refine wp_seq ?_
          refine wp_block ?_
          refine wp_seq ?_
          refine code_region ?_
          refine sv (v := _) E rfl rfl rfl rfl rfl (run_move rfl rfl) fun fr E => ?_
          refine sv (v := _) E rfl rfl rfl rfl rfl (run_move rfl rfl) fun fr E => ?_
          refine sv (v := _) E rfl rfl rfl rfl rfl (run_indexR (i := i) rfl M.fact rfl rfl (rfl) (hi) T.slice42 T.size29) fun fr E => ?_
          refine sv (v := _) E rfl rfl rfl rfl rfl (run_fieldAddrR rfl M.fact rfl T.fld29_1 (by omega)) fun fr E => ?_
          refine sv (v := .int .i64 (l[i]).stamp) E rfl rfl rfl rfl rfl (run_loadR rfl M.fact rfl T.one3 (rcs_stamp ho hi)) fun fr E => ?_
          refine sv (v := _) E rfl rfl rfl rfl rfl (run_move rfl rfl) fun fr E => ?_
          refine sv (v := .bool false) E rfl rfl rfl rfl rfl (tst rfl (decide_eq_false (by omega))) fun fr E => ?_
          refine sv (v := _) E rfl rfl rfl rfl rfl (run_move rfl rfl) fun fr E => ?_
          refine sno E rfl rfl rfl rfl fun fr E => ?_
          refine sno E rfl rfl rfl rfl fun fr E => ?_
          refine sno E rfl rfl rfl rfl fun fr E => ?_
          refine sno E rfl rfl rfl rfl fun fr E => ?_
          refine sno E rfl rfl rfl rfl fun fr E => ?_
          refine sno E rfl rfl rfl rfl fun fr E => ?_
          refine sno E rfl rfl rfl rfl fun fr E => ?_
          refine sno E rfl rfl rfl rfl fun fr E => ?_
          refine sv (v := .bool _) E rfl rfl rfl rfl rfl (rfl) fun fr E => ?_
          refine seq_nil' ?_
          refine cond_false E rfl (rfl) ?_
          refine wp_skip ?_
          refine then_normal ?_
          refine wp_seq (free_reg (B := T.tab22_6_b) (Vs := (.exact _ :: .exact (.bool true) :: .exact _ :: .exact undef :: .exact undef :: .exact undef :: .exact undef :: .exact undef :: .exact undef :: .exact undef :: .exact undef :: .exact undef :: .exact undef :: .exact undef :: .exact (.bool true) :: [])) T.tab22_6_i E T.mixed T.tab22_6 rfl (AllS.lasts ⟨trivial, trivial, trivial, trivial, trivial, trivial, trivial, trivial, trivial, trivial, trivial, trivial, trivial, trivial, trivial, trivial⟩) ⟨fs_val rfl rfl (fun x w hx hk => ⟨_, _, rfl, rfl, rfl, run_move rfl rfl, Ext.refl _, rfl⟩),
      fs_val rfl rfl (fun x w hx hk => ⟨_, _, rfl, rfl, rfl, tst rfl (rfl), Ext.refl _, rfl⟩),
      fs_val rfl rfl (fun x w hx hk => ⟨_, _, rfl, rfl, rfl, run_move rfl rfl, Ext.refl _, rfl⟩),
      fs_no rfl rfl (fun x => ⟨rfl, rfl⟩),
      fs_no rfl rfl (fun x => ⟨rfl, rfl⟩),
      fs_no rfl rfl (fun x => ⟨rfl, rfl⟩),
      fs_no rfl rfl (fun x => ⟨rfl, rfl⟩),
      fs_no rfl rfl (fun x => ⟨rfl, rfl⟩),
      fs_no rfl rfl (fun x => ⟨rfl, rfl⟩),
      fs_no rfl rfl (fun x => ⟨rfl, rfl⟩),
      fs_no rfl rfl (fun x => ⟨rfl, rfl⟩),
      fs_no rfl rfl (fun x => ⟨rfl, rfl⟩),
      fs_no rfl rfl (fun x => ⟨rfl, rfl⟩),
      fs_no rfl rfl (fun x => ⟨rfl, rfl⟩),
      fs_val rfl rfl (fun x w hx hk => ⟨_, _, rfl, rfl, rfl, rfl, Ext.refl _, rfl⟩), trivial⟩ ?_)
          intro x fr w hx hk E
          have M := M.ext hx
          refine then_normal ?_
          refine cond_true E rfl (rfl) ?_
          refine code_last ?_
          refine sv (v := _) E rfl rfl rfl rfl rfl (run_move rfl rfl) fun fr E => ?_
          refine sv (v := _) E rfl rfl rfl rfl rfl (run_assign rfl rfl) fun fr E => ?_
          refine seq_nil ?_
          refine block_normal ?_
          refine then_normal ?_
          refine code_last ?_
          refine sv (v := _) E rfl rfl rfl rfl rfl (run_move rfl rfl) fun fr E => ?_
          refine sv (v := .int _ (((i + 1 : Nat) : Int))) E rfl rfl rfl rfl rfl (num rfl ((i64_id (by omega) (by omega)).trans (by omega))) fun fr E => ?_
          refine sv (v := _) E rfl rfl rfl rfl rfl (run_assign rfl rfl) fun fr E => ?_
          refine seq_nil ?_
          refine then_any ?_
          refine ⟨l.length - (i + 1), by omega, i + 1, _, rfl, by omega, BestAt.first hi hch hq', (((((Env.nil E).add E (t := 0) rfl).add E (t := 1) rfl).add E (t := 4) rfl).add E (t := 6) rfl).add E (t := 7) rfl, M⟩
        · by_cases h3 : (l[k]).stamp < (l[i]).stamp
          · refine wp_seq ?_
            refine code_region ?_
            refine sv (v := _) E rfl rfl rfl rfl rfl (run_move rfl rfl) fun fr E => ?_
            refine sv (v := _) E rfl rfl rfl rfl rfl (run_move rfl rfl) fun fr E => ?_
            refine sv (v := .int .i64 _) E rfl rfl rfl rfl rfl (run_lenR rfl rfl rfl rfl T.slice42 M.fact) fun fr E => ?_
            refine sv (v := .bool true) E rfl rfl rfl rfl rfl (tst rfl (decide_eq_true (by omega))) fun fr E => ?_
            refine seq_nil' ?_
            refine cond_true E rfl (rfl) ?_
            refine wp_skip ?_
            refine then_normal ?_
            refine wp_seq ?_
            refine wp_block ?_
            refine wp_seq ?_
            refine code_region ?_
            refine sv (v := _) E rfl rfl rfl rfl rfl (run_move rfl rfl) fun fr E => ?_
            refine sv (v := _) E rfl rfl rfl rfl rfl (run_move rfl rfl) fun fr E => ?_
            refine sv (v := _) E rfl rfl rfl rfl rfl (run_indexR (i := i) rfl M.fact rfl rfl (rfl) (hi) T.slice42 T.size29) fun fr E => ?_
            refine sv (v := _) E rfl rfl rfl rfl rfl (run_fieldAddrR rfl M.fact rfl T.fld29_1 (by omega)) fun fr E => ?_
            refine sv (v := .int .i64 (l[i]).stamp) E rfl rfl rfl rfl rfl (run_loadR rfl M.fact rfl T.one3 (rcs_stamp ho hi)) fun fr E => ?_
            refine sv (v := _) E rfl rfl rfl rfl rfl (run_move rfl rfl) fun fr E => ?_
            refine sv (v := .bool false) E rfl rfl rfl rfl rfl (tst rfl (decide_eq_false (by omega))) fun fr E => ?_
            refine sv (v := _) E rfl rfl rfl rfl rfl (run_move rfl rfl) fun fr E => ?_
            refine sno E rfl rfl rfl rfl fun fr E => ?_
            refine sno E rfl rfl rfl rfl fun fr E => ?_
            refine sno E rfl rfl rfl rfl fun fr E => ?_
            refine sno E rfl rfl rfl rfl fun fr E => ?_
            refine sno E rfl rfl rfl rfl fun fr E => ?_
            refine sno E rfl rfl rfl rfl fun fr E => ?_
            refine sno E rfl rfl rfl rfl fun fr E => ?_
            refine sno E rfl rfl rfl rfl fun fr E => ?_
            refine sv (v := .bool _) E rfl rfl rfl rfl rfl (rfl) fun fr E => ?_
            refine seq_nil' ?_
            refine cond_false E rfl (rfl) ?_
            refine wp_skip ?_
            refine then_normal ?_
            refine wp_seq (free_reg (B := T.tab22_6_b) (Vs := (.exact _ :: .exact (.bool false) :: .exact _ :: .exact _ :: .exact _ :: .exact (cellAt a (i * 136)) :: .exact (cellAt a (i * 136 + 1)) :: .exact (.int .i64 (l[i]).stamp) :: .exact _ :: .exact _ :: .exact (cellAt a (k * 136)) :: .exact (cellAt a (k * 136 + 1)) :: .exact (.int .i64 (l[k]).stamp) :: .exact (.bool true) :: .exact (.bool true) :: [])) T.tab22_6_i E T.mixed T.tab22_6 rfl (AllS.lasts ⟨trivial, trivial, trivial, trivial, trivial, trivial, trivial, trivial, trivial, trivial, trivial, trivial, trivial, trivial, trivial, trivial⟩) ⟨fs_val rfl rfl (fun x w hx hk => ⟨_, _, rfl, rfl, rfl, run_move rfl rfl, Ext.refl _, rfl⟩),
      fs_val rfl rfl (fun x w hx hk => ⟨_, _, rfl, rfl, rfl, tst rfl (decide_eq_false (by omega)), Ext.refl _, rfl⟩),
      fs_val rfl rfl (fun x w hx hk => ⟨_, _, rfl, rfl, rfl, run_move rfl rfl, Ext.refl _, rfl⟩),
      fs_val rfl rfl (fun x w hx hk => ⟨_, _, rfl, rfl, rfl, run_move rfl rfl, Ext.refl _, rfl⟩),
      fs_val rfl rfl (fun x w hx hk => ⟨_, _, rfl, rfl, rfl, run_move rfl rfl, Ext.refl _, rfl⟩),
      fs_val rfl rfl (fun x w hx hk => ⟨_, _, rfl, rfl, rfl, run_indexR (i := i) rfl (M.ext ((Ext.drew _).trans hx)).fact rfl rfl (rfl) (hi) T.slice42 T.size29, Ext.refl _, rfl⟩),
      fs_val rfl rfl (fun x w hx hk => ⟨_, _, rfl, rfl, rfl, run_fieldAddrR rfl (M.ext ((Ext.drew _).trans hx)).fact rfl T.fld29_1 (by omega), Ext.refl _, rfl⟩),
      fs_val rfl rfl (fun x w hx hk => ⟨_, _, rfl, rfl, rfl, run_loadR rfl (M.ext ((Ext.drew _).trans hx)).fact rfl T.one3 (rcs_stamp ho hi), Ext.refl _, rfl⟩),
      fs_val rfl rfl (fun x w hx hk => ⟨_, _, rfl, rfl, rfl, run_move rfl rfl, Ext.refl _, rfl⟩),
      fs_val rfl rfl (fun x w hx hk => ⟨_, _, rfl, rfl, rfl, run_move rfl rfl, Ext.refl _, rfl⟩),
      fs_val rfl rfl (fun x w hx hk => ⟨_, _, rfl, rfl, rfl, run_indexR (i := k) rfl (M.ext ((Ext.drew _).trans hx)).fact rfl rfl (rfl) (hkl) T.slice42 T.size29, Ext.refl _, rfl⟩),
      fs_val rfl rfl (fun x w hx hk => ⟨_, _, rfl, rfl, rfl, run_fieldAddrR rfl (M.ext ((Ext.drew _).trans hx)).fact rfl T.fld29_1 (by omega), Ext.refl _, rfl⟩),
      fs_val rfl rfl (fun x w hx hk => ⟨_, _, rfl, rfl, rfl, run_loadR rfl (M.ext ((Ext.drew _).trans hx)).fact rfl T.one3 (rcs_stamp ho hkl), Ext.refl _, rfl⟩),
      fs_val rfl rfl (fun x w hx hk => ⟨_, _, rfl, rfl, rfl, tst rfl (decide_eq_true (by omega)), Ext.refl _, rfl⟩),
      fs_val rfl rfl (fun x w hx hk => ⟨_, _, rfl, rfl, rfl, rfl, Ext.refl _, rfl⟩), trivial⟩ ?_)
            intro x fr w hx hk E
            have M := M.ext hx
            refine then_normal ?_
            refine cond_true E rfl (rfl) ?_
            refine code_last ?_
            refine sv (v := _) E rfl rfl rfl rfl rfl (run_move rfl rfl) fun fr E => ?_
            refine sv (v := _) E rfl rfl rfl rfl rfl (run_assign rfl rfl) fun fr E => ?_
            refine seq_nil ?_
            refine block_normal ?_
            refine then_normal ?_
            refine code_last ?_
            refine sv (v := _) E rfl rfl rfl rfl rfl (run_move rfl rfl) fun fr E => ?_
            refine sv (v := .int _ (((i + 1 : Nat) : Int))) E rfl rfl rfl rfl rfl (num rfl ((i64_id (by omega) (by omega)).trans (by omega))) fun fr E => ?_
            refine sv (v := _) E rfl rfl rfl rfl rfl (run_assign rfl rfl) fun fr E => ?_
            refine seq_nil ?_
            refine then_any ?_
            refine ⟨l.length - (i + 1), by omega, i + 1, _, rfl, by omega, BestAt.more hi hkl hch hq' h3, (((((Env.nil E).add E (t := 0) rfl).add E (t := 1) rfl).add E (t := 4) rfl).add E (t := 6) rfl).add E (t := 7) rfl, M⟩
          · refine wp_seq ?_
            refine code_region ?_
            refine sv (v := _) E rfl rfl rfl rfl rfl (run_move rfl rfl) fun fr E => ?_
            refine sv (v := _) E rfl rfl rfl rfl rfl (run_move rfl rfl) fun fr E => ?_
            refine sv (v := .int .i64 _) E rfl rfl rfl rfl rfl (run_lenR rfl rfl rfl rfl T.slice42 M.fact) fun fr E => ?_
            refine sv (v := .bool true) E rfl rfl rfl rfl rfl (tst rfl (decide_eq_true (by omega))) fun fr E => ?_
            refine seq_nil' ?_
            refine cond_true E rfl (rfl) ?_
            refine wp_skip ?_
            refine then_normal ?_
            refine wp_seq ?_
            refine wp_block ?_
            refine wp_seq ?_
            refine code_region ?_
            refine sv (v := _) E rfl rfl rfl rfl rfl (run_move rfl rfl) fun fr E => ?_
            refine sv (v := _) E rfl rfl rfl rfl rfl (run_move rfl rfl) fun fr E => ?_
            refine sv (v := _) E rfl rfl rfl rfl rfl (run_indexR (i := i) rfl M.fact rfl rfl (rfl) (hi) T.slice42 T.size29) fun fr E => ?_
            refine sv (v := _) E rfl rfl rfl rfl rfl (run_fieldAddrR rfl M.fact rfl T.fld29_1 (by omega)) fun fr E => ?_
            refine sv (v := .int .i64 (l[i]).stamp) E rfl rfl rfl rfl rfl (run_loadR rfl M.fact rfl T.one3 (rcs_stamp ho hi)) fun fr E => ?_
            refine sv (v := _) E rfl rfl rfl rfl rfl (run_move rfl rfl) fun fr E => ?_
            refine sv (v := .bool false) E rfl rfl rfl rfl rfl (tst rfl (decide_eq_false (by omega))) fun fr E => ?_
            refine sv (v := _) E rfl rfl rfl rfl rfl (run_move rfl rfl) fun fr E => ?_
            refine sno E rfl rfl rfl rfl fun fr E => ?_
            refine sno E rfl rfl rfl rfl fun fr E => ?_
            refine sno E rfl rfl rfl rfl fun fr E => ?_
            refine sno E rfl rfl rfl rfl fun fr E => ?_
            refine sno E rfl rfl rfl rfl fun fr E => ?_
            refine sno E rfl rfl rfl rfl fun fr E => ?_
            refine sno E rfl rfl rfl rfl fun fr E => ?_
            refine sno E rfl rfl rfl rfl fun fr E => ?_
            refine sv (v := .bool _) E rfl rfl rfl rfl rfl (rfl) fun fr E => ?_
            refine seq_nil' ?_
            refine cond_false E rfl (rfl) ?_
            refine wp_skip ?_
            refine then_normal ?_
            refine wp_seq (free_reg (B := T.tab22_6_b) (Vs := (.exact _ :: .exact (.bool false) :: .exact _ :: .exact _ :: .exact _ :: .exact (cellAt a (i * 136)) :: .exact (cellAt a (i * 136 + 1)) :: .exact (.int .i64 (l[i]).stamp) :: .exact _ :: .exact _ :: .exact (cellAt a (k * 136)) :: .exact (cellAt a (k * 136 + 1)) :: .exact (.int .i64 (l[k]).stamp) :: .exact (.bool false) :: .exact (.bool false) :: [])) T.tab22_6_i E T.mixed T.tab22_6 rfl (AllS.lasts ⟨trivial, trivial, trivial, trivial, trivial, trivial, trivial, trivial, trivial, trivial, trivial, trivial, trivial, trivial, trivial, trivial⟩) ⟨fs_val rfl rfl (fun x w hx hk => ⟨_, _, rfl, rfl, rfl, run_move rfl rfl, Ext.refl _, rfl⟩),
      fs_val rfl rfl (fun x w hx hk => ⟨_, _, rfl, rfl, rfl, tst rfl (decide_eq_false (by omega)), Ext.refl _, rfl⟩),
      fs_val rfl rfl (fun x w hx hk => ⟨_, _, rfl, rfl, rfl, run_move rfl rfl, Ext.refl _, rfl⟩),
      fs_val rfl rfl (fun x w hx hk => ⟨_, _, rfl, rfl, rfl, run_move rfl rfl, Ext.refl _, rfl⟩),
      fs_val rfl rfl (fun x w hx hk => ⟨_, _, rfl, rfl, rfl, run_move rfl rfl, Ext.refl _, rfl⟩),
      fs_val rfl rfl (fun x w hx hk => ⟨_, _, rfl, rfl, rfl, run_indexR (i := i) rfl (M.ext ((Ext.drew _).trans hx)).fact rfl rfl (rfl) (hi) T.slice42 T.size29, Ext.refl _, rfl⟩),
      fs_val rfl rfl (fun x w hx hk => ⟨_, _, rfl, rfl, rfl, run_fieldAddrR rfl (M.ext ((Ext.drew _).trans hx)).fact rfl T.fld29_1 (by omega), Ext.refl _, rfl⟩),
      fs_val rfl rfl (fun x w hx hk => ⟨_, _, rfl, rfl, rfl, run_loadR rfl (M.ext ((Ext.drew _).trans hx)).fact rfl T.one3 (rcs_stamp ho hi), Ext.refl _, rfl⟩),
      fs_val rfl rfl (fun x w hx hk => ⟨_, _, rfl, rfl, rfl, run_move rfl rfl, Ext.refl _, rfl⟩),
      fs_val rfl rfl (fun x w hx hk => ⟨_, _, rfl, rfl, rfl, run_move rfl rfl, Ext.refl _, rfl⟩),
      fs_val rfl rfl (fun x w hx hk => ⟨_, _, rfl, rfl, rfl, run_indexR (i := k) rfl (M.ext ((Ext.drew _).trans hx)).fact rfl rfl (rfl) (hkl) T.slice42 T.size29, Ext.refl _, rfl⟩),
      fs_val rfl rfl (fun x w hx hk => ⟨_, _, rfl, rfl, rfl, run_fieldAddrR rfl (M.ext ((Ext.drew _).trans hx)).fact rfl T.fld29_1 (by omega), Ext.refl _, rfl⟩),
      fs_val rfl rfl (fun x w hx hk => ⟨_, _, rfl, rfl, rfl, run_loadR rfl (M.ext ((Ext.drew _).trans hx)).fact rfl T.one3 (rcs_stamp ho hkl), Ext.refl _, rfl⟩),
      fs_val rfl rfl (fun x w hx hk => ⟨_, _, rfl, rfl, rfl, tst rfl (decide_eq_false (by omega)), Ext.refl _, rfl⟩),
      fs_val rfl rfl (fun x w hx hk => ⟨_, _, rfl, rfl, rfl, rfl, Ext.refl _, rfl⟩), trivial⟩ ?_)
            intro x fr w hx hk E
            have M := M.ext hx
            refine then_normal ?_
            refine cond_false E rfl (rfl) ?_
            refine wp_skip ?_
            refine block_normal ?_
            refine then_normal ?_
            refine code_last ?_
            refine sv (v := _) E rfl rfl rfl rfl rfl (run_move rfl rfl) fun fr E => ?_
            refine sv (v := .int _ (((i + 1 : Nat) : Int))) E rfl rfl rfl rfl rfl (num rfl ((i64_id (by omega) (by omega)).trans (by omega))) fun fr E => ?_
            refine sv (v := _) E rfl rfl rfl rfl rfl (run_assign rfl rfl) fun fr E => ?_
            refine seq_nil ?_
            refine then_any ?_
            refine ⟨l.length - (i + 1), by omega, i + 1, _, rfl, by omega, BestAt.less hi hkl hch hq' h3, (((((Env.nil E).add E (t := 0) rfl).add E (t := 1) rfl).add E (t := 4) rfl).add E (t := 6) rfl).add E (t := 7) rfl, M⟩
    · obtain rfl : i = l.length := by omega
      unfold BestAt at hb
      rw [List.take_length] at hb
      rcases hb with ⟨rfl, hch⟩ | ⟨k, hkl, rfl, hch⟩
      · refine wp_seq ?_
        refine code_region ?_
        refine sv (v := _) E rfl rfl rfl rfl rfl (run_move rfl rfl) fun fr E => ?_
        refine sv (v := _) E rfl rfl rfl rfl rfl (run_move rfl rfl) fun fr E => ?_
        refine sv (v := .int .i64 _) E rfl rfl rfl rfl rfl (run_lenR rfl rfl rfl rfl T.slice42 M.fact) fun fr E => ?_
        refine sv (v := .bool false) E rfl rfl rfl rfl rfl (tst rfl (decide_eq_false (by omega))) fun fr E => ?_
        refine seq_nil' ?_
        refine cond_false E rfl (rfl) ?_
        refine wp_exit ?_
        refine then_exit ?_
        refine then_exit ?_
        refine block_exit ?_
        refine then_normal ?_
        refine wp_seq ?_
        refine code_region ?_
        refine sv (v := _) E rfl rfl rfl rfl rfl (run_move rfl rfl) fun fr E => ?_
        refine sv (v := .bool true) E rfl rfl rfl rfl rfl (tst rfl (rfl)) fun fr E => ?_
        refine seq_nil' ?_
        refine cond_true E rfl (rfl) ?_
        refine code_region ?_
        refine sv (v := .agg (Rec.zero.cells).toArray) E rfl rfl rfl rfl rfl (run_buildP (vs := []) (us := Rec.zero.cells) rfl rfl T.ts29 T.zeroL29 (rfl) rfl rfl (rfl)) fun fr E => ?_
        refine sset (i := 0) (cs' := Rec.zero.cells.toArray) E M rfl rfl rfl rfl rfl (run_storeAll (vs := Rec.zero.cells.toArray) rfl rfl rfl T.size29 (Rec.size Rec.zero_ok) (M.row (i := 0) rfl) (Rec.size Rec.zero_ok) (fun v hv => Rec.ones _ v hv)) rfl fun fr w M E => ?_
        refine sv (v := _) E rfl rfl rfl rfl rfl (run_assignC rfl) fun fr E => ?_
        refine seq_nil' ?_
        refine wp_ret ?_
        refine then_ret ?_
        refine retC2 E rfl rfl rfl T.agg29 (M.row (i := 0) rfl) (Rec.size Rec.zero_ok) ?_
        rw [hch]
        exact given M
      · refine wp_seq ?_
        refine code_region ?_
        refine sv (v := _) E rfl rfl rfl rfl rfl (run_move rfl rfl) fun fr E => ?_
        refine sv (v := _) E rfl rfl rfl rfl rfl (run_move rfl rfl) fun fr E => ?_
        refine sv (v := .int .i64 _) E rfl rfl rfl rfl rfl (run_lenR rfl rfl rfl rfl T.slice42 M.fact) fun fr E => ?_
        refine sv (v := .bool false) E rfl rfl rfl rfl rfl (tst rfl (decide_eq_false (by omega))) fun fr E => ?_
        refine seq_nil' ?_
        refine cond_false E rfl (rfl) ?_
        refine wp_exit ?_
        refine then_exit ?_
        refine then_exit ?_
        refine block_exit ?_
        refine then_normal ?_
        refine wp_seq ?_
        refine code_region ?_
        refine sv (v := _) E rfl rfl rfl rfl rfl (run_move rfl rfl) fun fr E => ?_
        refine sv (v := .bool false) E rfl rfl rfl rfl rfl (tst rfl (decide_eq_false (by omega))) fun fr E => ?_
        refine seq_nil' ?_
        refine cond_false E rfl (rfl) ?_
        refine wp_skip ?_
        refine then_normal ?_
        refine code_region ?_
        refine sv (v := _) E rfl rfl rfl rfl rfl (run_move rfl rfl) fun fr E => ?_
        refine sv (v := _) E rfl rfl rfl rfl rfl (run_move rfl rfl) fun fr E => ?_
        refine sv (v := _) E rfl rfl rfl rfl rfl (run_indexR (i := k) rfl M.fact rfl rfl (rfl) (hkl) T.slice42 T.size29) fun fr E => ?_
        refine sv (v := .agg (l[k]).cells.toArray) E rfl rfl rfl rfl rfl (run_loadRN rfl M.fact rfl T.agg29 (by omega) (by omega) (rcs_get ho hkl)) fun fr E => ?_
        refine sset (i := 0) (cs' := (l[k]).cells.toArray) E M rfl rfl rfl rfl rfl (run_storeAll (vs := (l[k]).cells.toArray) rfl rfl rfl T.size29 (Rec.size (ho.get hkl)) (M.row (i := 0) rfl) (Rec.size Rec.zero_ok) (fun v hv => Rec.ones _ v hv)) rfl fun fr w M E => ?_
        refine sv (v := _) E rfl rfl rfl rfl rfl (run_assignC rfl) fun fr E => ?_
        refine seq_nil' ?_
        refine wp_ret ?_
        refine retC2 E rfl rfl rfl T.agg29 (M.row (i := 0) rfl) (Rec.size (ho.get hkl)) ?_
        rw [hch]
        exact given M
end Go.Proofs.Ytnojooafgehhaaa.K
end
section
namespace Go.Proofs.Ytnojooafgehhaaa.K
open Go.RowKit Go.Rill Go.Proofs
set_option linter.unusedVariables false
set_option linter.unusedSimpArgs false
theorem choice14_none {a : Value} {l : List Rec} {lv : Int} {w0 : World} (ha : Recs w0 a l) (ho : Oks l) (hs : ∀ r ∈ l, StampIn r) (hlv : -9223372036854775808 ≤ lv) (hz : l.length ≤ 300) (hc : choice lv l = none) : Gives Try.prog 22 [a, .int .i64 lv] w0 (.tuple #[Rec.zero.val, .bool false]) := by
  have := Choose14_x ha ho hs hlv hz
  rwa [hc] at this
theorem choice14_some {a : Value} {l : List Rec} {lv : Int} {w0 : World} {r : Rec} (ha : Recs w0 a l) (ho : Oks l) (hs : ∀ r ∈ l, StampIn r) (hlv : -9223372036854775808 ≤ lv) (hz : l.length ≤ 300) (hc : choice lv l = some r) : Gives Try.prog 22 [a, .int .i64 lv] w0 (.tuple #[r.val, .bool true]) := by
  have := Choose14_x ha ho hs hlv hz
  rwa [hc] at this
theorem pickR_mem (b : Rec) (l : List Rec) : pickR b l ∈ b :: l := by
  induction l generalizing b with
  | nil => simp [pickR]
  | cons r l ih =>
    have := ih (if b.stamp < r.stamp then r else b)
    show pickR (if b.stamp < r.stamp then r else b) l ∈ _
    rcases List.mem_cons.1 this with h | h
    · rw [h]; split <;> simp
    · simp [h]
theorem pickR_max (b : Rec) (l : List Rec) : ∀ x ∈ b :: l, x.stamp ≤ (pickR b l).stamp := by
  induction l generalizing b with
  | nil => intro x hx; simp at hx; subst hx; exact Int.le_refl _
  | cons r l ih =>
    intro x hx
    show x.stamp ≤ (pickR (if b.stamp < r.stamp then r else b) l).stamp
    have h0 := ih (if b.stamp < r.stamp then r else b)
    have h1 := h0 _ (List.mem_cons_self ..)
    have h2 : b.stamp ≤ (if b.stamp < r.stamp then r else b).stamp ∧ r.stamp ≤ (if b.stamp < r.stamp then r else b).stamp := by
      by_cases hc : b.stamp < r.stamp
      · rw [if_pos hc]; omega
      · rw [if_neg hc]; omega
    rcases List.mem_cons.1 hx with rfl | hx
    · exact Int.le_trans h2.1 h1
    · rcases List.mem_cons.1 hx with rfl | hx
      · exact Int.le_trans h2.2 h1
      · exact h0 x (List.mem_cons_of_mem _ hx)
theorem choice_eq {lv : Int} {l : List Rec} {r : Rec} (h : choice lv l = some r) : ∃ x k, (l.filter fun r => !late lv r) = x :: k ∧ r = pickR x (x :: k) := by
  unfold choice at h
  split at h
  · cases h
  · rename_i x k hk
    injection h with h
    exact ⟨x, k, hk, h.symm⟩
theorem choice_mem' {lv : Int} {l : List Rec} {r : Rec} (h : choice lv l = some r) : r ∈ (l.filter fun r => !late lv r) := by
  obtain ⟨x, k, hk, rfl⟩ := choice_eq h
  rw [hk]
  have := pickR_mem x (x :: k)
  rcases List.mem_cons.1 this with h | h
  · rw [h]; simp
  · exact h
theorem choice_mem {lv : Int} {l : List Rec} {r : Rec} (h : choice lv l = some r) : r ∈ l := (List.mem_filter.1 (choice_mem' h)).1
theorem choice_low {lv : Int} {l : List Rec} {r : Rec} (h : choice lv l = some r) : r.stamp ≤ lv + 1 := by
  have := (List.mem_filter.1 (choice_mem' h)).2
  simp only [late, Bool.not_eq_true', decide_eq_false_iff_not] at this
  omega
theorem choice_max {lv : Int} {l : List Rec} {r : Rec} (h : choice lv l = some r) : ∀ x ∈ l, x.stamp ≤ lv + 1 → x.stamp ≤ r.stamp := by
  intro y hy hs
  obtain ⟨x, k, hk, rfl⟩ := choice_eq h
  have hm : y ∈ (l.filter fun r => !late lv r) := List.mem_filter.2 ⟨hy, by simp only [late, Bool.not_eq_true', decide_eq_false_iff_not]; omega⟩
  rw [hk] at hm
  exact pickR_max x (x :: k) y (List.mem_cons_of_mem _ hm)
theorem choice_all {lv : Int} {l : List Rec} (h : choice lv l = none) : ∀ x ∈ l, lv + 1 < x.stamp := by
  intro x hx
  have hn := choice_none h
  rw [List.filter_eq_nil_iff] at hn
  have := hn x hx
  simpa [late] using this
set_option maxRecDepth 100000 in
theorem RegionChooses_long {a : Value} {l : List Rec} {lv : Int} {w0 : World} (ha : Recs w0 a l) (ho : Oks l) (hs : ∀ r ∈ l, StampIn r) (hlv : -9223372036854775808 ≤ lv) (hz : 300 < l.length) : Gives Try.prog 5 [a, .int .i64 lv] w0 (.bool true) := by
  refine enter (n := 47) Try.func5 rfl rfl rfl ?_
  intro fr E
  have M : Mem w0 (feet []) [] (fun w' => Recs w' a l) w0 := Mem.begin (Has.nil w0) (fun w' h => ha.held0 h)
  refine code_region ?_
  refine sv (v := _) E rfl rfl rfl rfl rfl (run_assignC rfl) fun fr E => ?_
  refine seq_nil' ?_
  refine wp_seq ?_
  refine code_region ?_
  refine sv (v := _) E rfl rfl rfl rfl rfl (run_move rfl rfl) fun fr E => ?_
  refine sv (v := .int .i64 _) E rfl rfl rfl rfl rfl (run_lenR rfl rfl rfl rfl T.slice42 M.fact) fun fr E => ?_
  refine sv (v := .bool true) E rfl rfl rfl rfl rfl (tst rfl (decide_eq_true (by omega))) fun fr E => ?_
  refine seq_nil' ?_
  refine cond_true E rfl (rfl) ?_
  refine code_region ?_
  refine sgive E M rfl rfl rfl rfl rfl (run_call rfl rfl T.fn15) (works_x _) fun fr w M E => ?_
  refine sv (v := _) E rfl rfl rfl rfl rfl (run_assign rfl rfl) fun fr E => ?_
  refine seq_nil' ?_
  refine wp_ret ?_
  refine then_ret ?_
  refine ret1 E rfl rfl ?_
  exact given M

set_option maxRecDepth 100000 in
theorem RegionChooses_none {a : Value} {l : List Rec} {lv : Int} {w0 : World} (ha : Recs w0 a l) (ho : Oks l) (hs : ∀ r ∈ l, StampIn r) (hlv : -9223372036854775808 ≤ lv) (hz : l.length ≤ 300) (hc : choice lv l = none) : Gives Try.prog 5 [a, .int .i64 lv] w0 (.bool true) := by
  refine enter (n := 47) Try.func5 rfl rfl rfl ?_
  intro fr E
  have M : Mem w0 (feet []) [] (fun w' => Recs w' a l) w0 := Mem.begin (Has.nil w0) (fun w' h => ha.held0 h)
  refine code_region ?_
  refine sv (v := _) E rfl rfl rfl rfl rfl (run_assignC rfl) fun fr E => ?_
  refine seq_nil' ?_
  refine wp_seq ?_
  refine code_region ?_
  refine sv (v := _) E rfl rfl rfl rfl rfl (run_move rfl rfl) fun fr E => ?_
  refine sv (v := .int .i64 _) E rfl rfl rfl rfl rfl (run_lenR rfl rfl rfl rfl T.slice42 M.fact) fun fr E => ?_
  refine sv (v := .bool false) E rfl rfl rfl rfl rfl (tst rfl (decide_eq_false (by omega))) fun fr E => ?_
  refine seq_nil' ?_
  refine cond_false E rfl (rfl) ?_
  refine wp_skip ?_
  refine then_normal ?_
  refine code_region ?_
  refine sv (v := _) E rfl rfl rfl rfl rfl (run_move rfl rfl) fun fr E => ?_
  refine scall E M rfl rfl rfl rfl rfl (run_call rfl rfl T.fn20) (LentRecords_x M.fact ho hz) rfl ?_
  rintro o fr w - M E
  refine sv (v := _) E rfl rfl rfl rfl rfl (run_assign rfl rfl) fun fr E => ?_
  refine seq_nil' ?_
  refine code_region ?_
  refine sv (v := _) E rfl rfl rfl rfl rfl (run_move rfl rfl) fun fr E => ?_
  refine sv (v := _) E rfl rfl rfl rfl rfl (run_move rfl rfl) fun fr E => ?_
  refine sv (v := .int .i64 _) E rfl rfl rfl rfl rfl (run_lenR rfl rfl rfl rfl T.slice42 M.fact) fun fr E => ?_
  refine sv (v := _) E rfl rfl rfl rfl rfl (run_sliceR (lo := 0) (hi := l.length) rfl (M.reads 0 rfl) rfl T.slice42 T.size29 (rfl) (⟨_, _, rfl, rfl⟩) (Nat.zero_le _) (by simp)) fun fr E => ?_
  refine sv (v := _) E rfl rfl rfl rfl rfl (run_move rfl rfl) fun fr E => ?_
  refine sgive E M rfl rfl rfl rfl rfl (run_call rfl rfl T.fn21) (Choose_none (l := l) (Recs.as (Recs.pre (M.reads 0 rfl) (oks_lent ho) (k := l.length) (by simp)) (List.take_left' rfl)) ho hs hlv hz hc) fun fr w M E => ?_
  refine sv (v := _) E rfl rfl rfl rfl rfl (run_move rfl rfl) fun fr E => ?_
  refine sv (v := _) E rfl rfl rfl rfl rfl (run_extract rfl rfl rfl) fun fr E => ?_
  refine sv (v := _) E rfl rfl rfl rfl rfl (run_extract rfl rfl rfl) fun fr E => ?_
  refine snew (ob := .cells _ 29) (fun g => .pointer (some ⟨g, 0, none⟩)) E M rfl rfl rfl rfl rfl (run_allocN rfl T.zero29) fun g0 fr w M E => ?_
  refine sset (i := 0) (cs' := Rec.zero.cells.toArray) E M rfl rfl rfl rfl rfl (run_storeAll (vs := Rec.zero.cells.toArray) rfl rfl rfl T.size29 (Rec.size Rec.zero_ok) (M.row (i := 0) rfl) rfl (fun v hv => Rec.ones _ v hv)) rfl fun fr w M E => ?_
  refine sv (v := _) E rfl rfl rfl rfl rfl (run_assign rfl rfl) fun fr E => ?_
  refine seq_nil' ?_
  refine code_region ?_
  refine sv (v := _) E rfl rfl rfl rfl rfl (run_move rfl rfl) fun fr E => ?_
  refine sv (v := _) E rfl rfl rfl rfl rfl (run_move rfl rfl) fun fr E => ?_
  refine sgive E M rfl rfl rfl rfl rfl (run_call rfl rfl T.fn22) ((choice14_none M.fact ho hs hlv hz hc)) fun fr w M E => ?_
  refine sv (v := _) E rfl rfl rfl rfl rfl (run_move rfl rfl) fun fr E => ?_
  refine sv (v := _) E rfl rfl rfl rfl rfl (run_extract rfl rfl rfl) fun fr E => ?_
  refine sv (v := _) E rfl rfl rfl rfl rfl (run_extract rfl rfl rfl) fun fr E => ?_
  refine snew (ob := .cells _ 29) (fun g => .pointer (some ⟨g, 0, none⟩)) E M rfl rfl rfl rfl rfl (run_allocN rfl T.zero29) fun g1 fr w M E => ?_
  refine sset (i := 0) (cs' := Rec.zero.cells.toArray) E M rfl rfl rfl rfl rfl (run_storeAll (vs := Rec.zero.cells.toArray) rfl rfl rfl T.size29 (Rec.size Rec.zero_ok) (M.row (i := 0) rfl) rfl (fun v hv => Rec.ones _ v hv)) rfl fun fr w M E => ?_
  refine sv (v := _) E rfl rfl rfl rfl rfl (run_assign rfl rfl) fun fr E => ?_
  refine seq_nil' ?_
  refine code_region ?_
  refine sv (v := _) E rfl rfl rfl rfl rfl (run_move rfl rfl) fun fr E => ?_
  refine sv (v := _) E rfl rfl rfl rfl rfl (run_move rfl rfl) fun fr E => ?_
  refine sv (v := .bool true) E rfl rfl rfl rfl rfl (run_eqBool (b := true) rfl T.boolT rfl rfl rfl) fun fr E => ?_
  refine sv (v := _) E rfl rfl rfl rfl rfl (run_move rfl rfl) fun fr E => ?_
  refine sv (v := .agg Rec.zero.cells.toArray) E rfl rfl rfl rfl rfl (run_loadAll rfl rfl T.agg29 (M.row (i := 1) rfl) (Rec.size Rec.zero_ok)) fun fr E => ?_
  refine sv (v := .agg Rec.zero.cells.toArray) E rfl rfl rfl rfl rfl (run_loadAll rfl rfl T.agg29 (M.row (i := 0) rfl) (Rec.size Rec.zero_ok)) fun fr E => ?_
  refine sv (v := .bool true) E rfl rfl rfl rfl rfl (run_eqF (b := true) (xs := Rec.zero.cells) (ys := Rec.zero.cells) rfl rfl rfl T.flat29 (Rec.fit Rec.zero_ok) (Rec.fit Rec.zero_ok) (by simp)) fun fr E => ?_
  refine sv (v := .bool _) E rfl rfl rfl rfl rfl (rfl) fun fr E => ?_
  refine sv (v := _) E rfl rfl rfl rfl rfl (run_move rfl rfl) fun fr E => ?_
  refine sv (v := _) E rfl rfl rfl rfl rfl (run_move rfl rfl) fun fr E => ?_
  refine sv (v := _) E rfl rfl rfl rfl rfl (run_move rfl rfl) fun fr E => ?_
  refine sgive E M rfl rfl rfl rfl rfl (run_call rfl rfl T.fn23) (KeptRecords_x (M.reads 2 rfl) M.fact ho hz) fun fr w M E => ?_
  refine sv (v := .bool _) E rfl rfl rfl rfl rfl (rfl) fun fr E => ?_
  refine sv (v := _) E rfl rfl rfl rfl rfl (run_move rfl rfl) fun fr E => ?_
  refine sgive E M rfl rfl rfl rfl rfl (run_call rfl rfl T.fn15) (works_x _) fun fr w M E => ?_
  refine sv (v := .bool _) E rfl rfl rfl rfl rfl (rfl) fun fr E => ?_
  refine sv (v := _) E rfl rfl rfl rfl rfl (run_assign rfl rfl) fun fr E => ?_
  refine seq_nil' ?_
  refine wp_ret ?_
  refine ret1 E rfl rfl ?_
  exact given M

set_option maxRecDepth 100000 in
theorem RegionChooses_some {a : Value} {l : List Rec} {lv : Int} {w0 : World} (ha : Recs w0 a l) (ho : Oks l) (hs : ∀ r ∈ l, StampIn r) (hlv : -9223372036854775808 ≤ lv) (hz : l.length ≤ 300) {r : Rec} (hr : r.Ok) (hc : choice lv l = some r) : Gives Try.prog 5 [a, .int .i64 lv] w0 (.bool true) := by
  refine enter (n := 47) Try.func5 rfl rfl rfl ?_
  intro fr E
  have M : Mem w0 (feet []) [] (fun w' => Recs w' a l) w0 := Mem.begin (Has.nil w0) (fun w' h => ha.held0 h)
  refine code_region ?_
  refine sv (v := _) E rfl rfl rfl rfl rfl (run_assignC rfl) fun fr E => ?_
  refine seq_nil' ?_
  refine wp_seq ?_
  refine code_region ?_
  refine sv (v := _) E rfl rfl rfl rfl rfl (run_move rfl rfl) fun fr E => ?_
  refine sv (v := .int .i64 _) E rfl rfl rfl rfl rfl (run_lenR rfl rfl rfl rfl T.slice42 M.fact) fun fr E => ?_
  refine sv (v := .bool false) E rfl rfl rfl rfl rfl (tst rfl (decide_eq_false (by omega))) fun fr E => ?_
  refine seq_nil' ?_
  refine cond_false E rfl (rfl) ?_
  refine wp_skip ?_
  refine then_normal ?_
  refine code_region ?_
  refine sv (v := _) E rfl rfl rfl rfl rfl (run_move rfl rfl) fun fr E => ?_
  refine scall E M rfl rfl rfl rfl rfl (run_call rfl rfl T.fn20) (LentRecords_x M.fact ho hz) rfl ?_
  rintro o fr w - M E
  refine sv (v := _) E rfl rfl rfl rfl rfl (run_assign rfl rfl) fun fr E => ?_
  refine seq_nil' ?_
  refine code_region ?_
  refine sv (v := _) E rfl rfl rfl rfl rfl (run_move rfl rfl) fun fr E => ?_
  refine sv (v := _) E rfl rfl rfl rfl rfl (run_move rfl rfl) fun fr E => ?_
  refine sv (v := .int .i64 _) E rfl rfl rfl rfl rfl (run_lenR rfl rfl rfl rfl T.slice42 M.fact) fun fr E => ?_
  refine sv (v := _) E rfl rfl rfl rfl rfl (run_sliceR (lo := 0) (hi := l.length) rfl (M.reads 0 rfl) rfl T.slice42 T.size29 (rfl) (⟨_, _, rfl, rfl⟩) (Nat.zero_le _) (by simp)) fun fr E => ?_
  refine sv (v := _) E rfl rfl rfl rfl rfl (run_move rfl rfl) fun fr E => ?_
  refine sgive E M rfl rfl rfl rfl rfl (run_call rfl rfl T.fn21) (Choose_some (l := l) (Recs.as (Recs.pre (M.reads 0 rfl) (oks_lent ho) (k := l.length) (by simp)) (List.take_left' rfl)) ho hs hlv hz hc) fun fr w M E => ?_
  refine sv (v := _) E rfl rfl rfl rfl rfl (run_move rfl rfl) fun fr E => ?_
  refine sv (v := _) E rfl rfl rfl rfl rfl (run_extract rfl rfl rfl) fun fr E => ?_
  refine sv (v := _) E rfl rfl rfl rfl rfl (run_extract rfl rfl rfl) fun fr E => ?_
  refine snew (ob := .cells _ 29) (fun g => .pointer (some ⟨g, 0, none⟩)) E M rfl rfl rfl rfl rfl (run_allocN rfl T.zero29) fun g0 fr w M E => ?_
  refine sset (i := 0) (cs' := r.cells.toArray) E M rfl rfl rfl rfl rfl (run_storeAll (vs := r.cells.toArray) rfl rfl rfl T.size29 (Rec.size hr) (M.row (i := 0) rfl) rfl (fun v hv => Rec.ones _ v hv)) rfl fun fr w M E => ?_
  refine sv (v := _) E rfl rfl rfl rfl rfl (run_assign rfl rfl) fun fr E => ?_
  refine seq_nil' ?_
  refine code_region ?_
  refine sv (v := _) E rfl rfl rfl rfl rfl (run_move rfl rfl) fun fr E => ?_
  refine sv (v := _) E rfl rfl rfl rfl rfl (run_move rfl rfl) fun fr E => ?_
  refine sgive E M rfl rfl rfl rfl rfl (run_call rfl rfl T.fn22) ((choice14_some M.fact ho hs hlv hz hc)) fun fr w M E => ?_
  refine sv (v := _) E rfl rfl rfl rfl rfl (run_move rfl rfl) fun fr E => ?_
  refine sv (v := _) E rfl rfl rfl rfl rfl (run_extract rfl rfl rfl) fun fr E => ?_
  refine sv (v := _) E rfl rfl rfl rfl rfl (run_extract rfl rfl rfl) fun fr E => ?_
  refine snew (ob := .cells _ 29) (fun g => .pointer (some ⟨g, 0, none⟩)) E M rfl rfl rfl rfl rfl (run_allocN rfl T.zero29) fun g1 fr w M E => ?_
  refine sset (i := 0) (cs' := r.cells.toArray) E M rfl rfl rfl rfl rfl (run_storeAll (vs := r.cells.toArray) rfl rfl rfl T.size29 (Rec.size hr) (M.row (i := 0) rfl) rfl (fun v hv => Rec.ones _ v hv)) rfl fun fr w M E => ?_
  refine sv (v := _) E rfl rfl rfl rfl rfl (run_assign rfl rfl) fun fr E => ?_
  refine seq_nil' ?_
  refine code_region ?_
  refine sv (v := _) E rfl rfl rfl rfl rfl (run_move rfl rfl) fun fr E => ?_
  refine sv (v := _) E rfl rfl rfl rfl rfl (run_move rfl rfl) fun fr E => ?_
  refine sv (v := .bool true) E rfl rfl rfl rfl rfl (run_eqBool (b := true) rfl T.boolT rfl rfl rfl) fun fr E => ?_
  refine sv (v := _) E rfl rfl rfl rfl rfl (run_move rfl rfl) fun fr E => ?_
  refine sv (v := .agg r.cells.toArray) E rfl rfl rfl rfl rfl (run_loadAll rfl rfl T.agg29 (M.row (i := 1) rfl) (Rec.size hr)) fun fr E => ?_
  refine sv (v := .agg r.cells.toArray) E rfl rfl rfl rfl rfl (run_loadAll rfl rfl T.agg29 (M.row (i := 0) rfl) (Rec.size hr)) fun fr E => ?_
  refine sv (v := .bool true) E rfl rfl rfl rfl rfl (run_eqF (b := true) (xs := r.cells) (ys := r.cells) rfl rfl rfl T.flat29 (Rec.fit hr) (Rec.fit hr) (by simp)) fun fr E => ?_
  refine sv (v := .bool _) E rfl rfl rfl rfl rfl (rfl) fun fr E => ?_
  refine sv (v := _) E rfl rfl rfl rfl rfl (run_move rfl rfl) fun fr E => ?_
  refine sv (v := _) E rfl rfl rfl rfl rfl (run_move rfl rfl) fun fr E => ?_
  refine sv (v := _) E rfl rfl rfl rfl rfl (run_move rfl rfl) fun fr E => ?_
  refine sgive E M rfl rfl rfl rfl rfl (run_call rfl rfl T.fn23) (KeptRecords_x (M.reads 2 rfl) M.fact ho hz) fun fr w M E => ?_
  refine sv (v := .bool _) E rfl rfl rfl rfl rfl (rfl) fun fr E => ?_
  refine sv (v := _) E rfl rfl rfl rfl rfl (run_move rfl rfl) fun fr E => ?_
  refine sgive E M rfl rfl rfl rfl rfl (run_call rfl rfl T.fn15) (works_x _) fun fr w M E => ?_
  refine sv (v := .bool _) E rfl rfl rfl rfl rfl (rfl) fun fr E => ?_
  refine sv (v := _) E rfl rfl rfl rfl rfl (run_assign rfl rfl) fun fr E => ?_
  refine seq_nil' ?_
  refine wp_ret ?_
  refine ret1 E rfl rfl ?_
  exact given M

theorem RegionChooses_x {a : Value} {l : List Rec} {lv : Int} {w0 : World} (ha : Recs w0 a l) (ho : Oks l) (hs : ∀ r ∈ l, StampIn r) (hlv : -9223372036854775808 ≤ lv) : Gives Try.prog 5 [a, .int .i64 lv] w0 (.bool true) := by
  by_cases hz : l.length ≤ 300
  · cases hc : choice lv l with
    | none => exact RegionChooses_none ha ho hs hlv hz hc
    | some r => exact RegionChooses_some ha ho hs hlv hz (ho _ (choice_mem hc)) hc
  · exact RegionChooses_long ha ho hs hlv (by omega)

set_option maxRecDepth 100000 in
theorem RegionBest_long {a : Value} {l : List Rec} {lv : Int} {w0 : World} (ha : Recs w0 a l) (ho : Oks l) (hs : ∀ r ∈ l, StampIn r) (hlv : -9223372036854775808 ≤ lv) (hz : 300 < l.length) : Gives Try.prog 8 [a, .int .i64 lv] w0 (.bool true) := by
  refine enter (n := 69) Try.func8 rfl rfl rfl ?_
  intro fr E
  have M : Mem w0 (feet []) [] (fun w' => Recs w' a l) w0 := Mem.begin (Has.nil w0) (fun w' h => ha.held0 h)
  refine code_region ?_
  refine sv (v := _) E rfl rfl rfl rfl rfl (run_assignC rfl) fun fr E => ?_
  refine seq_nil' ?_
  refine wp_seq ?_
  refine code_region ?_
  refine sv (v := _) E rfl rfl rfl rfl rfl (run_move rfl rfl) fun fr E => ?_
  refine sv (v := .int .i64 _) E rfl rfl rfl rfl rfl (run_lenR rfl rfl rfl rfl T.slice42 M.fact) fun fr E => ?_
  refine sv (v := .bool true) E rfl rfl rfl rfl rfl (tst rfl (decide_eq_true (by omega))) fun fr E => ?_
  refine sv (v := _) E rfl rfl rfl rfl rfl (run_move rfl rfl) fun fr E => ?_
  refine sno E rfl rfl rfl rfl fun fr E => ?_
  refine sno E rfl rfl rfl rfl fun fr E => ?_
  refine sv (v := .bool _) E rfl rfl rfl rfl rfl (rfl) fun fr E => ?_
  refine sv (v := _) E rfl rfl rfl rfl rfl (run_move rfl rfl) fun fr E => ?_
  refine sno E rfl rfl rfl rfl fun fr E => ?_
  refine sno E rfl rfl rfl rfl fun fr E => ?_
  refine sv (v := .bool _) E rfl rfl rfl rfl rfl (rfl) fun fr E => ?_
  refine seq_nil' ?_
  refine cond_true E rfl (rfl) ?_
  refine code_region ?_
  refine sgive E M rfl rfl rfl rfl rfl (run_call rfl rfl T.fn15) (works_x _) fun fr w M E => ?_
  refine sv (v := _) E rfl rfl rfl rfl rfl (run_assign rfl rfl) fun fr E => ?_
  refine seq_nil' ?_
  refine wp_ret ?_
  refine then_ret ?_
  refine ret1 E rfl rfl ?_
  exact given M

set_option maxRecDepth 100000 in
theorem RegionBest_neg {a : Value} {l : List Rec} {lv : Int} {w0 : World} (ha : Recs w0 a l) (ho : Oks l) (hs : ∀ r ∈ l, StampIn r) (hlv : -9223372036854775808 ≤ lv) (hz : l.length ≤ 300) (h1 : lv < 0) : Gives Try.prog 8 [a, .int .i64 lv] w0 (.bool true) := by
  refine enter (n := 69) Try.func8 rfl rfl rfl ?_
  intro fr E
  have M : Mem w0 (feet []) [] (fun w' => Recs w' a l) w0 := Mem.begin (Has.nil w0) (fun w' h => ha.held0 h)
  refine code_region ?_
  refine sv (v := _) E rfl rfl rfl rfl rfl (run_assignC rfl) fun fr E => ?_
  refine seq_nil' ?_
  refine wp_seq ?_
  refine code_region ?_
  refine sv (v := _) E rfl rfl rfl rfl rfl (run_move rfl rfl) fun fr E => ?_
  refine sv (v := .int .i64 _) E rfl rfl rfl rfl rfl (run_lenR rfl rfl rfl rfl T.slice42 M.fact) fun fr E => ?_
  refine sv (v := .bool false) E rfl rfl rfl rfl rfl (tst rfl (decide_eq_false (by omega))) fun fr E => ?_
  refine sv (v := _) E rfl rfl rfl rfl rfl (run_move rfl rfl) fun fr E => ?_
  refine sv (v := _) E rfl rfl rfl rfl rfl (run_move rfl rfl) fun fr E => ?_
  refine sv (v := .bool true) E rfl rfl rfl rfl rfl (tst rfl (decide_eq_true (by omega))) fun fr E => ?_
  refine sv (v := .bool _) E rfl rfl rfl rfl rfl (rfl) fun fr E => ?_
  refine sv (v := _) E rfl rfl rfl rfl rfl (run_move rfl rfl) fun fr E => ?_
  refine sno E rfl rfl rfl rfl fun fr E => ?_
  refine sno E rfl rfl rfl rfl fun fr E => ?_
  refine sv (v := .bool _) E rfl rfl rfl rfl rfl (rfl) fun fr E => ?_
  refine seq_nil' ?_
  refine cond_true E rfl (rfl) ?_
  refine code_region ?_
  refine sgive E M rfl rfl rfl rfl rfl (run_call rfl rfl T.fn15) (works_x _) fun fr w M E => ?_
  refine sv (v := _) E rfl rfl rfl rfl rfl (run_assign rfl rfl) fun fr E => ?_
  refine seq_nil' ?_
  refine wp_ret ?_
  refine then_ret ?_
  refine ret1 E rfl rfl ?_
  exact given M

set_option maxRecDepth 100000 in
theorem RegionBest_big {a : Value} {l : List Rec} {lv : Int} {w0 : World} (ha : Recs w0 a l) (ho : Oks l) (hs : ∀ r ∈ l, StampIn r) (hlv : -9223372036854775808 ≤ lv) (hz : l.length ≤ 300) (h1 : ¬ lv < 0) (h2 : 1099511627776 < lv) : Gives Try.prog 8 [a, .int .i64 lv] w0 (.bool true) := by
  refine enter (n := 69) Try.func8 rfl rfl rfl ?_
  intro fr E
  have M : Mem w0 (feet []) [] (fun w' => Recs w' a l) w0 := Mem.begin (Has.nil w0) (fun w' h => ha.held0 h)
  refine code_region ?_
  refine sv (v := _) E rfl rfl rfl rfl rfl (run_assignC rfl) fun fr E => ?_
  refine seq_nil' ?_
  refine wp_seq ?_
  refine code_region ?_
  refine sv (v := _) E rfl rfl rfl rfl rfl (run_move rfl rfl) fun fr E => ?_
  refine sv (v := .int .i64 _) E rfl rfl rfl rfl rfl (run_lenR rfl rfl rfl rfl T.slice42 M.fact) fun fr E => ?_
  refine sv (v := .bool false) E rfl rfl rfl rfl rfl (tst rfl (decide_eq_false (by omega))) fun fr E => ?_
  refine sv (v := _) E rfl rfl rfl rfl rfl (run_move rfl rfl) fun fr E => ?_
  refine sv (v := _) E rfl rfl rfl rfl rfl (run_move rfl rfl) fun fr E => ?_
  refine sv (v := .bool false) E rfl rfl rfl rfl rfl (tst rfl (decide_eq_false (by omega))) fun fr E => ?_
  refine sv (v := .bool _) E rfl rfl rfl rfl rfl (rfl) fun fr E => ?_
  refine sv (v := _) E rfl rfl rfl rfl rfl (run_move rfl rfl) fun fr E => ?_
  refine sv (v := _) E rfl rfl rfl rfl rfl (run_move rfl rfl) fun fr E => ?_
  refine sv (v := .bool true) E rfl rfl rfl rfl rfl (tst rfl (decide_eq_true (by omega))) fun fr E => ?_
  refine sv (v := .bool _) E rfl rfl rfl rfl rfl (rfl) fun fr E => ?_
  refine seq_nil' ?_
  refine cond_true E rfl (rfl) ?_
  refine code_region ?_
  refine sgive E M rfl rfl rfl rfl rfl (run_call rfl rfl T.fn15) (works_x _) fun fr w M E => ?_
  refine sv (v := _) E rfl rfl rfl rfl rfl (run_assign rfl rfl) fun fr E => ?_
  refine seq_nil' ?_
  refine wp_ret ?_
  refine then_ret ?_
  refine ret1 E rfl rfl ?_
  exact given M

set_option maxRecDepth 100000 in
theorem RegionBest_none {a : Value} {l : List Rec} {lv : Int} {w0 : World} (ha : Recs w0 a l) (ho : Oks l) (hs : ∀ r ∈ l, StampIn r) (hlv : -9223372036854775808 ≤ lv) (hz : l.length ≤ 300) (h1 : ¬ lv < 0) (h2 : ¬ 1099511627776 < lv) (hc : choice lv l = none) : Gives Try.prog 8 [a, .int .i64 lv] w0 (.bool true) := by
  refine enter (n := 69) Try.func8 rfl rfl rfl ?_
  intro fr E
  have M : Mem w0 (feet []) [] (fun w' => Recs w' a l) w0 := Mem.begin (Has.nil w0) (fun w' h => ha.held0 h)
  refine code_region ?_
  refine sv (v := _) E rfl rfl rfl rfl rfl (run_assignC rfl) fun fr E => ?_
  refine seq_nil' ?_
  refine wp_seq ?_
  refine code_region ?_
  refine sv (v := _) E rfl rfl rfl rfl rfl (run_move rfl rfl) fun fr E => ?_
  refine sv (v := .int .i64 _) E rfl rfl rfl rfl rfl (run_lenR rfl rfl rfl rfl T.slice42 M.fact) fun fr E => ?_
  refine sv (v := .bool false) E rfl rfl rfl rfl rfl (tst rfl (decide_eq_false (by omega))) fun fr E => ?_
  refine sv (v := _) E rfl rfl rfl rfl rfl (run_move rfl rfl) fun fr E => ?_
  refine sv (v := _) E rfl rfl rfl rfl rfl (run_move rfl rfl) fun fr E => ?_
  refine sv (v := .bool false) E rfl rfl rfl rfl rfl (tst rfl (decide_eq_false (by omega))) fun fr E => ?_
  refine sv (v := .bool _) E rfl rfl rfl rfl rfl (rfl) fun fr E => ?_
  refine sv (v := _) E rfl rfl rfl rfl rfl (run_move rfl rfl) fun fr E => ?_
  refine sv (v := _) E rfl rfl rfl rfl rfl (run_move rfl rfl) fun fr E => ?_
  refine sv (v := .bool false) E rfl rfl rfl rfl rfl (tst rfl (decide_eq_false (by omega))) fun fr E => ?_
  refine sv (v := .bool _) E rfl rfl rfl rfl rfl (rfl) fun fr E => ?_
  refine seq_nil' ?_
  refine cond_false E rfl (rfl) ?_
  refine wp_skip ?_
  refine then_normal ?_
  refine code_region ?_
  refine sv (v := _) E rfl rfl rfl rfl rfl (run_move rfl rfl) fun fr E => ?_
  refine sv (v := _) E rfl rfl rfl rfl rfl (run_move rfl rfl) fun fr E => ?_
  refine sgive E M rfl rfl rfl rfl rfl (run_call rfl rfl T.fn21) (Choose_none M.fact ho hs hlv hz hc) fun fr w M E => ?_
  refine sv (v := _) E rfl rfl rfl rfl rfl (run_move rfl rfl) fun fr E => ?_
  refine sv (v := _) E rfl rfl rfl rfl rfl (run_extract rfl rfl rfl) fun fr E => ?_
  refine sv (v := _) E rfl rfl rfl rfl rfl (run_extract rfl rfl rfl) fun fr E => ?_
  refine snew (ob := .cells _ 29) (fun g => .pointer (some ⟨g, 0, none⟩)) E M rfl rfl rfl rfl rfl (run_allocN rfl T.zero29) fun g0 fr w M E => ?_
  refine sset (i := 0) (cs' := Rec.zero.cells.toArray) E M rfl rfl rfl rfl rfl (run_storeAll (vs := Rec.zero.cells.toArray) rfl rfl rfl T.size29 (Rec.size Rec.zero_ok) (M.row (i := 0) rfl) rfl (fun v hv => Rec.ones _ v hv)) rfl fun fr w M E => ?_
  refine sv (v := _) E rfl rfl rfl rfl rfl (run_assign rfl rfl) fun fr E => ?_
  refine seq_nil' ?_
  refine wp_seq ?_
  refine code_region ?_
  refine sv (v := _) E rfl rfl rfl rfl rfl (run_move rfl rfl) fun fr E => ?_
  refine sv (v := _) E rfl rfl rfl rfl rfl (run_move rfl rfl) fun fr E => ?_
  refine sno E rfl rfl rfl rfl fun fr E => ?_
  refine sno E rfl rfl rfl rfl fun fr E => ?_
  refine sno E rfl rfl rfl rfl fun fr E => ?_
  refine sno E rfl rfl rfl rfl fun fr E => ?_
  refine sno E rfl rfl rfl rfl fun fr E => ?_
  refine sno E rfl rfl rfl rfl fun fr E => ?_
  refine sno E rfl rfl rfl rfl fun fr E => ?_
  refine sno E rfl rfl rfl rfl fun fr E => ?_
  refine sno E rfl rfl rfl rfl fun fr E => ?_
  refine sno E rfl rfl rfl rfl fun fr E => ?_
  refine sno E rfl rfl rfl rfl fun fr E => ?_
  refine sv (v := .bool _) E rfl rfl rfl rfl rfl (rfl) fun fr E => ?_
  refine seq_nil' ?_
  refine cond_false E rfl (rfl) ?_
  refine wp_skip ?_
  refine then_normal ?_
  refine wp_seq ?_
  refine code_region ?_
  refine sv (v := _) E rfl rfl rfl rfl rfl (run_assignC rfl) fun fr E => ?_
  refine seq_nil' ?_
  refine wp_block ?_
  refine loop_dec (fun d fr w => ∃ i : Nat, d = l.length - i ∧ i ≤ l.length ∧ Env [(7, .int .i64 i), (6, .bool false), (5, .pointer (some ⟨g0, 0, none⟩)), (1, .int .i64 lv), (0, a)] 69 fr ∧ Mem w0 (feet []) [.blk g0 (.cells Rec.zero.cells.toArray 29)] (fun w' => Recs w' a l) w) (l.length) ?_ ?_
  · refine ⟨0, rfl, Nat.zero_le _, (((((Env.nil E).add E (t := 0) rfl).add E (t := 1) rfl).add E (t := 5) rfl).add E (t := 6) rfl).add E (t := 7) rfl, M⟩
  · clear E M
    rintro d fr w ⟨i, rfl, hle, E, M⟩
    by_cases hi : i < l.length
    · have hq : ¬ (l[i]).stamp ≤ lv + 1 := by have := choice_all hc _ (List.getElem_mem hi); omega
      refine wp_seq ?_
      refine code_region ?_
      refine sv (v := _) E rfl rfl rfl rfl rfl (run_move rfl rfl) fun fr E => ?_
      refine sv (v := _) E rfl rfl rfl rfl rfl (run_move rfl rfl) fun fr E => ?_
      refine sv (v := .int .i64 _) E rfl rfl rfl rfl rfl (run_lenR rfl rfl rfl rfl T.slice42 M.fact) fun fr E => ?_
      refine sv (v := .bool true) E rfl rfl rfl rfl rfl (tst rfl (decide_eq_true (by omega))) fun fr E => ?_
      refine seq_nil' ?_
      refine cond_true E rfl (rfl) ?_
      refine wp_skip ?_
      refine then_normal ?_
      refine wp_seq ?_
      refine wp_block ?_
      refine wp_seq (free_reg (B := T.tab8_9_b) (Vs := (.exact _ :: .exact _ :: .exact (cellAt a (i * 136)) :: .exact (cellAt a (i * 136 + 1)) :: .exact (.int .i64 (l[i]).stamp) :: .exact _ :: .exact (.int _ (lv + 1)) :: .exact (.bool false) :: .exact _ :: .exact undef :: .exact undef :: .exact undef :: .exact undef :: .exact undef :: .exact undef :: .exact undef :: .exact undef :: .exact undef :: .exact undef :: .exact undef :: .exact undef :: .exact (.bool false) :: [])) T.tab8_9_i E T.mixed T.tab8_9 rfl (AllS.lasts ⟨trivial, trivial, trivial, trivial, trivial, trivial, trivial, trivial, trivial, trivial, trivial, trivial, trivial, trivial, trivial, trivial, trivial, trivial, trivial, trivial, trivial, trivial, trivial⟩) ⟨fs_val rfl rfl (fun x w hx hk => ⟨_, _, rfl, rfl, rfl, run_move rfl rfl, Ext.refl _, rfl⟩),
      fs_val rfl rfl (fun x w hx hk => ⟨_, _, rfl, rfl, rfl, run_move rfl rfl, Ext.refl _, rfl⟩),
      fs_val rfl rfl (fun x w hx hk => ⟨_, _, rfl, rfl, rfl, run_indexR (i := i) rfl (M.ext ((Ext.drew _).trans hx)).fact rfl rfl (rfl) (hi) T.slice42 T.size29, Ext.refl _, rfl⟩),
      fs_val rfl rfl (fun x w hx hk => ⟨_, _, rfl, rfl, rfl, run_fieldAddrR rfl (M.ext ((Ext.drew _).trans hx)).fact rfl T.fld29_1 (by omega), Ext.refl _, rfl⟩),
      fs_val rfl rfl (fun x w hx hk => ⟨_, _, rfl, rfl, rfl, run_loadR rfl (M.ext ((Ext.drew _).trans hx)).fact rfl T.one3 (rcs_stamp ho hi), Ext.refl _, rfl⟩),
      fs_val rfl rfl (fun x w hx hk => ⟨_, _, rfl, rfl, rfl, run_move rfl rfl, Ext.refl _, rfl⟩),
      fs_val rfl rfl (fun x w hx hk => ⟨_, _, rfl, rfl, rfl, num rfl (i64_id (by omega) (by omega)), Ext.refl _, rfl⟩),
      fs_val rfl rfl (fun x w hx hk => ⟨_, _, rfl, rfl, rfl, tst rfl (decide_eq_false hq), Ext.refl _, rfl⟩),
      fs_val rfl rfl (fun x w hx hk => ⟨_, _, rfl, rfl, rfl, run_move rfl rfl, Ext.refl _, rfl⟩),
      fs_no rfl rfl (fun x => ⟨rfl, rfl⟩),
      fs_no rfl rfl (fun x => ⟨rfl, rfl⟩),
      fs_no rfl rfl (fun x => ⟨rfl, rfl⟩),
      fs_no rfl rfl (fun x => ⟨rfl, rfl⟩),
      fs_no rfl rfl (fun x => ⟨rfl, rfl⟩),
      fs_no rfl rfl (fun x => ⟨rfl, rfl⟩),
      fs_no rfl rfl (fun x => ⟨rfl, rfl⟩),
      fs_no rfl rfl (fun x => ⟨rfl, rfl⟩),
      fs_no rfl rfl (fun x => ⟨rfl, rfl⟩),
      fs_no rfl rfl (fun x => ⟨rfl, rfl⟩),
      fs_no rfl rfl (fun x => ⟨rfl, rfl⟩),
      fs_no rfl rfl (fun x => ⟨rfl, rfl⟩),
      fs_val rfl rfl (fun x w hx hk => ⟨_, _, rfl, rfl, rfl, rfl, Ext.refl _, rfl⟩), trivial⟩ ?_)
      intro x fr w hx hk E
      have M := M.ext hx
      refine then_normal ?_
      refine cond_false E rfl (rfl) ?_
      refine wp_skip ?_
      refine block_normal ?_
      refine then_normal ?_
      refine code_last ?_
      refine sv (v := _) E rfl rfl rfl rfl rfl (run_move rfl rfl) fun fr E => ?_
      refine sv (v := .int _ (((i + 1 : Nat) : Int))) E rfl rfl rfl rfl rfl (num rfl ((i64_id (by omega) (by omega)).trans (by omega))) fun fr E => ?_
      refine sv (v := _) E rfl rfl rfl rfl rfl (run_assign rfl rfl) fun fr E => ?_
      refine seq_nil ?_
      refine then_any ?_
      refine ⟨l.length - (i + 1), by omega, i + 1, rfl, by omega, (((((Env.nil E).add E (t := 0) rfl).add E (t := 1) rfl).add E (t := 5) rfl).add E (t := 6) rfl).add E (t := 7) rfl, M⟩
    · refine wp_seq ?_
      refine code_region ?_
      refine sv (v := _) E rfl rfl rfl rfl rfl (run_move rfl rfl) fun fr E => ?_
      refine sv (v := _) E rfl rfl rfl rfl rfl (run_move rfl rfl) fun fr E => ?_
      refine sv (v := .int .i64 _) E rfl rfl rfl rfl rfl (run_lenR rfl rfl rfl rfl T.slice42 M.fact) fun fr E => ?_
      refine sv (v := .bool false) E rfl rfl rfl rfl rfl (tst rfl (decide_eq_false (by omega))) fun fr E => ?_
      refine seq_nil' ?_
      refine cond_false E rfl (rfl) ?_
      refine wp_exit ?_
      refine then_exit ?_
      refine then_exit ?_
      refine block_exit ?_
      refine then_normal ?_
      refine code_region ?_
      refine sgive E M rfl rfl rfl rfl rfl (run_call rfl rfl T.fn15) (works_x _) fun fr w M E => ?_
      refine sv (v := _) E rfl rfl rfl rfl rfl (run_assign rfl rfl) fun fr E => ?_
      refine seq_nil' ?_
      refine wp_ret ?_
      refine ret1 E rfl rfl ?_
      exact given M

set_option maxRecDepth 100000 in
theorem RegionBest_some {a : Value} {l : List Rec} {lv : Int} {w0 : World} (ha : Recs w0 a l) (ho : Oks l) (hs : ∀ r ∈ l, StampIn r) (hlv : -9223372036854775808 ≤ lv) (hz : l.length ≤ 300) (h1 : ¬ lv < 0) (h2 : ¬ 1099511627776 < lv) {r : Rec} (hr : r.Ok) (hc : choice lv l = some r) : Gives Try.prog 8 [a, .int .i64 lv] w0 (.bool true) := by
  refine enter (n := 69) Try.func8 rfl rfl rfl ?_
  intro fr E
  have M : Mem w0 (feet []) [] (fun w' => Recs w' a l) w0 := Mem.begin (Has.nil w0) (fun w' h => ha.held0 h)
  refine code_region ?_
  refine sv (v := _) E rfl rfl rfl rfl rfl (run_assignC rfl) fun fr E => ?_
  refine seq_nil' ?_
  refine wp_seq ?_
  refine code_region ?_
  refine sv (v := _) E rfl rfl rfl rfl rfl (run_move rfl rfl) fun fr E => ?_
  refine sv (v := .int .i64 _) E rfl rfl rfl rfl rfl (run_lenR rfl rfl rfl rfl T.slice42 M.fact) fun fr E => ?_
  refine sv (v := .bool false) E rfl rfl rfl rfl rfl (tst rfl (decide_eq_false (by omega))) fun fr E => ?_
  refine sv (v := _) E rfl rfl rfl rfl rfl (run_move rfl rfl) fun fr E => ?_
  refine sv (v := _) E rfl rfl rfl rfl rfl (run_move rfl rfl) fun fr E => ?_
  refine sv (v := .bool false) E rfl rfl rfl rfl rfl (tst rfl (decide_eq_false (by omega))) fun fr E => ?_
  refine sv (v := .bool _) E rfl rfl rfl rfl rfl (rfl) fun fr E => ?_
  refine sv (v := _) E rfl rfl rfl rfl rfl (run_move rfl rfl) fun fr E => ?_
  refine sv (v := _) E rfl rfl rfl rfl rfl (run_move rfl rfl) fun fr E => ?_
  refine sv (v := .bool false) E rfl rfl rfl rfl rfl (tst rfl (decide_eq_false (by omega))) fun fr E => ?_
  refine sv (v := .bool _) E rfl rfl rfl rfl rfl (rfl) fun fr E => ?_
  refine seq_nil' ?_
  refine cond_false E rfl (rfl) ?_
  refine wp_skip ?_
  refine then_normal ?_
  refine code_region ?_
  refine sv (v := _) E rfl rfl rfl rfl rfl (run_move rfl rfl) fun fr E => ?_
  refine sv (v := _) E rfl rfl rfl rfl rfl (run_move rfl rfl) fun fr E => ?_
  refine sgive E M rfl rfl rfl rfl rfl (run_call rfl rfl T.fn21) (Choose_some M.fact ho hs hlv hz hc) fun fr w M E => ?_
  refine sv (v := _) E rfl rfl rfl rfl rfl (run_move rfl rfl) fun fr E => ?_
  refine sv (v := _) E rfl rfl rfl rfl rfl (run_extract rfl rfl rfl) fun fr E => ?_
  refine sv (v := _) E rfl rfl rfl rfl rfl (run_extract rfl rfl rfl) fun fr E => ?_
  refine snew (ob := .cells _ 29) (fun g => .pointer (some ⟨g, 0, none⟩)) E M rfl rfl rfl rfl rfl (run_allocN rfl T.zero29) fun g0 fr w M E => ?_
  refine sset (i := 0) (cs' := r.cells.toArray) E M rfl rfl rfl rfl rfl (run_storeAll (vs := r.cells.toArray) rfl rfl rfl T.size29 (Rec.size hr) (M.row (i := 0) rfl) rfl (fun v hv => Rec.ones _ v hv)) rfl fun fr w M E => ?_
  refine sv (v := _) E rfl rfl rfl rfl rfl (run_assign rfl rfl) fun fr E => ?_
  refine seq_nil' ?_
  refine wp_seq ?_
  refine code_region ?_
  refine sv (v := _) E rfl rfl rfl rfl rfl (run_move rfl rfl) fun fr E => ?_
  refine sv (v := _) E rfl rfl rfl rfl rfl (run_move rfl rfl) fun fr E => ?_
  refine sv (v := _) E rfl rfl rfl rfl rfl (run_move rfl rfl) fun fr E => ?_
  refine sv (v := .agg r.cells.toArray) E rfl rfl rfl rfl rfl (run_loadAll rfl rfl T.agg29 (M.row (i := 0) rfl) (Rec.size hr)) fun fr E => ?_
  refine sgive E M rfl rfl rfl rfl rfl (run_call rfl rfl T.fn30) (has_x M.fact hr (choice_mem hc) ho hz) fun fr w M E => ?_
  refine sv (v := .bool false) E rfl rfl rfl rfl rfl (tst rfl (rfl)) fun fr E => ?_
  refine sv (v := _) E rfl rfl rfl rfl rfl (run_move rfl rfl) fun fr E => ?_
  refine sv (v := .pointer (some ⟨_, 1, none⟩)) E rfl rfl rfl rfl rfl (run_fieldAddr rfl rfl T.fld29_1) fun fr E => ?_
  refine sv (v := .int .i64 _) E rfl rfl rfl rfl rfl (run_loadB rfl rfl T.one3 (M.row (i := 0) rfl) Rec.c_stamp) fun fr E => ?_
  refine sv (v := _) E rfl rfl rfl rfl rfl (run_move rfl rfl) fun fr E => ?_
  refine sv (v := .int _ (lv + 1)) E rfl rfl rfl rfl rfl (num rfl (i64_id (by omega) (by omega))) fun fr E => ?_
  refine sv (v := .bool false) E rfl rfl rfl rfl rfl (tst rfl (decide_eq_false (by have := choice_low hc; omega))) fun fr E => ?_
  refine sv (v := .bool _) E rfl rfl rfl rfl rfl (rfl) fun fr E => ?_
  refine sv (v := .bool _) E rfl rfl rfl rfl rfl (rfl) fun fr E => ?_
  refine seq_nil' ?_
  refine cond_false E rfl (rfl) ?_
  refine wp_skip ?_
  refine then_normal ?_
  refine wp_seq ?_
  refine code_region ?_
  refine sv (v := _) E rfl rfl rfl rfl rfl (run_assignC rfl) fun fr E => ?_
  refine seq_nil' ?_
  refine wp_block ?_
  refine loop_dec (fun d fr w => ∃ i : Nat, d = l.length - i ∧ i ≤ l.length ∧ Env [(7, .int .i64 i), (6, .bool true), (5, .pointer (some ⟨g0, 0, none⟩)), (1, .int .i64 lv), (0, a)] 69 fr ∧ Mem w0 (feet []) [.blk g0 (.cells r.cells.toArray 29)] (fun w' => Recs w' a l) w) (l.length) ?_ ?_
  · refine ⟨0, rfl, Nat.zero_le _, (((((Env.nil E).add E (t := 0) rfl).add E (t := 1) rfl).add E (t := 5) rfl).add E (t := 6) rfl).add E (t := 7) rfl, M⟩
  · clear E M
    rintro d fr w ⟨i, rfl, hle, E, M⟩
    by_cases hi : i < l.length
    · by_cases hq : (l[i]).stamp ≤ lv + 1
      · refine wp_seq ?_
        refine code_region ?_
        refine sv (v := _) E rfl rfl rfl rfl rfl (run_move rfl rfl) fun fr E => ?_
        refine sv (v := _) E rfl rfl rfl rfl rfl (run_move rfl rfl) fun fr E => ?_
        refine sv (v := .int .i64 _) E rfl rfl rfl rfl rfl (run_lenR rfl rfl rfl rfl T.slice42 M.fact) fun fr E => ?_
        refine sv (v := .bool true) E rfl rfl rfl rfl rfl (tst rfl (decide_eq_true (by omega))) fun fr E => ?_
        refine seq_nil' ?_
        refine cond_true E rfl (rfl) ?_
        refine wp_skip ?_
        refine then_normal ?_
        refine wp_seq ?_
        refine wp_block ?_
        refine wp_seq (free_reg (B := T.tab8_9_b) (Vs := (.exact _ :: .exact _ :: .exact (cellAt a (i * 136)) :: .exact (cellAt a (i * 136 + 1)) :: .exact (.int .i64 (l[i]).stamp) :: .exact _ :: .exact (.int _ (lv + 1)) :: .exact (.bool true) :: .exact _ :: .exact _ :: .exact (.bool false) :: .exact _ :: .exact _ :: .exact _ :: .exact (cellAt a (i * 136)) :: .exact (cellAt a (i * 136 + 1)) :: .exact (.int .i64 (l[i]).stamp) :: .exact (.pointer (some ⟨g0, 1, none⟩)) :: .exact (.int .i64 r.stamp) :: .exact (.bool false) :: .exact (.bool false) :: .exact (.bool false) :: [])) T.tab8_9_i E T.mixed T.tab8_9 rfl (AllS.lasts ⟨trivial, trivial, trivial, trivial, trivial, trivial, trivial, trivial, trivial, trivial, trivial, trivial, trivial, trivial, trivial, trivial, trivial, trivial, trivial, trivial, trivial, trivial, trivial⟩) ⟨fs_val rfl rfl (fun x w hx hk => ⟨_, _, rfl, rfl, rfl, run_move rfl rfl, Ext.refl _, rfl⟩),
      fs_val rfl rfl (fun x w hx hk => ⟨_, _, rfl, rfl, rfl, run_move rfl rfl, Ext.refl _, rfl⟩),
      fs_val rfl rfl (fun x w hx hk => ⟨_, _, rfl, rfl, rfl, run_indexR (i := i) rfl (M.ext ((Ext.drew _).trans hx)).fact rfl rfl (rfl) (hi) T.slice42 T.size29, Ext.refl _, rfl⟩),
      fs_val rfl rfl (fun x w hx hk => ⟨_, _, rfl, rfl, rfl, run_fieldAddrR rfl (M.ext ((Ext.drew _).trans hx)).fact rfl T.fld29_1 (by omega), Ext.refl _, rfl⟩),
      fs_val rfl rfl (fun x w hx hk => ⟨_, _, rfl, rfl, rfl, run_loadR rfl (M.ext ((Ext.drew _).trans hx)).fact rfl T.one3 (rcs_stamp ho hi), Ext.refl _, rfl⟩),
      fs_val rfl rfl (fun x w hx hk => ⟨_, _, rfl, rfl, rfl, run_move rfl rfl, Ext.refl _, rfl⟩),
      fs_val rfl rfl (fun x w hx hk => ⟨_, _, rfl, rfl, rfl, num rfl (i64_id (by omega) (by omega)), Ext.refl _, rfl⟩),
      fs_val rfl rfl (fun x w hx hk => ⟨_, _, rfl, rfl, rfl, tst rfl (decide_eq_true hq), Ext.refl _, rfl⟩),
      fs_val rfl rfl (fun x w hx hk => ⟨_, _, rfl, rfl, rfl, run_move rfl rfl, Ext.refl _, rfl⟩),
      fs_val rfl rfl (fun x w hx hk => ⟨_, _, rfl, rfl, rfl, run_move rfl rfl, Ext.refl _, rfl⟩),
      fs_val rfl rfl (fun x w hx hk => ⟨_, _, rfl, rfl, rfl, tst rfl (rfl), Ext.refl _, rfl⟩),
      fs_val rfl rfl (fun x w hx hk => ⟨_, _, rfl, rfl, rfl, run_move rfl rfl, Ext.refl _, rfl⟩),
      fs_val rfl rfl (fun x w hx hk => ⟨_, _, rfl, rfl, rfl, run_move rfl rfl, Ext.refl _, rfl⟩),
      fs_val rfl rfl (fun x w hx hk => ⟨_, _, rfl, rfl, rfl, run_move rfl rfl, Ext.refl _, rfl⟩),
      fs_val rfl rfl (fun x w hx hk => ⟨_, _, rfl, rfl, rfl, run_indexR (i := i) rfl (M.ext ((Ext.drew _).trans hx)).fact rfl rfl (rfl) (hi) T.slice42 T.size29, Ext.refl _, rfl⟩),
      fs_val rfl rfl (fun x w hx hk => ⟨_, _, rfl, rfl, rfl, run_fieldAddrR rfl (M.ext ((Ext.drew _).trans hx)).fact rfl T.fld29_1 (by omega), Ext.refl _, rfl⟩),
      fs_val rfl rfl (fun x w hx hk => ⟨_, _, rfl, rfl, rfl, run_loadR rfl (M.ext ((Ext.drew _).trans hx)).fact rfl T.one3 (rcs_stamp ho hi), Ext.refl _, rfl⟩),
      fs_val rfl rfl (fun x w hx hk => ⟨_, _, rfl, rfl, rfl, run_fieldAddr rfl rfl T.fld29_1, Ext.refl _, rfl⟩),
      fs_val rfl rfl (fun x w hx hk => ⟨_, _, rfl, rfl, rfl, run_loadB rfl rfl T.one3 ((M.ext ((Ext.drew _).trans hx)).row (i := 0) rfl) Rec.c_stamp, Ext.refl _, rfl⟩),
      fs_val rfl rfl (fun x w hx hk => ⟨_, _, rfl, rfl, rfl, tst rfl (decide_eq_false (by have := choice_max hc _ (List.getElem_mem hi) hq; omega)), Ext.refl _, rfl⟩),
      fs_val rfl rfl (fun x w hx hk => ⟨_, _, rfl, rfl, rfl, rfl, Ext.refl _, rfl⟩),
      fs_val rfl rfl (fun x w hx hk => ⟨_, _, rfl, rfl, rfl, rfl, Ext.refl _, rfl⟩), trivial⟩ ?_)
        intro x fr w hx hk E
        have M := M.ext hx
        refine then_normal ?_
        refine cond_false E rfl (rfl) ?_
        refine wp_skip ?_
        refine block_normal ?_
        refine then_normal ?_
        refine code_last ?_
        refine sv (v := _) E rfl rfl rfl rfl rfl (run_move rfl rfl) fun fr E => ?_
        refine sv (v := .int _ (((i + 1 : Nat) : Int))) E rfl rfl rfl rfl rfl (num rfl ((i64_id (by omega) (by omega)).trans (by omega))) fun fr E => ?_
        refine sv (v := _) E rfl rfl rfl rfl rfl (run_assign rfl rfl) fun fr E => ?_
        refine seq_nil ?_
        refine then_any ?_
        refine ⟨l.length - (i + 1), by omega, i + 1, rfl, by omega, (((((Env.nil E).add E (t := 0) rfl).add E (t := 1) rfl).add E (t := 5) rfl).add E (t := 6) rfl).add E (t := 7) rfl, M⟩
      · refine wp_seq ?_
        refine code_region ?_
        refine sv (v := _) E rfl rfl rfl rfl rfl (run_move rfl rfl) fun fr E => ?_
        refine sv (v := _) E rfl rfl rfl rfl rfl (run_move rfl rfl) fun fr E => ?_
        refine sv (v := .int .i64 _) E rfl rfl rfl rfl rfl (run_lenR rfl rfl rfl rfl T.slice42 M.fact) fun fr E => ?_
        refine sv (v := .bool true) E rfl rfl rfl rfl rfl (tst rfl (decide_eq_true (by omega))) fun fr E => ?_
        refine seq_nil' ?_
        refine cond_true E rfl (rfl) ?_
        refine wp_skip ?_
        refine then_normal ?_
        refine wp_seq ?_
        refine wp_block ?_
        refine wp_seq (free_reg (B := T.tab8_9_b) (Vs := (.exact _ :: .exact _ :: .exact (cellAt a (i * 136)) :: .exact (cellAt a (i * 136 + 1)) :: .exact (.int .i64 (l[i]).stamp) :: .exact _ :: .exact (.int _ (lv + 1)) :: .exact (.bool false) :: .exact _ :: .exact undef :: .exact undef :: .exact undef :: .exact undef :: .exact undef :: .exact undef :: .exact undef :: .exact undef :: .exact undef :: .exact undef :: .exact undef :: .exact undef :: .exact (.bool false) :: [])) T.tab8_9_i E T.mixed T.tab8_9 rfl (AllS.lasts ⟨trivial, trivial, trivial, trivial, trivial, trivial, trivial, trivial, trivial, trivial, trivial, trivial, trivial, trivial, trivial, trivial, trivial, trivial, trivial, trivial, trivial, trivial, trivial⟩) ⟨fs_val rfl rfl (fun x w hx hk => ⟨_, _, rfl, rfl, rfl, run_move rfl rfl, Ext.refl _, rfl⟩),
      fs_val rfl rfl (fun x w hx hk => ⟨_, _, rfl, rfl, rfl, run_move rfl rfl, Ext.refl _, rfl⟩),
      fs_val rfl rfl (fun x w hx hk => ⟨_, _, rfl, rfl, rfl, run_indexR (i := i) rfl (M.ext ((Ext.drew _).trans hx)).fact rfl rfl (rfl) (hi) T.slice42 T.size29, Ext.refl _, rfl⟩),
      fs_val rfl rfl (fun x w hx hk => ⟨_, _, rfl, rfl, rfl, run_fieldAddrR rfl (M.ext ((Ext.drew _).trans hx)).fact rfl T.fld29_1 (by omega), Ext.refl _, rfl⟩),
      fs_val rfl rfl (fun x w hx hk => ⟨_, _, rfl, rfl, rfl, run_loadR rfl (M.ext ((Ext.drew _).trans hx)).fact rfl T.one3 (rcs_stamp ho hi), Ext.refl _, rfl⟩),
      fs_val rfl rfl (fun x w hx hk => ⟨_, _, rfl, rfl, rfl, run_move rfl rfl, Ext.refl _, rfl⟩),
      fs_val rfl rfl (fun x w hx hk => ⟨_, _, rfl, rfl, rfl, num rfl (i64_id (by omega) (by omega)), Ext.refl _, rfl⟩),
      fs_val rfl rfl (fun x w hx hk => ⟨_, _, rfl, rfl, rfl, tst rfl (decide_eq_false hq), Ext.refl _, rfl⟩),
      fs_val rfl rfl (fun x w hx hk => ⟨_, _, rfl, rfl, rfl, run_move rfl rfl, Ext.refl _, rfl⟩),
      fs_no rfl rfl (fun x => ⟨rfl, rfl⟩),
      fs_no rfl rfl (fun x => ⟨rfl, rfl⟩),
      fs_no rfl rfl (fun x => ⟨rfl, rfl⟩),
      fs_no rfl rfl (fun x => ⟨rfl, rfl⟩),
      fs_no rfl rfl (fun x => ⟨rfl, rfl⟩),
      fs_no rfl rfl (fun x => ⟨rfl, rfl⟩),
      fs_no rfl rfl (fun x => ⟨rfl, rfl⟩),
      fs_no rfl rfl (fun x => ⟨rfl, rfl⟩),
      fs_no rfl rfl (fun x => ⟨rfl, rfl⟩),
      fs_no rfl rfl (fun x => ⟨rfl, rfl⟩),
      fs_no rfl rfl (fun x => ⟨rfl, rfl⟩),
      fs_no rfl rfl (fun x => ⟨rfl, rfl⟩),
      fs_val rfl rfl (fun x w hx hk => ⟨_, _, rfl, rfl, rfl, rfl, Ext.refl _, rfl⟩), trivial⟩ ?_)
        intro x fr w hx hk E
        have M := M.ext hx
        refine then_normal ?_
        refine cond_false E rfl (rfl) ?_
        refine wp_skip ?_
        refine block_normal ?_
        refine then_normal ?_
        refine code_last ?_
        refine sv (v := _) E rfl rfl rfl rfl rfl (run_move rfl rfl) fun fr E => ?_
        refine sv (v := .int _ (((i + 1 : Nat) : Int))) E rfl rfl rfl rfl rfl (num rfl ((i64_id (by omega) (by omega)).trans (by omega))) fun fr E => ?_
        refine sv (v := _) E rfl rfl rfl rfl rfl (run_assign rfl rfl) fun fr E => ?_
        refine seq_nil ?_
        refine then_any ?_
        refine ⟨l.length - (i + 1), by omega, i + 1, rfl, by omega, (((((Env.nil E).add E (t := 0) rfl).add E (t := 1) rfl).add E (t := 5) rfl).add E (t := 6) rfl).add E (t := 7) rfl, M⟩
    · refine wp_seq ?_
      refine code_region ?_
      refine sv (v := _) E rfl rfl rfl rfl rfl (run_move rfl rfl) fun fr E => ?_
      refine sv (v := _) E rfl rfl rfl rfl rfl (run_move rfl rfl) fun fr E => ?_
      refine sv (v := .int .i64 _) E rfl rfl rfl rfl rfl (run_lenR rfl rfl rfl rfl T.slice42 M.fact) fun fr E => ?_
      refine sv (v := .bool false) E rfl rfl rfl rfl rfl (tst rfl (decide_eq_false (by omega))) fun fr E => ?_
      refine seq_nil' ?_
      refine cond_false E rfl (rfl) ?_
      refine wp_exit ?_
      refine then_exit ?_
      refine then_exit ?_
      refine block_exit ?_
      refine then_normal ?_
      refine code_region ?_
      refine sgive E M rfl rfl rfl rfl rfl (run_call rfl rfl T.fn15) (works_x _) fun fr w M E => ?_
      refine sv (v := _) E rfl rfl rfl rfl rfl (run_assign rfl rfl) fun fr E => ?_
      refine seq_nil' ?_
      refine wp_ret ?_
      refine ret1 E rfl rfl ?_
      exact given M

theorem RegionBest_x {a : Value} {l : List Rec} {lv : Int} {w0 : World} (ha : Recs w0 a l) (ho : Oks l) (hs : ∀ r ∈ l, StampIn r) (hlv : -9223372036854775808 ≤ lv) : Gives Try.prog 8 [a, .int .i64 lv] w0 (.bool true) := by
  by_cases hz : l.length ≤ 300
  · by_cases h1 : lv < 0
    · exact RegionBest_neg ha ho hs hlv hz h1
    · by_cases h2 : 1099511627776 < lv
      · exact RegionBest_big ha ho hs hlv hz h1 h2
      · cases hc : choice lv l with
        | none => exact RegionBest_none ha ho hs hlv hz h1 h2 hc
        | some r => exact RegionBest_some ha ho hs hlv hz h1 h2 (ho _ (choice_mem hc)) hc
  · exact RegionBest_long ha ho hs hlv (by omega)
end Go.Proofs.Ytnojooafgehhaaa.K
end
