/- Contracts: a record out of bytes. -/
import Derived.Test.YtnojooafgehhaaaKK
import Derived.Test.YtnojooafgehhaaaVWorks
section
namespace Go.Proofs.Ytnojooafgehhaaa.K
open Go.RowKit Go.Rill Go.Proofs
set_option linter.unusedVariables false
set_option linter.unusedSimpArgs false
/-- What a reader of a record has left behind k things. -/
def rst (l : List UInt8) : Nat → List UInt8 × Bool
  | 0 => (l, false)
  | k + 1 => rNext (match k with | 3 => 32 | 4 => 40 | 9 => 32 | 10 => 32 | _ => 8) (rst l k)
theorem rNext_len (n : Nat) (s : List UInt8 × Bool) : (rNext n s).1.length ≤ s.1.length := by unfold rNext; split <;> simp
theorem rst_len (l : List UInt8) : ∀ k, (rst l k).1.length ≤ l.length
  | 0 => Nat.le_refl _
  | k + 1 => Nat.le_trans (rNext_len _ _) (rst_len l k)
def Rec.r5 (l : List UInt8) : Rec := { Rec.zero with gen := rInt (rst l 0), stamp := rInt (rst l 1), epoch := rInt (rst l 2), super := rSum (rst l 3), rat := (rRef (rst l 4)).1, rsum := (rRef (rst l 4)).2 }
def Rec.r7 (l : List UInt8) : Rec := { Rec.r5 l with bseg := rInt (rst l 5), bslot := rInt (rst l 6) }
def Rec.r9 (l : List UInt8) : Rec := { Rec.r7 l with tseg := rInt (rst l 7), tslot := rInt (rst l 8) }
def Rec.r10 (l : List UInt8) : Rec := { Rec.r9 l with bsum := rSum (rst l 9) }
def Rec.read (l : List UInt8) : Rec := { Rec.r10 l with tsum := rSum (rst l 10) }
theorem Rec.r5_ok (l : List UInt8) : (Rec.r5 l).Ok := ⟨rSum_len _, rRef_len _, Rec.zero_ok.bsum, Rec.zero_ok.tsum⟩
theorem Rec.r7_ok (l : List UInt8) : (Rec.r7 l).Ok := ⟨rSum_len _, rRef_len _, Rec.zero_ok.bsum, Rec.zero_ok.tsum⟩
theorem Rec.r9_ok (l : List UInt8) : (Rec.r9 l).Ok := ⟨rSum_len _, rRef_len _, Rec.zero_ok.bsum, Rec.zero_ok.tsum⟩
theorem Rec.r10_ok (l : List UInt8) : (Rec.r10 l).Ok := ⟨rSum_len _, rRef_len _, rSum_len _, Rec.zero_ok.tsum⟩
theorem Rec.read_ok (l : List UInt8) : (Rec.read l).Ok := ⟨rSum_len _, rRef_len _, rSum_len _, rSum_len _⟩
theorem r5_cells (l : List UInt8) : ([iv (rInt (rst l 0)), iv (rInt (rst l 1)), iv (rInt (rst l 2)), .agg (bc (rSum (rst l 3))).toArray, .agg (iv (rRef (rst l 4)).1 :: bc (rRef (rst l 4)).2).toArray].map (·.cells.toList)).flatten ++ (iv 0 :: iv 0 :: iv 0 :: iv 0 :: (bc (List.replicate 32 0) ++ bc (List.replicate 32 0))) = (Rec.r5 l).cells := by
  simp only [List.map_cons, List.map_nil, List.flatten_cons, List.flatten_nil, iv, Value.cells, Rec.r5, Rec.cells, Rec.zero, List.append_nil, List.append_assoc, List.cons_append, List.nil_append]
set_option maxRecDepth 100000 in
theorem Get_bad {b : Value} {l : List UInt8} {w0 : World} (hb : Bytes w0 b l) (hz : l.length ≤ 35184372088832) (he : rEnd (rst l 11) ≠ 0) : Gives Try.prog 17 [b] w0 (.tuple #[Rec.zero.val, .int .i64 (rEnd (rst l 11))]) := by
  refine enter (n := 52) Try.func17 rfl rfl rfl ?_
  intro fr E
  have M : Mem w0 (feet []) [] (fun w' => Bytes w' b l) w0 := Mem.begin (Has.nil w0) (fun w' h => hb.held0 h)
  refine code_region ?_
  refine snew (ob := .cells _ 29) (fun g => .pointer (some ⟨g, 0, none⟩)) E M rfl rfl rfl rfl rfl (run_allocN rfl T.zero29) fun g0 fr w M E => ?_
  refine sv (v := _) E rfl rfl rfl rfl rfl (run_assignC rfl) fun fr E => ?_
  refine seq_nil' ?_
  refine code_region ?_
  refine sv (v := _) E rfl rfl rfl rfl rfl (run_move rfl rfl) fun fr E => ?_
  refine scall E M rfl rfl rfl rfl rfl (run_call rfl rfl T.fn47) (Read_x M.fact hz) rfl ?_
  rintro ⟨g, rv0⟩ fr w - M E
  refine sv (v := _) E rfl rfl rfl rfl rfl (run_assign rfl rfl) fun fr E => ?_
  refine seq_nil' ?_
  refine code_region ?_
  refine sv (v := _) E rfl rfl rfl rfl rfl (run_move rfl rfl) fun fr E => ?_
  refine scallI (rdr g rv0 (rst l 0).1 (rst l 0).2) E M rfl rfl rfl rfl rfl (run_call rfl rfl T.fn48) rfl (fun H => Reader_Int_x H (Nat.le_trans (rst_len l 0) hz)) ?_
  rintro rv1 fr w - M E
  refine sv (v := _) E rfl rfl rfl rfl rfl (run_move rfl rfl) fun fr E => ?_
  refine scallI (rdr g rv1 (rst l 1).1 (rst l 1).2) E M rfl rfl rfl rfl rfl (run_call rfl rfl T.fn48) rfl (fun H => Reader_Int_x H (Nat.le_trans (rst_len l 1) hz)) ?_
  rintro rv2 fr w - M E
  refine sv (v := _) E rfl rfl rfl rfl rfl (run_move rfl rfl) fun fr E => ?_
  refine scallI (rdr g rv2 (rst l 2).1 (rst l 2).2) E M rfl rfl rfl rfl rfl (run_call rfl rfl T.fn48) rfl (fun H => Reader_Int_x H (Nat.le_trans (rst_len l 2) hz)) ?_
  rintro rv3 fr w - M E
  refine sv (v := _) E rfl rfl rfl rfl rfl (run_move rfl rfl) fun fr E => ?_
  refine scallI (rdr g rv3 (rst l 3).1 (rst l 3).2) E M rfl rfl rfl rfl rfl (run_call rfl rfl T.fn49) rfl (fun H => Reader_Sum_x H (Nat.le_trans (rst_len l 3) hz)) ?_
  rintro rv4 fr w - M E
  refine sv (v := _) E rfl rfl rfl rfl rfl (run_move rfl rfl) fun fr E => ?_
  refine scallI (rdr g rv4 (rst l 4).1 (rst l 4).2) E M rfl rfl rfl rfl rfl (run_call rfl rfl T.fn50) rfl (fun H => Reader_Ref_x H (Nat.le_trans (rst_len l 4) hz)) ?_
  rintro rv5 fr w - M E
  refine sv (v := .agg ((Rec.r5 l).cells).toArray) E rfl rfl rfl rfl rfl (run_buildP (vs := [iv (rInt (rst l 0)), iv (rInt (rst l 1)), iv (rInt (rst l 2)), .agg (bc (rSum (rst l 3))).toArray, .agg (iv (rRef (rst l 4)).1 :: bc (rRef (rst l 4)).2).toArray]) (us := (Rec.r5 l).cells) rfl rfl T.ts29 T.zeroL29 (by simp [iv, Value.cells, rSum_len, rRef_len]) rfl rfl (r5_cells l)) fun fr E => ?_
  refine snew (ob := .cells _ 29) (fun g => .pointer (some ⟨g, 0, none⟩)) E M rfl rfl rfl rfl rfl (run_allocN rfl T.zero29) fun g1 fr w M E => ?_
  refine sset (i := 0) (cs' := (Rec.r5 l).cells.toArray) E M rfl rfl rfl rfl rfl (run_storeAll (vs := (Rec.r5 l).cells.toArray) rfl rfl rfl T.size29 (Rec.size (Rec.r5_ok l)) (M.row (i := 0) rfl) rfl (by simpa using Rec.ones _)) rfl fun fr w M E => ?_
  refine seq_nil' ?_
  refine code_region ?_
  refine sv (v := _) E rfl rfl rfl rfl rfl (run_move rfl rfl) fun fr E => ?_
  have M := M.pull 2 rfl
  have M := M.pull 2 rfl
  refine scallI (rdr g rv5 (rst l 5).1 (rst l 5).2) E M rfl rfl rfl rfl rfl (run_call rfl rfl T.fn48) rfl (fun H => Reader_Int_x H (Nat.le_trans (rst_len l 5) hz)) ?_
  rintro rv6 fr w - M E
  refine sv (v := _) E rfl rfl rfl rfl rfl (run_move rfl rfl) fun fr E => ?_
  refine scallI (rdr g rv6 (rst l 6).1 (rst l 6).2) E M rfl rfl rfl rfl rfl (run_call rfl rfl T.fn48) rfl (fun H => Reader_Int_x H (Nat.le_trans (rst_len l 6) hz)) ?_
  rintro rv7 fr w - M E
  refine sv (v := .agg ([_, _]).toArray) E rfl rfl rfl rfl rfl (run_buildP (vs := [_, _]) (us := [_, _]) rfl rfl T.ts27 T.zeroL27 rfl rfl rfl rfl) fun fr E => ?_
  refine sv (v := .pointer (some ⟨_, 68, none⟩)) E rfl rfl rfl rfl rfl (run_fieldAddr rfl rfl T.fld29_5) fun fr E => ?_
  refine sset (i := 2) (cs' := (Rec.r7 l).cells.toArray) E M rfl rfl rfl rfl rfl (run_storeN' (vs := #[iv (rInt (rst l 5)), iv (rInt (rst l 6))]) rfl rfl rfl T.size27 rfl (M.row (i := 2) rfl) (by simp [Rec.len (Rec.r5_ok l)]) rfl (congrArg List.toArray (Rec.s_base (Rec.r5_ok l) _ _))) rfl fun fr w M E => ?_
  refine seq_nil' ?_
  refine code_region ?_
  refine sv (v := _) E rfl rfl rfl rfl rfl (run_move rfl rfl) fun fr E => ?_
  refine scallI (rdr g rv7 (rst l 7).1 (rst l 7).2) E M rfl rfl rfl rfl rfl (run_call rfl rfl T.fn48) rfl (fun H => Reader_Int_x H (Nat.le_trans (rst_len l 7) hz)) ?_
  rintro rv8 fr w - M E
  refine sv (v := _) E rfl rfl rfl rfl rfl (run_move rfl rfl) fun fr E => ?_
  refine scallI (rdr g rv8 (rst l 8).1 (rst l 8).2) E M rfl rfl rfl rfl rfl (run_call rfl rfl T.fn48) rfl (fun H => Reader_Int_x H (Nat.le_trans (rst_len l 8) hz)) ?_
  rintro rv9 fr w - M E
  refine sv (v := .agg ([_, _]).toArray) E rfl rfl rfl rfl rfl (run_buildP (vs := [_, _]) (us := [_, _]) rfl rfl T.ts27 T.zeroL27 rfl rfl rfl rfl) fun fr E => ?_
  refine sv (v := .pointer (some ⟨_, 70, none⟩)) E rfl rfl rfl rfl rfl (run_fieldAddr rfl rfl T.fld29_6) fun fr E => ?_
  refine sset (i := 2) (cs' := (Rec.r9 l).cells.toArray) E M rfl rfl rfl rfl rfl (run_storeN' (vs := #[iv (rInt (rst l 7)), iv (rInt (rst l 8))]) rfl rfl rfl T.size27 rfl (M.row (i := 2) rfl) (by simp [Rec.len (Rec.r7_ok l)]) rfl (congrArg List.toArray (Rec.s_tail (Rec.r7_ok l) _ _))) rfl fun fr w M E => ?_
  refine seq_nil' ?_
  refine code_region ?_
  refine sv (v := _) E rfl rfl rfl rfl rfl (run_move rfl rfl) fun fr E => ?_
  refine scallI (rdr g rv9 (rst l 9).1 (rst l 9).2) E M rfl rfl rfl rfl rfl (run_call rfl rfl T.fn49) rfl (fun H => Reader_Sum_x H (Nat.le_trans (rst_len l 9) hz)) ?_
  rintro rv10 fr w - M E
  refine sv (v := _) E rfl rfl rfl rfl rfl (run_move rfl rfl) fun fr E => ?_
  refine scallI (rdr g rv10 (rst l 10).1 (rst l 10).2) E M rfl rfl rfl rfl rfl (run_call rfl rfl T.fn49) rfl (fun H => Reader_Sum_x H (Nat.le_trans (rst_len l 10) hz)) ?_
  rintro rv11 fr w - M E
  refine sv (v := .pointer (some ⟨_, 72, none⟩)) E rfl rfl rfl rfl rfl (run_fieldAddr rfl rfl T.fld29_7) fun fr E => ?_
  refine sset (i := 2) (cs' := (Rec.r10 l).cells.toArray) E M rfl rfl rfl rfl rfl (run_storeN' (vs := (bc (rSum (rst l 9))).toArray) rfl rfl rfl T.size23 (by simp [rSum_len]) (M.row (i := 2) rfl) (by simp [Rec.len (Rec.r9_ok l)]) (by simpa using bc_one _) (congrArg List.toArray (Rec.s_bsum (Rec.r9_ok l) _))) rfl fun fr w M E => ?_
  refine sv (v := .pointer (some ⟨_, 104, none⟩)) E rfl rfl rfl rfl rfl (run_fieldAddr rfl rfl T.fld29_8) fun fr E => ?_
  refine sset (i := 2) (cs' := (Rec.read l).cells.toArray) E M rfl rfl rfl rfl rfl (run_storeN' (vs := (bc (rSum (rst l 10))).toArray) rfl rfl rfl T.size23 (by simp [rSum_len]) (M.row (i := 2) rfl) (by simp [Rec.len (Rec.r10_ok l)]) (by simpa using bc_one _) (congrArg List.toArray (Rec.s_tsum (Rec.r10_ok l) _))) rfl fun fr w M E => ?_
  refine seq_nil' ?_
  refine code_region ?_
  refine sv (v := _) E rfl rfl rfl rfl rfl (run_move rfl rfl) fun fr E => ?_
  refine scallI (rdr g rv11 (rst l 11).1 (rst l 11).2) E M rfl rfl rfl rfl rfl (run_call rfl rfl T.fn51) rfl (fun H => End_x H (Nat.le_trans (rst_len l 11) hz)) ?_
  rintro _ fr w - M E
  refine sv (v := _) E rfl rfl rfl rfl rfl (run_assign rfl rfl) fun fr E => ?_
  refine seq_nil' ?_
  refine wp_seq ?_
  refine code_region ?_
  refine sv (v := _) E rfl rfl rfl rfl rfl (run_move rfl rfl) fun fr E => ?_
  refine sv (v := .bool false) E rfl rfl rfl rfl rfl (tst rfl (decide_eq_false he)) fun fr E => ?_
  refine sv (v := _) E rfl rfl rfl rfl rfl (run_move rfl rfl) fun fr E => ?_
  refine sno E rfl rfl rfl rfl fun fr E => ?_
  refine sno E rfl rfl rfl rfl fun fr E => ?_
  refine sno E rfl rfl rfl rfl fun fr E => ?_
  refine sv (v := .bool _) E rfl rfl rfl rfl rfl (rfl) fun fr E => ?_
  refine seq_nil' ?_
  refine cond_false E rfl (rfl) ?_
  refine wp_skip ?_
  refine then_normal ?_
  refine wp_seq ?_
  refine code_region ?_
  refine sv (v := _) E rfl rfl rfl rfl rfl (run_move rfl rfl) fun fr E => ?_
  refine sv (v := .bool true) E rfl rfl rfl rfl rfl (tst rfl (by simp; exact he)) fun fr E => ?_
  refine seq_nil' ?_
  refine cond_true E rfl (rfl) ?_
  refine code_region ?_
  refine sv (v := .agg (Rec.zero.cells).toArray) E rfl rfl rfl rfl rfl (run_buildP (vs := []) (us := Rec.zero.cells) rfl rfl T.ts29 T.zeroL29 (rfl) rfl rfl (rfl)) fun fr E => ?_
  refine sv (v := _) E rfl rfl rfl rfl rfl (run_move rfl rfl) fun fr E => ?_
  refine sset (i := 3) (cs' := Rec.zero.cells.toArray) E M rfl rfl rfl rfl rfl (run_storeAll (vs := Rec.zero.cells.toArray) rfl rfl rfl T.size29 (Rec.size Rec.zero_ok) (M.row (i := 3) rfl) rfl (by simpa using Rec.ones _)) rfl fun fr w M E => ?_
  refine sv (v := _) E rfl rfl rfl rfl rfl (run_assign rfl rfl) fun fr E => ?_
  refine seq_nil' ?_
  refine wp_ret ?_
  refine then_ret ?_
  refine retC2 E rfl rfl rfl T.agg29 (M.row (i := 3) rfl) (Rec.size (Rec.zero_ok)) ?_
  exact given M

set_option maxRecDepth 100000 in
theorem Get_ok {b : Value} {l : List UInt8} {w0 : World} (hb : Bytes w0 b l) (hz : l.length ≤ 35184372088832) (he : rEnd (rst l 11) = 0) (hm : (Rec.read l).May) : Gives Try.prog 17 [b] w0 (.tuple #[(Rec.read l).val, .int .i64 0]) := by
  refine enter (n := 52) Try.func17 rfl rfl rfl ?_
  intro fr E
  have M : Mem w0 (feet []) [] (fun w' => Bytes w' b l) w0 := Mem.begin (Has.nil w0) (fun w' h => hb.held0 h)
  refine code_region ?_
  refine snew (ob := .cells _ 29) (fun g => .pointer (some ⟨g, 0, none⟩)) E M rfl rfl rfl rfl rfl (run_allocN rfl T.zero29) fun g0 fr w M E => ?_
  refine sv (v := _) E rfl rfl rfl rfl rfl (run_assignC rfl) fun fr E => ?_
  refine seq_nil' ?_
  refine code_region ?_
  refine sv (v := _) E rfl rfl rfl rfl rfl (run_move rfl rfl) fun fr E => ?_
  refine scall E M rfl rfl rfl rfl rfl (run_call rfl rfl T.fn47) (Read_x M.fact hz) rfl ?_
  rintro ⟨g, rv0⟩ fr w - M E
  refine sv (v := _) E rfl rfl rfl rfl rfl (run_assign rfl rfl) fun fr E => ?_
  refine seq_nil' ?_
  refine code_region ?_
  refine sv (v := _) E rfl rfl rfl rfl rfl (run_move rfl rfl) fun fr E => ?_
  refine scallI (rdr g rv0 (rst l 0).1 (rst l 0).2) E M rfl rfl rfl rfl rfl (run_call rfl rfl T.fn48) rfl (fun H => Reader_Int_x H (Nat.le_trans (rst_len l 0) hz)) ?_
  rintro rv1 fr w - M E
  refine sv (v := _) E rfl rfl rfl rfl rfl (run_move rfl rfl) fun fr E => ?_
  refine scallI (rdr g rv1 (rst l 1).1 (rst l 1).2) E M rfl rfl rfl rfl rfl (run_call rfl rfl T.fn48) rfl (fun H => Reader_Int_x H (Nat.le_trans (rst_len l 1) hz)) ?_
  rintro rv2 fr w - M E
  refine sv (v := _) E rfl rfl rfl rfl rfl (run_move rfl rfl) fun fr E => ?_
  refine scallI (rdr g rv2 (rst l 2).1 (rst l 2).2) E M rfl rfl rfl rfl rfl (run_call rfl rfl T.fn48) rfl (fun H => Reader_Int_x H (Nat.le_trans (rst_len l 2) hz)) ?_
  rintro rv3 fr w - M E
  refine sv (v := _) E rfl rfl rfl rfl rfl (run_move rfl rfl) fun fr E => ?_
  refine scallI (rdr g rv3 (rst l 3).1 (rst l 3).2) E M rfl rfl rfl rfl rfl (run_call rfl rfl T.fn49) rfl (fun H => Reader_Sum_x H (Nat.le_trans (rst_len l 3) hz)) ?_
  rintro rv4 fr w - M E
  refine sv (v := _) E rfl rfl rfl rfl rfl (run_move rfl rfl) fun fr E => ?_
  refine scallI (rdr g rv4 (rst l 4).1 (rst l 4).2) E M rfl rfl rfl rfl rfl (run_call rfl rfl T.fn50) rfl (fun H => Reader_Ref_x H (Nat.le_trans (rst_len l 4) hz)) ?_
  rintro rv5 fr w - M E
  refine sv (v := .agg ((Rec.r5 l).cells).toArray) E rfl rfl rfl rfl rfl (run_buildP (vs := [iv (rInt (rst l 0)), iv (rInt (rst l 1)), iv (rInt (rst l 2)), .agg (bc (rSum (rst l 3))).toArray, .agg (iv (rRef (rst l 4)).1 :: bc (rRef (rst l 4)).2).toArray]) (us := (Rec.r5 l).cells) rfl rfl T.ts29 T.zeroL29 (by simp [iv, Value.cells, rSum_len, rRef_len]) rfl rfl (r5_cells l)) fun fr E => ?_
  refine snew (ob := .cells _ 29) (fun g => .pointer (some ⟨g, 0, none⟩)) E M rfl rfl rfl rfl rfl (run_allocN rfl T.zero29) fun g1 fr w M E => ?_
  refine sset (i := 0) (cs' := (Rec.r5 l).cells.toArray) E M rfl rfl rfl rfl rfl (run_storeAll (vs := (Rec.r5 l).cells.toArray) rfl rfl rfl T.size29 (Rec.size (Rec.r5_ok l)) (M.row (i := 0) rfl) rfl (by simpa using Rec.ones _)) rfl fun fr w M E => ?_
  refine seq_nil' ?_
  refine code_region ?_
  refine sv (v := _) E rfl rfl rfl rfl rfl (run_move rfl rfl) fun fr E => ?_
  have M := M.pull 2 rfl
  have M := M.pull 2 rfl
  refine scallI (rdr g rv5 (rst l 5).1 (rst l 5).2) E M rfl rfl rfl rfl rfl (run_call rfl rfl T.fn48) rfl (fun H => Reader_Int_x H (Nat.le_trans (rst_len l 5) hz)) ?_
  rintro rv6 fr w - M E
  refine sv (v := _) E rfl rfl rfl rfl rfl (run_move rfl rfl) fun fr E => ?_
  refine scallI (rdr g rv6 (rst l 6).1 (rst l 6).2) E M rfl rfl rfl rfl rfl (run_call rfl rfl T.fn48) rfl (fun H => Reader_Int_x H (Nat.le_trans (rst_len l 6) hz)) ?_
  rintro rv7 fr w - M E
  refine sv (v := .agg ([_, _]).toArray) E rfl rfl rfl rfl rfl (run_buildP (vs := [_, _]) (us := [_, _]) rfl rfl T.ts27 T.zeroL27 rfl rfl rfl rfl) fun fr E => ?_
  refine sv (v := .pointer (some ⟨_, 68, none⟩)) E rfl rfl rfl rfl rfl (run_fieldAddr rfl rfl T.fld29_5) fun fr E => ?_
  refine sset (i := 2) (cs' := (Rec.r7 l).cells.toArray) E M rfl rfl rfl rfl rfl (run_storeN' (vs := #[iv (rInt (rst l 5)), iv (rInt (rst l 6))]) rfl rfl rfl T.size27 rfl (M.row (i := 2) rfl) (by simp [Rec.len (Rec.r5_ok l)]) rfl (congrArg List.toArray (Rec.s_base (Rec.r5_ok l) _ _))) rfl fun fr w M E => ?_
  refine seq_nil' ?_
  refine code_region ?_
  refine sv (v := _) E rfl rfl rfl rfl rfl (run_move rfl rfl) fun fr E => ?_
  refine scallI (rdr g rv7 (rst l 7).1 (rst l 7).2) E M rfl rfl rfl rfl rfl (run_call rfl rfl T.fn48) rfl (fun H => Reader_Int_x H (Nat.le_trans (rst_len l 7) hz)) ?_
  rintro rv8 fr w - M E
  refine sv (v := _) E rfl rfl rfl rfl rfl (run_move rfl rfl) fun fr E => ?_
  refine scallI (rdr g rv8 (rst l 8).1 (rst l 8).2) E M rfl rfl rfl rfl rfl (run_call rfl rfl T.fn48) rfl (fun H => Reader_Int_x H (Nat.le_trans (rst_len l 8) hz)) ?_
  rintro rv9 fr w - M E
  refine sv (v := .agg ([_, _]).toArray) E rfl rfl rfl rfl rfl (run_buildP (vs := [_, _]) (us := [_, _]) rfl rfl T.ts27 T.zeroL27 rfl rfl rfl rfl) fun fr E => ?_
  refine sv (v := .pointer (some ⟨_, 70, none⟩)) E rfl rfl rfl rfl rfl (run_fieldAddr rfl rfl T.fld29_6) fun fr E => ?_
  refine sset (i := 2) (cs' := (Rec.r9 l).cells.toArray) E M rfl rfl rfl rfl rfl (run_storeN' (vs := #[iv (rInt (rst l 7)), iv (rInt (rst l 8))]) rfl rfl rfl T.size27 rfl (M.row (i := 2) rfl) (by simp [Rec.len (Rec.r7_ok l)]) rfl (congrArg List.toArray (Rec.s_tail (Rec.r7_ok l) _ _))) rfl fun fr w M E => ?_
  refine seq_nil' ?_
  refine code_region ?_
  refine sv (v := _) E rfl rfl rfl rfl rfl (run_move rfl rfl) fun fr E => ?_
  refine scallI (rdr g rv9 (rst l 9).1 (rst l 9).2) E M rfl rfl rfl rfl rfl (run_call rfl rfl T.fn49) rfl (fun H => Reader_Sum_x H (Nat.le_trans (rst_len l 9) hz)) ?_
  rintro rv10 fr w - M E
  refine sv (v := _) E rfl rfl rfl rfl rfl (run_move rfl rfl) fun fr E => ?_
  refine scallI (rdr g rv10 (rst l 10).1 (rst l 10).2) E M rfl rfl rfl rfl rfl (run_call rfl rfl T.fn49) rfl (fun H => Reader_Sum_x H (Nat.le_trans (rst_len l 10) hz)) ?_
  rintro rv11 fr w - M E
  refine sv (v := .pointer (some ⟨_, 72, none⟩)) E rfl rfl rfl rfl rfl (run_fieldAddr rfl rfl T.fld29_7) fun fr E => ?_
  refine sset (i := 2) (cs' := (Rec.r10 l).cells.toArray) E M rfl rfl rfl rfl rfl (run_storeN' (vs := (bc (rSum (rst l 9))).toArray) rfl rfl rfl T.size23 (by simp [rSum_len]) (M.row (i := 2) rfl) (by simp [Rec.len (Rec.r9_ok l)]) (by simpa using bc_one _) (congrArg List.toArray (Rec.s_bsum (Rec.r9_ok l) _))) rfl fun fr w M E => ?_
  refine sv (v := .pointer (some ⟨_, 104, none⟩)) E rfl rfl rfl rfl rfl (run_fieldAddr rfl rfl T.fld29_8) fun fr E => ?_
  refine sset (i := 2) (cs' := (Rec.read l).cells.toArray) E M rfl rfl rfl rfl rfl (run_storeN' (vs := (bc (rSum (rst l 10))).toArray) rfl rfl rfl T.size23 (by simp [rSum_len]) (M.row (i := 2) rfl) (by simp [Rec.len (Rec.r10_ok l)]) (by simpa using bc_one _) (congrArg List.toArray (Rec.s_tsum (Rec.r10_ok l) _))) rfl fun fr w M E => ?_
  refine seq_nil' ?_
  refine code_region ?_
  refine sv (v := _) E rfl rfl rfl rfl rfl (run_move rfl rfl) fun fr E => ?_
  refine scallI (rdr g rv11 (rst l 11).1 (rst l 11).2) E M rfl rfl rfl rfl rfl (run_call rfl rfl T.fn51) rfl (fun H => End_x H (Nat.le_trans (rst_len l 11) hz)) ?_
  rintro _ fr w - M E
  refine sv (v := _) E rfl rfl rfl rfl rfl (run_assign rfl rfl) fun fr E => ?_
  refine seq_nil' ?_
  refine wp_seq ?_
  refine code_region ?_
  refine sv (v := _) E rfl rfl rfl rfl rfl (run_move rfl rfl) fun fr E => ?_
  refine sv (v := .bool true) E rfl rfl rfl rfl rfl (tst rfl (decide_eq_true he)) fun fr E => ?_
  refine sv (v := _) E rfl rfl rfl rfl rfl (run_move rfl rfl) fun fr E => ?_
  refine sv (v := .agg (Rec.read l).cells.toArray) E rfl rfl rfl rfl rfl (run_loadAll rfl rfl T.agg29 (M.row (i := 2) rfl) (Rec.size (Rec.read_ok l))) fun fr E => ?_
  refine sgive E M rfl rfl rfl rfl rfl (run_call rfl rfl T.fn38) (may_x (Rec.read_ok l) _) fun fr w M E => ?_
  rw [decide_eq_true hm] at E
  refine sv (v := .bool _) E rfl rfl rfl rfl rfl (rfl) fun fr E => ?_
  refine sv (v := .bool _) E rfl rfl rfl rfl rfl (rfl) fun fr E => ?_
  refine seq_nil' ?_
  refine cond_false E rfl (rfl) ?_
  refine wp_skip ?_
  refine then_normal ?_
  refine wp_seq ?_
  refine code_region ?_
  refine sv (v := _) E rfl rfl rfl rfl rfl (run_move rfl rfl) fun fr E => ?_
  refine sv (v := .bool false) E rfl rfl rfl rfl rfl (tst rfl (by simp; exact he)) fun fr E => ?_
  refine seq_nil' ?_
  refine cond_false E rfl (rfl) ?_
  refine wp_skip ?_
  refine then_normal ?_
  refine code_region ?_
  refine sv (v := .agg (Rec.read l).cells.toArray) E rfl rfl rfl rfl rfl (run_loadAll rfl rfl T.agg29 (M.row (i := 2) rfl) (Rec.size (Rec.read_ok l))) fun fr E => ?_
  refine sset (i := 3) (cs' := (Rec.read l).cells.toArray) E M rfl rfl rfl rfl rfl (run_storeAll (vs := (Rec.read l).cells.toArray) rfl rfl rfl T.size29 (Rec.size (Rec.read_ok l)) (M.row (i := 3) rfl) rfl (by simpa using Rec.ones _)) rfl fun fr w M E => ?_
  refine sv (v := _) E rfl rfl rfl rfl rfl (run_assignC rfl) fun fr E => ?_
  refine seq_nil' ?_
  refine wp_ret ?_
  refine retC2 E rfl rfl rfl T.agg29 (M.row (i := 3) rfl) (Rec.size (Rec.read_ok l)) ?_
  exact given M

set_option maxRecDepth 100000 in
theorem Get_no {b : Value} {l : List UInt8} {w0 : World} (hb : Bytes w0 b l) (hz : l.length ≤ 35184372088832) (he : rEnd (rst l 11) = 0) (hm : ¬ (Rec.read l).May) : Gives Try.prog 17 [b] w0 (.tuple #[Rec.zero.val, .int .i64 7]) := by
  refine enter (n := 52) Try.func17 rfl rfl rfl ?_
  intro fr E
  have M : Mem w0 (feet []) [] (fun w' => Bytes w' b l) w0 := Mem.begin (Has.nil w0) (fun w' h => hb.held0 h)
  refine code_region ?_
  refine snew (ob := .cells _ 29) (fun g => .pointer (some ⟨g, 0, none⟩)) E M rfl rfl rfl rfl rfl (run_allocN rfl T.zero29) fun g0 fr w M E => ?_
  refine sv (v := _) E rfl rfl rfl rfl rfl (run_assignC rfl) fun fr E => ?_
  refine seq_nil' ?_
  refine code_region ?_
  refine sv (v := _) E rfl rfl rfl rfl rfl (run_move rfl rfl) fun fr E => ?_
  refine scall E M rfl rfl rfl rfl rfl (run_call rfl rfl T.fn47) (Read_x M.fact hz) rfl ?_
  rintro ⟨g, rv0⟩ fr w - M E
  refine sv (v := _) E rfl rfl rfl rfl rfl (run_assign rfl rfl) fun fr E => ?_
  refine seq_nil' ?_
  refine code_region ?_
  refine sv (v := _) E rfl rfl rfl rfl rfl (run_move rfl rfl) fun fr E => ?_
  refine scallI (rdr g rv0 (rst l 0).1 (rst l 0).2) E M rfl rfl rfl rfl rfl (run_call rfl rfl T.fn48) rfl (fun H => Reader_Int_x H (Nat.le_trans (rst_len l 0) hz)) ?_
  rintro rv1 fr w - M E
  refine sv (v := _) E rfl rfl rfl rfl rfl (run_move rfl rfl) fun fr E => ?_
  refine scallI (rdr g rv1 (rst l 1).1 (rst l 1).2) E M rfl rfl rfl rfl rfl (run_call rfl rfl T.fn48) rfl (fun H => Reader_Int_x H (Nat.le_trans (rst_len l 1) hz)) ?_
  rintro rv2 fr w - M E
  refine sv (v := _) E rfl rfl rfl rfl rfl (run_move rfl rfl) fun fr E => ?_
  refine scallI (rdr g rv2 (rst l 2).1 (rst l 2).2) E M rfl rfl rfl rfl rfl (run_call rfl rfl T.fn48) rfl (fun H => Reader_Int_x H (Nat.le_trans (rst_len l 2) hz)) ?_
  rintro rv3 fr w - M E
  refine sv (v := _) E rfl rfl rfl rfl rfl (run_move rfl rfl) fun fr E => ?_
  refine scallI (rdr g rv3 (rst l 3).1 (rst l 3).2) E M rfl rfl rfl rfl rfl (run_call rfl rfl T.fn49) rfl (fun H => Reader_Sum_x H (Nat.le_trans (rst_len l 3) hz)) ?_
  rintro rv4 fr w - M E
  refine sv (v := _) E rfl rfl rfl rfl rfl (run_move rfl rfl) fun fr E => ?_
  refine scallI (rdr g rv4 (rst l 4).1 (rst l 4).2) E M rfl rfl rfl rfl rfl (run_call rfl rfl T.fn50) rfl (fun H => Reader_Ref_x H (Nat.le_trans (rst_len l 4) hz)) ?_
  rintro rv5 fr w - M E
  refine sv (v := .agg ((Rec.r5 l).cells).toArray) E rfl rfl rfl rfl rfl (run_buildP (vs := [iv (rInt (rst l 0)), iv (rInt (rst l 1)), iv (rInt (rst l 2)), .agg (bc (rSum (rst l 3))).toArray, .agg (iv (rRef (rst l 4)).1 :: bc (rRef (rst l 4)).2).toArray]) (us := (Rec.r5 l).cells) rfl rfl T.ts29 T.zeroL29 (by simp [iv, Value.cells, rSum_len, rRef_len]) rfl rfl (r5_cells l)) fun fr E => ?_
  refine snew (ob := .cells _ 29) (fun g => .pointer (some ⟨g, 0, none⟩)) E M rfl rfl rfl rfl rfl (run_allocN rfl T.zero29) fun g1 fr w M E => ?_
  refine sset (i := 0) (cs' := (Rec.r5 l).cells.toArray) E M rfl rfl rfl rfl rfl (run_storeAll (vs := (Rec.r5 l).cells.toArray) rfl rfl rfl T.size29 (Rec.size (Rec.r5_ok l)) (M.row (i := 0) rfl) rfl (by simpa using Rec.ones _)) rfl fun fr w M E => ?_
  refine seq_nil' ?_
  refine code_region ?_
  refine sv (v := _) E rfl rfl rfl rfl rfl (run_move rfl rfl) fun fr E => ?_
  have M := M.pull 2 rfl
  have M := M.pull 2 rfl
  refine scallI (rdr g rv5 (rst l 5).1 (rst l 5).2) E M rfl rfl rfl rfl rfl (run_call rfl rfl T.fn48) rfl (fun H => Reader_Int_x H (Nat.le_trans (rst_len l 5) hz)) ?_
  rintro rv6 fr w - M E
  refine sv (v := _) E rfl rfl rfl rfl rfl (run_move rfl rfl) fun fr E => ?_
  refine scallI (rdr g rv6 (rst l 6).1 (rst l 6).2) E M rfl rfl rfl rfl rfl (run_call rfl rfl T.fn48) rfl (fun H => Reader_Int_x H (Nat.le_trans (rst_len l 6) hz)) ?_
  rintro rv7 fr w - M E
  refine sv (v := .agg ([_, _]).toArray) E rfl rfl rfl rfl rfl (run_buildP (vs := [_, _]) (us := [_, _]) rfl rfl T.ts27 T.zeroL27 rfl rfl rfl rfl) fun fr E => ?_
  refine sv (v := .pointer (some ⟨_, 68, none⟩)) E rfl rfl rfl rfl rfl (run_fieldAddr rfl rfl T.fld29_5) fun fr E => ?_
  refine sset (i := 2) (cs' := (Rec.r7 l).cells.toArray) E M rfl rfl rfl rfl rfl (run_storeN' (vs := #[iv (rInt (rst l 5)), iv (rInt (rst l 6))]) rfl rfl rfl T.size27 rfl (M.row (i := 2) rfl) (by simp [Rec.len (Rec.r5_ok l)]) rfl (congrArg List.toArray (Rec.s_base (Rec.r5_ok l) _ _))) rfl fun fr w M E => ?_
  refine seq_nil' ?_
  refine code_region ?_
  refine sv (v := _) E rfl rfl rfl rfl rfl (run_move rfl rfl) fun fr E => ?_
  refine scallI (rdr g rv7 (rst l 7).1 (rst l 7).2) E M rfl rfl rfl rfl rfl (run_call rfl rfl T.fn48) rfl (fun H => Reader_Int_x H (Nat.le_trans (rst_len l 7) hz)) ?_
  rintro rv8 fr w - M E
  refine sv (v := _) E rfl rfl rfl rfl rfl (run_move rfl rfl) fun fr E => ?_
  refine scallI (rdr g rv8 (rst l 8).1 (rst l 8).2) E M rfl rfl rfl rfl rfl (run_call rfl rfl T.fn48) rfl (fun H => Reader_Int_x H (Nat.le_trans (rst_len l 8) hz)) ?_
  rintro rv9 fr w - M E
  refine sv (v := .agg ([_, _]).toArray) E rfl rfl rfl rfl rfl (run_buildP (vs := [_, _]) (us := [_, _]) rfl rfl T.ts27 T.zeroL27 rfl rfl rfl rfl) fun fr E => ?_
  refine sv (v := .pointer (some ⟨_, 70, none⟩)) E rfl rfl rfl rfl rfl (run_fieldAddr rfl rfl T.fld29_6) fun fr E => ?_
  refine sset (i := 2) (cs' := (Rec.r9 l).cells.toArray) E M rfl rfl rfl rfl rfl (run_storeN' (vs := #[iv (rInt (rst l 7)), iv (rInt (rst l 8))]) rfl rfl rfl T.size27 rfl (M.row (i := 2) rfl) (by simp [Rec.len (Rec.r7_ok l)]) rfl (congrArg List.toArray (Rec.s_tail (Rec.r7_ok l) _ _))) rfl fun fr w M E => ?_
  refine seq_nil' ?_
  refine code_region ?_
  refine sv (v := _) E rfl rfl rfl rfl rfl (run_move rfl rfl) fun fr E => ?_
  refine scallI (rdr g rv9 (rst l 9).1 (rst l 9).2) E M rfl rfl rfl rfl rfl (run_call rfl rfl T.fn49) rfl (fun H => Reader_Sum_x H (Nat.le_trans (rst_len l 9) hz)) ?_
  rintro rv10 fr w - M E
  refine sv (v := _) E rfl rfl rfl rfl rfl (run_move rfl rfl) fun fr E => ?_
  refine scallI (rdr g rv10 (rst l 10).1 (rst l 10).2) E M rfl rfl rfl rfl rfl (run_call rfl rfl T.fn49) rfl (fun H => Reader_Sum_x H (Nat.le_trans (rst_len l 10) hz)) ?_
  rintro rv11 fr w - M E
  refine sv (v := .pointer (some ⟨_, 72, none⟩)) E rfl rfl rfl rfl rfl (run_fieldAddr rfl rfl T.fld29_7) fun fr E => ?_
  refine sset (i := 2) (cs' := (Rec.r10 l).cells.toArray) E M rfl rfl rfl rfl rfl (run_storeN' (vs := (bc (rSum (rst l 9))).toArray) rfl rfl rfl T.size23 (by simp [rSum_len]) (M.row (i := 2) rfl) (by simp [Rec.len (Rec.r9_ok l)]) (by simpa using bc_one _) (congrArg List.toArray (Rec.s_bsum (Rec.r9_ok l) _))) rfl fun fr w M E => ?_
  refine sv (v := .pointer (some ⟨_, 104, none⟩)) E rfl rfl rfl rfl rfl (run_fieldAddr rfl rfl T.fld29_8) fun fr E => ?_
  refine sset (i := 2) (cs' := (Rec.read l).cells.toArray) E M rfl rfl rfl rfl rfl (run_storeN' (vs := (bc (rSum (rst l 10))).toArray) rfl rfl rfl T.size23 (by simp [rSum_len]) (M.row (i := 2) rfl) (by simp [Rec.len (Rec.r10_ok l)]) (by simpa using bc_one _) (congrArg List.toArray (Rec.s_tsum (Rec.r10_ok l) _))) rfl fun fr w M E => ?_
  refine seq_nil' ?_
  refine code_region ?_
  refine sv (v := _) E rfl rfl rfl rfl rfl (run_move rfl rfl) fun fr E => ?_
  refine scallI (rdr g rv11 (rst l 11).1 (rst l 11).2) E M rfl rfl rfl rfl rfl (run_call rfl rfl T.fn51) rfl (fun H => End_x H (Nat.le_trans (rst_len l 11) hz)) ?_
  rintro _ fr w - M E
  refine sv (v := _) E rfl rfl rfl rfl rfl (run_assign rfl rfl) fun fr E => ?_
  refine seq_nil' ?_
  refine wp_seq ?_
  refine code_region ?_
  refine sv (v := _) E rfl rfl rfl rfl rfl (run_move rfl rfl) fun fr E => ?_
  refine sv (v := .bool true) E rfl rfl rfl rfl rfl (tst rfl (decide_eq_true he)) fun fr E => ?_
  refine sv (v := _) E rfl rfl rfl rfl rfl (run_move rfl rfl) fun fr E => ?_
  refine sv (v := .agg (Rec.read l).cells.toArray) E rfl rfl rfl rfl rfl (run_loadAll rfl rfl T.agg29 (M.row (i := 2) rfl) (Rec.size (Rec.read_ok l))) fun fr E => ?_
  refine sgive E M rfl rfl rfl rfl rfl (run_call rfl rfl T.fn38) (may_x (Rec.read_ok l) _) fun fr w M E => ?_
  rw [decide_eq_false hm] at E
  refine sv (v := .bool _) E rfl rfl rfl rfl rfl (rfl) fun fr E => ?_
  refine sv (v := .bool _) E rfl rfl rfl rfl rfl (rfl) fun fr E => ?_
  refine seq_nil' ?_
  refine cond_true E rfl (rfl) ?_
  refine code_last ?_
  refine sv (v := _) E rfl rfl rfl rfl rfl (run_assignC rfl) fun fr E => ?_
  refine seq_nil ?_
  refine then_normal ?_
  refine wp_seq ?_
  refine code_region ?_
  refine sv (v := _) E rfl rfl rfl rfl rfl (run_move rfl rfl) fun fr E => ?_
  refine sv (v := .bool _) E rfl rfl rfl rfl rfl (rfl) fun fr E => ?_
  refine seq_nil' ?_
  refine cond_true E rfl (rfl) ?_
  refine code_region ?_
  refine sv (v := .agg (Rec.zero.cells).toArray) E rfl rfl rfl rfl rfl (run_buildP (vs := []) (us := Rec.zero.cells) rfl rfl T.ts29 T.zeroL29 (rfl) rfl rfl (rfl)) fun fr E => ?_
  refine sv (v := _) E rfl rfl rfl rfl rfl (run_move rfl rfl) fun fr E => ?_
  refine sset (i := 3) (cs' := Rec.zero.cells.toArray) E M rfl rfl rfl rfl rfl (run_storeAll (vs := Rec.zero.cells.toArray) rfl rfl rfl T.size29 (Rec.size Rec.zero_ok) (M.row (i := 3) rfl) rfl (by simpa using Rec.ones _)) rfl fun fr w M E => ?_
  refine sv (v := _) E rfl rfl rfl rfl rfl (run_assign rfl rfl) fun fr E => ?_
  refine seq_nil' ?_
  refine wp_ret ?_
  refine then_ret ?_
  refine retC2 E rfl rfl rfl T.agg29 (M.row (i := 3) rfl) (Rec.size (Rec.zero_ok)) ?_
  exact given M
end Go.Proofs.Ytnojooafgehhaaa.K
end
section
namespace Go.Proofs.Ytnojooafgehhaaa.K
open Go.RowKit Go.Rill Go.Proofs
set_option linter.unusedVariables false
set_option linter.unusedSimpArgs false
theorem Bytes.mid {w : World} {v : Value} {l : List UInt8} {at_ n : Nat} (h : Bytes w v l) (hn : at_ + n ≤ l.length) : Bytes w (cutV 1 v at_ (at_ + n)) ((l.drop at_).take n) := by
  have := Bytes.cut at_ (at_ + n) h (Nat.le_add_right _ _) hn
  rwa [Nat.add_sub_cancel_left] at this
theorem set_step {s : List UInt8} {i : Nat} (hi : i < 32) (hs : s.length = 32) : (bc (s.take i ++ List.replicate (32 - i) 0)).set (0 + i * 1) (.int .u8 ((s[i]'(by omega)).toNat : Int)) = bc (s.take (i + 1) ++ List.replicate (32 - (i + 1)) 0) := by
  have e : 32 - i = (32 - (i + 1)) + 1 := by omega
  rw [Nat.zero_add, Nat.mul_one, List.take_succ_eq_append_getElem (by omega), e, List.replicate_succ]
  simp only [bc, List.map_append, List.map_cons, List.append_assoc]
  rw [List.set_append_right _ _ (by simp; omega)]
  have e2 : i - ((s.take i).map fun b => Value.int .u8 (b.toNat : Int)).length = 0 := by simp; omega
  rw [e2, List.set_cons_zero]
  rfl
/-- The document's reader: all bytes, how many were read, whether it is bad. -/
abbrev rdr9 (g : Nat) (bv : Value) (l : List UInt8) (at_ : Nat) (bad : Bool) : List Ent := [.blk g (.cells #[bv, .int .i64 (at_ : Int), .bool bad] 118 (0, 0)), .sub bv l]
set_option maxRecDepth 100000 in
theorem Left9_bad {g : Nat} {bv : Value} {l : List UInt8} {at_ : Nat} {bad : Bool} {w0 : World} (H : Has w0 (rdr9 g bv l at_ bad)) (hz : l.length ≤ 35184372088832) (hat : at_ ≤ l.length) (hb : bad = true) : Does Try.prog 86 [.pointer (some ⟨g, 0, none⟩)] w0 (rdr9 g bv l at_ bad) (fun _ : Unit => .int .i64 0) (fun _ => rdr9 g bv l at_ bad) (fun _ => True) := by
  refine enter (n := 17) Try.func86 rfl rfl rfl ?_
  intro fr E
  obtain ⟨rb, rc, rfl⟩ := Reads.slice (H.ents _ (List.mem_cons_of_mem _ (List.mem_singleton.2 rfl)) : Reads 1 w0 bv _ _)
  have M : Mem w0 (feet (rdr9 g _ l at_ bad)) (rdr9 g _ l at_ bad) (fun _ => True) w0 := Mem.begin H (fun _ _ => trivial)
  subst hb
  refine code_region ?_
  refine sv (v := _) E rfl rfl rfl rfl rfl (run_assignC rfl) fun fr E => ?_
  refine seq_nil' ?_
  refine wp_seq ?_
  refine code_region ?_
  refine sv (v := _) E rfl rfl rfl rfl rfl (run_move rfl rfl) fun fr E => ?_
  refine sv (v := _) E rfl rfl rfl rfl rfl (run_nilCheck rfl rfl) fun fr E => ?_
  refine sv (v := .pointer (some ⟨_, 2, none⟩)) E rfl rfl rfl rfl rfl (run_fieldAddr rfl rfl T.fld118_2) fun fr E => ?_
  refine sv (v := .bool _) E rfl rfl rfl rfl rfl (run_loadB rfl rfl T.one4 (M.row (i := 0) rfl) rfl) fun fr E => ?_
  refine seq_nil' ?_
  refine cond_true E rfl (rfl) ?_
  refine code_region ?_
  refine sv (v := _) E rfl rfl rfl rfl rfl (run_assignC rfl) fun fr E => ?_
  refine seq_nil' ?_
  refine wp_ret ?_
  refine then_ret ?_
  refine ret1 E rfl rfl ?_
  exact ⟨(), rfl, M.fin (List.Sublist.refl _) trivial⟩

set_option maxRecDepth 100000 in
theorem Left9_ok {g : Nat} {bv : Value} {l : List UInt8} {at_ : Nat} {bad : Bool} {w0 : World} (H : Has w0 (rdr9 g bv l at_ bad)) (hz : l.length ≤ 35184372088832) (hat : at_ ≤ l.length) (hb : bad = false) : Does Try.prog 86 [.pointer (some ⟨g, 0, none⟩)] w0 (rdr9 g bv l at_ bad) (fun _ : Unit => .int .i64 ((l.length - at_ : Nat) : Int)) (fun _ => rdr9 g bv l at_ bad) (fun _ => True) := by
  refine enter (n := 17) Try.func86 rfl rfl rfl ?_
  intro fr E
  obtain ⟨rb, rc, rfl⟩ := Reads.slice (H.ents _ (List.mem_cons_of_mem _ (List.mem_singleton.2 rfl)) : Reads 1 w0 bv _ _)
  have M : Mem w0 (feet (rdr9 g _ l at_ bad)) (rdr9 g _ l at_ bad) (fun _ => True) w0 := Mem.begin H (fun _ _ => trivial)
  subst hb
  refine code_region ?_
  refine sv (v := _) E rfl rfl rfl rfl rfl (run_assignC rfl) fun fr E => ?_
  refine seq_nil' ?_
  refine wp_seq ?_
  refine code_region ?_
  refine sv (v := _) E rfl rfl rfl rfl rfl (run_move rfl rfl) fun fr E => ?_
  refine sv (v := _) E rfl rfl rfl rfl rfl (run_nilCheck rfl rfl) fun fr E => ?_
  refine sv (v := .pointer (some ⟨_, 2, none⟩)) E rfl rfl rfl rfl rfl (run_fieldAddr rfl rfl T.fld118_2) fun fr E => ?_
  refine sv (v := .bool _) E rfl rfl rfl rfl rfl (run_loadB rfl rfl T.one4 (M.row (i := 0) rfl) rfl) fun fr E => ?_
  refine seq_nil' ?_
  refine cond_false E rfl (rfl) ?_
  refine wp_skip ?_
  refine then_normal ?_
  refine wp_seq (free_reg (B := T.tab86_3_b) (Vs := (.exact (.pointer (some ⟨g, 0, none⟩)) :: .exact (.pointer (some ⟨g, 0, none⟩)) :: .exact (.pointer (some ⟨g, 0, none⟩)) :: .exact (.slice rb l.length rc) :: .exact (.int .i64 _) :: .exact (.pointer (some ⟨g, 0, none⟩)) :: .exact (.pointer (some ⟨g, 0, none⟩)) :: .exact (.pointer (some ⟨g, 1, none⟩)) :: .exact (.int .i64 (at_ : Int)) :: .exact (.int _ (((l.length - at_ : Nat) : Int))) :: .exact (.int .i64 ((l.length - at_ : Nat) : Int)) :: [])) T.tab86_3_i E T.mixed T.tab86_3 rfl (AllS.lasts ⟨trivial, trivial, trivial, trivial, trivial, trivial, trivial, trivial, trivial, trivial, trivial, trivial⟩) ⟨fs_val rfl rfl (fun x w hx hk => ⟨_, _, rfl, rfl, rfl, run_move rfl rfl, Ext.refl _, rfl⟩),
      fs_val rfl rfl (fun x w hx hk => ⟨_, _, rfl, rfl, rfl, run_nilCheck rfl rfl, Ext.refl _, rfl⟩),
      fs_val rfl rfl (fun x w hx hk => ⟨_, _, rfl, rfl, rfl, run_fieldAddr rfl rfl T.fld118_0, Ext.refl _, rfl⟩),
      fs_val rfl rfl (fun x w hx hk => ⟨_, _, rfl, rfl, rfl, run_loadB rfl rfl T.one30 ((M.ext ((Ext.drew _).trans hx)).row (i := 0) rfl) rfl, Ext.refl _, rfl⟩),
      fs_val rfl rfl (fun x w hx hk => ⟨_, _, rfl, rfl, rfl, run_lenR rfl rfl rfl rfl T.slice30 ((M.ext ((Ext.drew _).trans hx)).subs 1 rfl), Ext.refl _, rfl⟩),
      fs_val rfl rfl (fun x w hx hk => ⟨_, _, rfl, rfl, rfl, run_move rfl rfl, Ext.refl _, rfl⟩),
      fs_val rfl rfl (fun x w hx hk => ⟨_, _, rfl, rfl, rfl, run_nilCheck rfl rfl, Ext.refl _, rfl⟩),
      fs_val rfl rfl (fun x w hx hk => ⟨_, _, rfl, rfl, rfl, run_fieldAddr rfl rfl T.fld118_1, Ext.refl _, rfl⟩),
      fs_val rfl rfl (fun x w hx hk => ⟨_, _, rfl, rfl, rfl, run_loadB rfl rfl T.one3 ((M.ext ((Ext.drew _).trans hx)).row (i := 0) rfl) rfl, Ext.refl _, rfl⟩),
      fs_val rfl rfl (fun x w hx hk => ⟨_, _, rfl, rfl, rfl, num rfl ((i64_id (by omega) (by omega)).trans (by omega)), Ext.refl _, rfl⟩),
      fs_val rfl rfl (fun x w hx hk => ⟨_, _, rfl, rfl, rfl, run_assign rfl rfl, Ext.refl _, rfl⟩), trivial⟩ ?_)
  intro x fr w hx hk E
  have M := M.ext hx
  refine then_normal ?_
  refine wp_ret ?_
  refine ret1 E rfl rfl ?_
  exact ⟨(), rfl, M.fin (List.Sublist.refl _) trivial⟩

set_option maxRecDepth 100000 in
theorem next9_bad {g : Nat} {bv : Value} {l : List UInt8} {at_ : Nat} {bad : Bool} {w0 : World} (H : Has w0 (rdr9 g bv l at_ bad)) (hz : l.length ≤ 35184372088832) (hat : at_ ≤ l.length) {n : Nat} (hb : bad = true) (hn : 0 < n) (hn2 : n ≤ 1000000) : Does Try.prog 85 [.pointer (some ⟨g, 0, none⟩), .int .i64 (n : Int)] w0 (rdr9 g bv l at_ bad) (fun _ : Unit => .tuple #[.slice none 0 0, .bool false]) (fun _ => rdr9 g bv l at_ true) (fun _ => True) := by
  refine enter (n := 37) Try.func85 rfl rfl rfl ?_
  intro fr E
  obtain ⟨rb, rc, rfl⟩ := Reads.slice (H.ents _ (List.mem_cons_of_mem _ (List.mem_singleton.2 rfl)) : Reads 1 w0 bv _ _)
  have M : Mem w0 (feet (rdr9 g _ l at_ bad)) (rdr9 g _ l at_ bad) (fun _ => True) w0 := Mem.begin H (fun _ _ => trivial)
  subst hb
  refine code_region ?_
  refine sv (v := _) E rfl rfl rfl rfl rfl (run_assignC rfl) fun fr E => ?_
  refine sv (v := _) E rfl rfl rfl rfl rfl (run_assignC rfl) fun fr E => ?_
  refine seq_nil' ?_
  refine wp_seq ?_
  refine code_region ?_
  refine sv (v := _) E rfl rfl rfl rfl rfl (run_move rfl rfl) fun fr E => ?_
  refine scallI (rdr9 g _ l at_ true) E M rfl rfl rfl rfl rfl (run_call rfl rfl T.fn86) rfl (fun H => Left9_bad H hz hat rfl) ?_
  rintro _ fr w - M E
  refine sv (v := _) E rfl rfl rfl rfl rfl (run_move rfl rfl) fun fr E => ?_
  refine sv (v := .bool true) E rfl rfl rfl rfl rfl (tst rfl (decide_eq_true (by omega))) fun fr E => ?_
  refine seq_nil' ?_
  refine cond_true E rfl (rfl) ?_
  refine code_region ?_
  refine sv (v := _) E rfl rfl rfl rfl rfl (run_move rfl rfl) fun fr E => ?_
  refine sv (v := _) E rfl rfl rfl rfl rfl (run_nilCheck rfl rfl) fun fr E => ?_
  refine sv (v := .pointer (some ⟨_, 2, none⟩)) E rfl rfl rfl rfl rfl (run_fieldAddr rfl rfl T.fld118_2) fun fr E => ?_
  refine sset (i := 0) (cs' := #[_, _, _]) E M rfl rfl rfl rfl rfl (run_store1' (v := _) rfl rfl rfl T.size4 (M.row (i := 0) rfl) (rfl) rfl (rfl)) rfl fun fr w M E => ?_
  refine seq_nil' ?_
  refine code_region ?_
  refine sv (v := _) E rfl rfl rfl rfl rfl (run_assignC rfl) fun fr E => ?_
  refine sv (v := _) E rfl rfl rfl rfl rfl (run_assignC rfl) fun fr E => ?_
  refine seq_nil' ?_
  refine wp_ret ?_
  refine then_ret ?_
  refine ret2 E rfl rfl rfl ?_
  exact ⟨(), rfl, M.fin (List.Sublist.refl _) trivial⟩

set_option maxRecDepth 100000 in
theorem next9_short {g : Nat} {bv : Value} {l : List UInt8} {at_ : Nat} {bad : Bool} {w0 : World} (H : Has w0 (rdr9 g bv l at_ bad)) (hz : l.length ≤ 35184372088832) (hat : at_ ≤ l.length) {n : Nat} (hb : bad = false) (hn : l.length - at_ < n) (hn2 : n ≤ 1000000) : Does Try.prog 85 [.pointer (some ⟨g, 0, none⟩), .int .i64 (n : Int)] w0 (rdr9 g bv l at_ bad) (fun _ : Unit => .tuple #[.slice none 0 0, .bool false]) (fun _ => rdr9 g bv l at_ true) (fun _ => True) := by
  refine enter (n := 37) Try.func85 rfl rfl rfl ?_
  intro fr E
  obtain ⟨rb, rc, rfl⟩ := Reads.slice (H.ents _ (List.mem_cons_of_mem _ (List.mem_singleton.2 rfl)) : Reads 1 w0 bv _ _)
  have M : Mem w0 (feet (rdr9 g _ l at_ bad)) (rdr9 g _ l at_ bad) (fun _ => True) w0 := Mem.begin H (fun _ _ => trivial)
  subst hb
  refine code_region ?_
  refine sv (v := _) E rfl rfl rfl rfl rfl (run_assignC rfl) fun fr E => ?_
  refine sv (v := _) E rfl rfl rfl rfl rfl (run_assignC rfl) fun fr E => ?_
  refine seq_nil' ?_
  refine wp_seq ?_
  refine code_region ?_
  refine sv (v := _) E rfl rfl rfl rfl rfl (run_move rfl rfl) fun fr E => ?_
  refine scallI (rdr9 g _ l at_ false) E M rfl rfl rfl rfl rfl (run_call rfl rfl T.fn86) rfl (fun H => Left9_ok H hz hat rfl) ?_
  rintro _ fr w - M E
  refine sv (v := _) E rfl rfl rfl rfl rfl (run_move rfl rfl) fun fr E => ?_
  refine sv (v := .bool true) E rfl rfl rfl rfl rfl (tst rfl (decide_eq_true (by omega))) fun fr E => ?_
  refine seq_nil' ?_
  refine cond_true E rfl (rfl) ?_
  refine code_region ?_
  refine sv (v := _) E rfl rfl rfl rfl rfl (run_move rfl rfl) fun fr E => ?_
  refine sv (v := _) E rfl rfl rfl rfl rfl (run_nilCheck rfl rfl) fun fr E => ?_
  refine sv (v := .pointer (some ⟨_, 2, none⟩)) E rfl rfl rfl rfl rfl (run_fieldAddr rfl rfl T.fld118_2) fun fr E => ?_
  refine sset (i := 0) (cs' := #[_, _, _]) E M rfl rfl rfl rfl rfl (run_store1' (v := _) rfl rfl rfl T.size4 (M.row (i := 0) rfl) (rfl) rfl (rfl)) rfl fun fr w M E => ?_
  refine seq_nil' ?_
  refine code_region ?_
  refine sv (v := _) E rfl rfl rfl rfl rfl (run_assignC rfl) fun fr E => ?_
  refine sv (v := _) E rfl rfl rfl rfl rfl (run_assignC rfl) fun fr E => ?_
  refine seq_nil' ?_
  refine wp_ret ?_
  refine then_ret ?_
  refine ret2 E rfl rfl rfl ?_
  exact ⟨(), rfl, M.fin (List.Sublist.refl _) trivial⟩

set_option maxRecDepth 100000 in
theorem next9_ok {g : Nat} {bv : Value} {l : List UInt8} {at_ : Nat} {bad : Bool} {w0 : World} (H : Has w0 (rdr9 g bv l at_ bad)) (hz : l.length ≤ 35184372088832) (hat : at_ ≤ l.length) {n : Nat} (hb : bad = false) (hn : at_ + n ≤ l.length) (hn2 : n ≤ 1000000) : Does Try.prog 85 [.pointer (some ⟨g, 0, none⟩), .int .i64 (n : Int)] w0 (rdr9 g bv l at_ bad) (fun _ : Unit => .tuple #[cutV 1 bv at_ (at_ + n), .bool true]) (fun _ => rdr9 g bv l (at_ + n) false) (fun _ => True) := by
  refine enter (n := 37) Try.func85 rfl rfl rfl ?_
  intro fr E
  obtain ⟨rb, rc, rfl⟩ := Reads.slice (H.ents _ (List.mem_cons_of_mem _ (List.mem_singleton.2 rfl)) : Reads 1 w0 bv _ _)
  have M : Mem w0 (feet (rdr9 g _ l at_ bad)) (rdr9 g _ l at_ bad) (fun _ => True) w0 := Mem.begin H (fun _ _ => trivial)
  subst hb
  refine code_region ?_
  refine sv (v := _) E rfl rfl rfl rfl rfl (run_assignC rfl) fun fr E => ?_
  refine sv (v := _) E rfl rfl rfl rfl rfl (run_assignC rfl) fun fr E => ?_
  refine seq_nil' ?_
  refine wp_seq ?_
  refine code_region ?_
  refine sv (v := _) E rfl rfl rfl rfl rfl (run_move rfl rfl) fun fr E => ?_
  refine scallI (rdr9 g _ l at_ false) E M rfl rfl rfl rfl rfl (run_call rfl rfl T.fn86) rfl (fun H => Left9_ok H hz hat rfl) ?_
  rintro _ fr w - M E
  refine sv (v := _) E rfl rfl rfl rfl rfl (run_move rfl rfl) fun fr E => ?_
  refine sv (v := .bool false) E rfl rfl rfl rfl rfl (tst rfl (decide_eq_false (by omega))) fun fr E => ?_
  refine seq_nil' ?_
  refine cond_false E rfl (rfl) ?_
  refine wp_skip ?_
  refine then_normal ?_
  refine code_region ?_
  refine sv (v := _) E rfl rfl rfl rfl rfl (run_move rfl rfl) fun fr E => ?_
  refine sv (v := _) E rfl rfl rfl rfl rfl (run_move rfl rfl) fun fr E => ?_
  refine sv (v := _) E rfl rfl rfl rfl rfl (run_nilCheck rfl rfl) fun fr E => ?_
  refine sv (v := .pointer (some ⟨_, 1, none⟩)) E rfl rfl rfl rfl rfl (run_fieldAddr rfl rfl T.fld118_1) fun fr E => ?_
  refine sv (v := .int .i64 _) E rfl rfl rfl rfl rfl (run_loadB rfl rfl T.one3 (M.row (i := 0) rfl) rfl) fun fr E => ?_
  refine sv (v := _) E rfl rfl rfl rfl rfl (run_move rfl rfl) fun fr E => ?_
  refine sv (v := .int _ (((at_ + n : Nat) : Int))) E rfl rfl rfl rfl rfl (num rfl ((i64_id (by omega) (by omega)).trans (by omega))) fun fr E => ?_
  refine sv (v := _) E rfl rfl rfl rfl rfl (run_nilCheck rfl rfl) fun fr E => ?_
  refine sv (v := .pointer (some ⟨_, 1, none⟩)) E rfl rfl rfl rfl rfl (run_fieldAddr rfl rfl T.fld118_1) fun fr E => ?_
  refine sset (i := 0) (cs' := #[_, _, _]) E M rfl rfl rfl rfl rfl (run_store1' (v := _) rfl rfl rfl T.size3 (M.row (i := 0) rfl) (rfl) rfl (rfl)) rfl fun fr w M E => ?_
  refine seq_nil' ?_
  refine wp_seq (free_reg (B := T.tab85_5_b) (Vs := (.exact (.pointer (some ⟨g, 0, none⟩)) :: .exact (.pointer (some ⟨g, 0, none⟩)) :: .exact (.pointer (some ⟨g, 0, none⟩)) :: .exact (.slice rb l.length rc) :: .exact (.pointer (some ⟨g, 0, none⟩)) :: .exact (.pointer (some ⟨g, 0, none⟩)) :: .exact (.pointer (some ⟨g, 1, none⟩)) :: .exact (.int .i64 ((at_ + n : Nat) : Int)) :: .exact (.int .i64 (n : Int)) :: .exact (.int _ ((at_ : Int))) :: .exact (.pointer (some ⟨g, 0, none⟩)) :: .exact (.pointer (some ⟨g, 0, none⟩)) :: .exact (.pointer (some ⟨g, 1, none⟩)) :: .exact (.int .i64 ((at_ + n : Nat) : Int)) :: .exact (cutV 1 (.slice rb l.length rc) at_ (at_ + n)) :: .exact (cutV 1 (.slice rb l.length rc) at_ (at_ + n)) :: .exact _ :: [])) T.tab85_5_i E T.mixed T.tab85_5 rfl (AllS.lasts ⟨trivial, trivial, trivial, trivial, trivial, trivial, trivial, trivial, trivial, trivial, trivial, trivial, trivial, trivial, trivial, trivial, trivial, trivial⟩) ⟨fs_val rfl rfl (fun x w hx hk => ⟨_, _, rfl, rfl, rfl, run_move rfl rfl, Ext.refl _, rfl⟩),
      fs_val rfl rfl (fun x w hx hk => ⟨_, _, rfl, rfl, rfl, run_nilCheck rfl rfl, Ext.refl _, rfl⟩),
      fs_val rfl rfl (fun x w hx hk => ⟨_, _, rfl, rfl, rfl, run_fieldAddr rfl rfl T.fld118_0, Ext.refl _, rfl⟩),
      fs_val rfl rfl (fun x w hx hk => ⟨_, _, rfl, rfl, rfl, run_loadB rfl rfl T.one30 ((M.ext ((Ext.drew _).trans hx)).row (i := 0) rfl) rfl, Ext.refl _, rfl⟩),
      fs_val rfl rfl (fun x w hx hk => ⟨_, _, rfl, rfl, rfl, run_move rfl rfl, Ext.refl _, rfl⟩),
      fs_val rfl rfl (fun x w hx hk => ⟨_, _, rfl, rfl, rfl, run_nilCheck rfl rfl, Ext.refl _, rfl⟩),
      fs_val rfl rfl (fun x w hx hk => ⟨_, _, rfl, rfl, rfl, run_fieldAddr rfl rfl T.fld118_1, Ext.refl _, rfl⟩),
      fs_val rfl rfl (fun x w hx hk => ⟨_, _, rfl, rfl, rfl, run_loadB rfl rfl T.one3 ((M.ext ((Ext.drew _).trans hx)).row (i := 0) rfl) rfl, Ext.refl _, rfl⟩),
      fs_val rfl rfl (fun x w hx hk => ⟨_, _, rfl, rfl, rfl, run_move rfl rfl, Ext.refl _, rfl⟩),
      fs_val rfl rfl (fun x w hx hk => ⟨_, _, rfl, rfl, rfl, num rfl ((i64_id (by omega) (by omega)).trans (by omega)), Ext.refl _, rfl⟩),
      fs_val rfl rfl (fun x w hx hk => ⟨_, _, rfl, rfl, rfl, run_move rfl rfl, Ext.refl _, rfl⟩),
      fs_val rfl rfl (fun x w hx hk => ⟨_, _, rfl, rfl, rfl, run_nilCheck rfl rfl, Ext.refl _, rfl⟩),
      fs_val rfl rfl (fun x w hx hk => ⟨_, _, rfl, rfl, rfl, run_fieldAddr rfl rfl T.fld118_1, Ext.refl _, rfl⟩),
      fs_val rfl rfl (fun x w hx hk => ⟨_, _, rfl, rfl, rfl, run_loadB rfl rfl T.one3 ((M.ext ((Ext.drew _).trans hx)).row (i := 0) rfl) rfl, Ext.refl _, rfl⟩),
      fs_val rfl rfl (fun x w hx hk => ⟨_, _, rfl, rfl, rfl, run_sliceR (lo := at_) (hi := at_ + n) rfl ((M.ext ((Ext.drew _).trans hx)).subs 1 rfl) rfl T.slice30 T.size5 (⟨_, _, rfl, rfl⟩) (⟨_, _, rfl, rfl⟩) (Nat.le_add_right _ _) (hn), Ext.refl _, rfl⟩),
      fs_val rfl rfl (fun x w hx hk => ⟨_, _, rfl, rfl, rfl, run_assign rfl rfl, Ext.refl _, rfl⟩),
      fs_val rfl rfl (fun x w hx hk => ⟨_, _, rfl, rfl, rfl, run_assignC rfl, Ext.refl _, rfl⟩), trivial⟩ ?_)
  intro x fr w hx hk E
  have M := M.ext hx
  refine then_normal ?_
  refine wp_ret ?_
  refine ret2 E rfl rfl rfl ?_
  exact ⟨(), rfl, M.fin (List.Sublist.refl _) trivial⟩

set_option maxRecDepth 100000 in
theorem RInt9_bad {g : Nat} {bv : Value} {l : List UInt8} {at_ : Nat} {bad : Bool} {w0 : World} (H : Has w0 (rdr9 g bv l at_ bad)) (hz : l.length ≤ 35184372088832) (hat : at_ ≤ l.length) (hb : bad = true) : Does Try.prog 53 [.pointer (some ⟨g, 0, none⟩)] w0 (rdr9 g bv l at_ bad) (fun _ : Unit => .int .i64 0) (fun _ => rdr9 g bv l at_ true) (fun _ => True) := by
  refine enter (n := 28) Try.func53 rfl rfl rfl ?_
  intro fr E
  have M : Mem w0 (feet (rdr9 g bv l at_ bad)) (rdr9 g bv l at_ bad) (fun _ => True) w0 := Mem.begin H (fun _ _ => trivial)
  subst hb
  refine code_region ?_
  refine sv (v := _) E rfl rfl rfl rfl rfl (run_assignC rfl) fun fr E => ?_
  refine seq_nil' ?_
  refine code_region ?_
  refine sv (v := _) E rfl rfl rfl rfl rfl (run_move rfl rfl) fun fr E => ?_
  refine scallI (rdr9 g bv l at_ true) E M rfl rfl rfl rfl rfl (run_call rfl rfl T.fn85) rfl (fun H => next9_bad (n := 8) H hz hat rfl (by decide) (by decide)) ?_
  rintro _ fr w - M E
  refine sv (v := _) E rfl rfl rfl rfl rfl (run_move rfl rfl) fun fr E => ?_
  refine sv (v := _) E rfl rfl rfl rfl rfl (run_extract rfl rfl rfl) fun fr E => ?_
  refine sv (v := _) E rfl rfl rfl rfl rfl (run_extract rfl rfl rfl) fun fr E => ?_
  refine sv (v := _) E rfl rfl rfl rfl rfl (run_assign rfl rfl) fun fr E => ?_
  refine sv (v := _) E rfl rfl rfl rfl rfl (run_assign rfl rfl) fun fr E => ?_
  refine seq_nil' ?_
  refine wp_seq ?_
  refine code_region ?_
  refine sv (v := _) E rfl rfl rfl rfl rfl (run_move rfl rfl) fun fr E => ?_
  refine sv (v := .bool _) E rfl rfl rfl rfl rfl (rfl) fun fr E => ?_
  refine seq_nil' ?_
  refine cond_true E rfl (rfl) ?_
  refine code_region ?_
  refine sv (v := _) E rfl rfl rfl rfl rfl (run_assignC rfl) fun fr E => ?_
  refine seq_nil' ?_
  refine wp_ret ?_
  refine then_ret ?_
  refine ret1 E rfl rfl ?_
  exact ⟨(), rfl, M.fin (List.Sublist.refl _) trivial⟩

set_option maxRecDepth 100000 in
theorem RInt9_short {g : Nat} {bv : Value} {l : List UInt8} {at_ : Nat} {bad : Bool} {w0 : World} (H : Has w0 (rdr9 g bv l at_ bad)) (hz : l.length ≤ 35184372088832) (hat : at_ ≤ l.length) (hb : bad = false) (hn : l.length - at_ < 8) : Does Try.prog 53 [.pointer (some ⟨g, 0, none⟩)] w0 (rdr9 g bv l at_ bad) (fun _ : Unit => .int .i64 0) (fun _ => rdr9 g bv l at_ true) (fun _ => True) := by
  refine enter (n := 28) Try.func53 rfl rfl rfl ?_
  intro fr E
  have M : Mem w0 (feet (rdr9 g bv l at_ bad)) (rdr9 g bv l at_ bad) (fun _ => True) w0 := Mem.begin H (fun _ _ => trivial)
  subst hb
  refine code_region ?_
  refine sv (v := _) E rfl rfl rfl rfl rfl (run_assignC rfl) fun fr E => ?_
  refine seq_nil' ?_
  refine code_region ?_
  refine sv (v := _) E rfl rfl rfl rfl rfl (run_move rfl rfl) fun fr E => ?_
  refine scallI (rdr9 g bv l at_ false) E M rfl rfl rfl rfl rfl (run_call rfl rfl T.fn85) rfl (fun H => next9_short (n := 8) H hz hat rfl hn (by decide)) ?_
  rintro _ fr w - M E
  refine sv (v := _) E rfl rfl rfl rfl rfl (run_move rfl rfl) fun fr E => ?_
  refine sv (v := _) E rfl rfl rfl rfl rfl (run_extract rfl rfl rfl) fun fr E => ?_
  refine sv (v := _) E rfl rfl rfl rfl rfl (run_extract rfl rfl rfl) fun fr E => ?_
  refine sv (v := _) E rfl rfl rfl rfl rfl (run_assign rfl rfl) fun fr E => ?_
  refine sv (v := _) E rfl rfl rfl rfl rfl (run_assign rfl rfl) fun fr E => ?_
  refine seq_nil' ?_
  refine wp_seq ?_
  refine code_region ?_
  refine sv (v := _) E rfl rfl rfl rfl rfl (run_move rfl rfl) fun fr E => ?_
  refine sv (v := .bool _) E rfl rfl rfl rfl rfl (rfl) fun fr E => ?_
  refine seq_nil' ?_
  refine cond_true E rfl (rfl) ?_
  refine code_region ?_
  refine sv (v := _) E rfl rfl rfl rfl rfl (run_assignC rfl) fun fr E => ?_
  refine seq_nil' ?_
  refine wp_ret ?_
  refine then_ret ?_
  refine ret1 E rfl rfl ?_
  exact ⟨(), rfl, M.fin (List.Sublist.refl _) trivial⟩

set_option maxRecDepth 100000 in
theorem RInt9_ok {g : Nat} {bv : Value} {l : List UInt8} {at_ : Nat} {bad : Bool} {w0 : World} (H : Has w0 (rdr9 g bv l at_ bad)) (hz : l.length ≤ 35184372088832) (hat : at_ ≤ l.length) (hb : bad = false) (hn : at_ + 8 ≤ l.length) : Does Try.prog 53 [.pointer (some ⟨g, 0, none⟩)] w0 (rdr9 g bv l at_ bad) (fun _ : Unit => .int .i64 (num64 ((l.drop at_).take 8))) (fun _ => rdr9 g bv l (at_ + 8) false) (fun _ => True) := by
  refine enter (n := 28) Try.func53 rfl rfl rfl ?_
  intro fr E
  have M : Mem w0 (feet (rdr9 g bv l at_ bad)) (rdr9 g bv l at_ bad) (fun _ => True) w0 := Mem.begin H (fun _ _ => trivial)
  subst hb
  refine code_region ?_
  refine sv (v := _) E rfl rfl rfl rfl rfl (run_assignC rfl) fun fr E => ?_
  refine seq_nil' ?_
  refine code_region ?_
  refine sv (v := _) E rfl rfl rfl rfl rfl (run_move rfl rfl) fun fr E => ?_
  refine scallI (rdr9 g bv l at_ false) E M rfl rfl rfl rfl rfl (run_call rfl rfl T.fn85) rfl (fun H => next9_ok (n := 8) H hz hat rfl hn (by decide)) ?_
  rintro _ fr w - M E
  refine sv (v := _) E rfl rfl rfl rfl rfl (run_move rfl rfl) fun fr E => ?_
  refine sv (v := _) E rfl rfl rfl rfl rfl (run_extract rfl rfl rfl) fun fr E => ?_
  refine sv (v := _) E rfl rfl rfl rfl rfl (run_extract rfl rfl rfl) fun fr E => ?_
  refine sv (v := _) E rfl rfl rfl rfl rfl (run_assign rfl rfl) fun fr E => ?_
  refine sv (v := _) E rfl rfl rfl rfl rfl (run_assign rfl rfl) fun fr E => ?_
  refine seq_nil' ?_
  refine wp_seq ?_
  refine code_region ?_
  refine sv (v := _) E rfl rfl rfl rfl rfl (run_move rfl rfl) fun fr E => ?_
  refine sv (v := .bool _) E rfl rfl rfl rfl rfl (rfl) fun fr E => ?_
  refine seq_nil' ?_
  refine cond_false E rfl (rfl) ?_
  refine wp_skip ?_
  refine then_normal ?_
  refine code_region ?_
  refine sv (v := _) E rfl rfl rfl rfl rfl (run_assignC rfl) fun fr E => ?_
  refine seq_nil' ?_
  refine wp_seq ?_
  refine code_region ?_
  refine sv (v := _) E rfl rfl rfl rfl rfl (run_assignC rfl) fun fr E => ?_
  refine seq_nil' ?_
  refine wp_block ?_
  refine loop_dec (fun d fr w => ∃ i : Nat, d = 8 - i ∧ i ≤ 8 ∧ Env [(6, .int .i64 i), (5, .int .u64 (fold64 (((l.drop at_).take 8).take i))), (3, cutV 1 bv at_ (at_ + 8))] 28 fr ∧ Mem w0 (feet (rdr9 g bv l at_ false)) (rdr9 g bv l (at_ + 8) false) (fun _ => True) w) (8) ?_ ?_
  · refine ⟨0, rfl, by omega, (((Env.nil E).add E (t := 3) rfl).add E (t := 5) rfl).add E (t := 6) rfl, M⟩
  · clear E M
    rintro d fr w ⟨i, hd, hle, E, M⟩
    have hs : ((l.drop at_).take 8).length = 8 := by rw [List.length_take, List.length_drop]; omega
    by_cases hi : i < 8
    · refine wp_seq ?_
      refine code_region ?_
      refine sv (v := _) E rfl rfl rfl rfl rfl (run_move rfl rfl) fun fr E => ?_
      refine sv (v := .bool true) E rfl rfl rfl rfl rfl (tst rfl (decide_eq_true (by omega))) fun fr E => ?_
      refine seq_nil' ?_
      refine cond_true E rfl (rfl) ?_
      refine wp_skip ?_
      refine then_normal ?_
      refine wp_seq ?_
      refine wp_block ?_
      refine code_last ?_
      refine sv (v := _) E rfl rfl rfl rfl rfl (run_move rfl rfl) fun fr E => ?_
      refine sv (v := .int .u64 _) E rfl rfl rfl rfl rfl (rfl) fun fr E => ?_
      refine sv (v := _) E rfl rfl rfl rfl rfl (run_move rfl rfl) fun fr E => ?_
      refine sv (v := _) E rfl rfl rfl rfl rfl (run_move rfl rfl) fun fr E => ?_
      refine sv (v := _) E rfl rfl rfl rfl rfl (run_indexR (i := i) rfl (Bytes.mid (M.subs 1 rfl) (n := 8) hn) rfl rfl (rfl) ((by omega)) T.slice30 T.size5) fun fr E => ?_
      refine sv (v := .int .u8 ((((l.drop at_).take 8)[i]'(by omega)).toNat : Int)) E rfl rfl rfl rfl rfl (run_loadR rfl (Bytes.mid (M.subs 1 rfl) (n := 8) hn) rfl T.one5 (by rw [Nat.mul_one]; exact bc_get (by omega))) fun fr E => ?_
      refine sv (v := .int .u64 _) E rfl rfl rfl rfl rfl (rfl) fun fr E => ?_
      refine sv (v := .int _ (fold64 (((l.drop at_).take 8).take (i + 1)))) E rfl rfl rfl rfl rfl (num rfl ((add_step _ _ (((l.drop at_).take 8)[i]'(by omega)).toNat_lt).trans (congrArg _ (fold64_take (by omega)).symm))) fun fr E => ?_
      refine sv (v := _) E rfl rfl rfl rfl rfl (run_assign rfl rfl) fun fr E => ?_
      refine seq_nil ?_
      refine block_normal ?_
      refine then_normal ?_
      refine code_last ?_
      refine sv (v := _) E rfl rfl rfl rfl rfl (run_move rfl rfl) fun fr E => ?_
      refine sv (v := .int _ (((i + 1 : Nat) : Int))) E rfl rfl rfl rfl rfl (num rfl ((i64_id (by omega) (by omega)).trans (by omega))) fun fr E => ?_
      refine sv (v := _) E rfl rfl rfl rfl rfl (run_assign rfl rfl) fun fr E => ?_
      refine seq_nil ?_
      refine then_any ?_
      refine ⟨8 - (i + 1), by omega, i + 1, rfl, by omega, (((Env.nil E).add E (t := 3) rfl).add E (t := 5) rfl).add E (t := 6) rfl, M⟩
    · obtain rfl : i = 8 := by omega
      rw [List.take_of_length_le (i := 8) (l := ((l.drop at_).take 8)) (Nat.le_of_eq hs)] at E
      refine wp_seq ?_
      refine code_region ?_
      refine sv (v := _) E rfl rfl rfl rfl rfl (run_move rfl rfl) fun fr E => ?_
      refine sv (v := .bool false) E rfl rfl rfl rfl rfl (tst rfl (rfl)) fun fr E => ?_
      refine seq_nil' ?_
      refine cond_false E rfl (rfl) ?_
      refine wp_exit ?_
      refine then_exit ?_
      refine then_exit ?_
      refine block_exit ?_
      refine then_normal ?_
      refine code_region ?_
      refine sv (v := _) E rfl rfl rfl rfl rfl (run_move rfl rfl) fun fr E => ?_
      refine sv (v := .int _ (num64 ((l.drop at_).take 8))) E rfl rfl rfl rfl rfl (num rfl (rfl)) fun fr E => ?_
      refine sv (v := _) E rfl rfl rfl rfl rfl (run_assign rfl rfl) fun fr E => ?_
      refine seq_nil' ?_
      refine wp_ret ?_
      refine ret1 E rfl rfl ?_
      exact ⟨(), rfl, M.fin (List.Sublist.refl _) trivial⟩

set_option maxRecDepth 100000 in
theorem RSum9_bad {g : Nat} {bv : Value} {l : List UInt8} {at_ : Nat} {bad : Bool} {w0 : World} (H : Has w0 (rdr9 g bv l at_ bad)) (hz : l.length ≤ 35184372088832) (hat : at_ ≤ l.length) (hb : bad = true) : Does Try.prog 54 [.pointer (some ⟨g, 0, none⟩)] w0 (rdr9 g bv l at_ bad) (fun _ : Unit => .agg (bc (List.replicate 32 0)).toArray) (fun _ => rdr9 g bv l at_ true) (fun _ => True) := by
  refine enter (n := 26) Try.func54 rfl rfl rfl ?_
  intro fr E
  have M : Mem w0 (feet (rdr9 g bv l at_ bad)) (rdr9 g bv l at_ bad) (fun _ => True) w0 := Mem.begin H (fun _ _ => trivial)
  subst hb
  refine code_region ?_
  refine snew (ob := .cells _ 23) (fun g => .pointer (some ⟨g, 0, none⟩)) E M rfl rfl rfl rfl rfl (run_allocN rfl T.zero23) fun g0 fr w M E => ?_
  refine seq_nil' ?_
  refine code_region ?_
  refine snew (ob := .cells _ 23) (fun g => .pointer (some ⟨g, 0, none⟩)) E M rfl rfl rfl rfl rfl (run_allocN rfl T.zero23) fun g1 fr w M E => ?_
  refine seq_nil' ?_
  refine code_region ?_
  refine sv (v := _) E rfl rfl rfl rfl rfl (run_move rfl rfl) fun fr E => ?_
  have M := M.pull 3 rfl
  have M := M.pull 3 rfl
  refine scallI (rdr9 g bv l at_ true) E M rfl rfl rfl rfl rfl (run_call rfl rfl T.fn85) rfl (fun H => next9_bad (n := 32) H hz hat rfl (by decide) (by decide)) ?_
  rintro _ fr w - M E
  refine sv (v := _) E rfl rfl rfl rfl rfl (run_move rfl rfl) fun fr E => ?_
  refine sv (v := _) E rfl rfl rfl rfl rfl (run_extract rfl rfl rfl) fun fr E => ?_
  refine sv (v := _) E rfl rfl rfl rfl rfl (run_extract rfl rfl rfl) fun fr E => ?_
  refine sv (v := _) E rfl rfl rfl rfl rfl (run_assign rfl rfl) fun fr E => ?_
  refine sv (v := _) E rfl rfl rfl rfl rfl (run_assign rfl rfl) fun fr E => ?_
  refine seq_nil' ?_
  refine wp_seq ?_
  refine code_region ?_
  refine sv (v := _) E rfl rfl rfl rfl rfl (run_assignC rfl) fun fr E => ?_
  refine seq_nil' ?_
  refine wp_block ?_
  refine loop_dec (fun d fr w => ∃ i : Nat, d = 32 - i ∧ i ≤ 32 ∧ Env [(6, .int .i64 i), (5, .bool false), (4, .slice none 0 0), (3, .pointer (some ⟨g1, 0, none⟩)), (2, .pointer (some ⟨g0, 0, none⟩))] 26 fr ∧ Mem w0 (feet (rdr9 g bv l at_ true)) (rdr9 g bv l at_ true ++ [.blk g1 (.cells (bc (List.replicate 32 0)).toArray 23), .blk g0 (.cells (bc (List.replicate 32 0)).toArray 23)]) (fun _ => True) w) (32) ?_ ?_
  · refine ⟨0, rfl, by omega, (((((Env.nil E).add E (t := 2) rfl).add E (t := 3) rfl).add E (t := 4) rfl).add E (t := 5) rfl).add E (t := 6) rfl, M⟩
  · clear E M
    rintro d fr w ⟨i, hd, hle, E, M⟩
    refine wp_seq ?_
    refine code_region ?_
    refine sv (v := _) E rfl rfl rfl rfl rfl (run_move rfl rfl) fun fr E => ?_
    refine sv (v := _) E rfl rfl rfl rfl rfl (run_move rfl rfl) fun fr E => ?_
    refine sno E rfl rfl rfl rfl fun fr E => ?_
    refine sno E rfl rfl rfl rfl fun fr E => ?_
    refine sv (v := .bool _) E rfl rfl rfl rfl rfl (rfl) fun fr E => ?_
    refine seq_nil' ?_
    refine cond_false E rfl (rfl) ?_
    refine wp_exit ?_
    refine then_exit ?_
    refine then_exit ?_
    refine block_exit ?_
    refine then_normal ?_
    refine code_region ?_
    refine sv (v := .agg (bc (List.replicate 32 0)).toArray) E rfl rfl rfl rfl rfl (run_loadAll rfl rfl T.agg23 (M.row (i := 2) rfl) (by simp)) fun fr E => ?_
    refine sset (i := 3) (cs' := (bc (List.replicate 32 0)).toArray) E M rfl rfl rfl rfl rfl (run_storeAll (vs := (bc (List.replicate 32 0)).toArray) rfl rfl rfl T.size23 (by simp) (M.row (i := 3) rfl) rfl (fun v hv => bc_one _ v hv)) rfl fun fr w M E => ?_
    refine seq_nil' ?_
    refine wp_ret ?_
    refine retC E rfl rfl T.agg23 (M.row (i := 3) rfl) (by simp) ?_
    exact ⟨(), rfl, M.fin (.cons_cons _ (.cons_cons _ (.cons _ (.cons _ .slnil)))) trivial⟩

set_option maxRecDepth 100000 in
theorem RSum9_short {g : Nat} {bv : Value} {l : List UInt8} {at_ : Nat} {bad : Bool} {w0 : World} (H : Has w0 (rdr9 g bv l at_ bad)) (hz : l.length ≤ 35184372088832) (hat : at_ ≤ l.length) (hb : bad = false) (hn : l.length - at_ < 32) : Does Try.prog 54 [.pointer (some ⟨g, 0, none⟩)] w0 (rdr9 g bv l at_ bad) (fun _ : Unit => .agg (bc (List.replicate 32 0)).toArray) (fun _ => rdr9 g bv l at_ true) (fun _ => True) := by
  refine enter (n := 26) Try.func54 rfl rfl rfl ?_
  intro fr E
  have M : Mem w0 (feet (rdr9 g bv l at_ bad)) (rdr9 g bv l at_ bad) (fun _ => True) w0 := Mem.begin H (fun _ _ => trivial)
  subst hb
  refine code_region ?_
  refine snew (ob := .cells _ 23) (fun g => .pointer (some ⟨g, 0, none⟩)) E M rfl rfl rfl rfl rfl (run_allocN rfl T.zero23) fun g0 fr w M E => ?_
  refine seq_nil' ?_
  refine code_region ?_
  refine snew (ob := .cells _ 23) (fun g => .pointer (some ⟨g, 0, none⟩)) E M rfl rfl rfl rfl rfl (run_allocN rfl T.zero23) fun g1 fr w M E => ?_
  refine seq_nil' ?_
  refine code_region ?_
  refine sv (v := _) E rfl rfl rfl rfl rfl (run_move rfl rfl) fun fr E => ?_
  have M := M.pull 3 rfl
  have M := M.pull 3 rfl
  refine scallI (rdr9 g bv l at_ false) E M rfl rfl rfl rfl rfl (run_call rfl rfl T.fn85) rfl (fun H => next9_short (n := 32) H hz hat rfl hn (by decide)) ?_
  rintro _ fr w - M E
  refine sv (v := _) E rfl rfl rfl rfl rfl (run_move rfl rfl) fun fr E => ?_
  refine sv (v := _) E rfl rfl rfl rfl rfl (run_extract rfl rfl rfl) fun fr E => ?_
  refine sv (v := _) E rfl rfl rfl rfl rfl (run_extract rfl rfl rfl) fun fr E => ?_
  refine sv (v := _) E rfl rfl rfl rfl rfl (run_assign rfl rfl) fun fr E => ?_
  refine sv (v := _) E rfl rfl rfl rfl rfl (run_assign rfl rfl) fun fr E => ?_
  refine seq_nil' ?_
  refine wp_seq ?_
  refine code_region ?_
  refine sv (v := _) E rfl rfl rfl rfl rfl (run_assignC rfl) fun fr E => ?_
  refine seq_nil' ?_
  refine wp_block ?_
  refine loop_dec (fun d fr w => ∃ i : Nat, d = 32 - i ∧ i ≤ 32 ∧ Env [(6, .int .i64 i), (5, .bool false), (4, .slice none 0 0), (3, .pointer (some ⟨g1, 0, none⟩)), (2, .pointer (some ⟨g0, 0, none⟩))] 26 fr ∧ Mem w0 (feet (rdr9 g bv l at_ false)) (rdr9 g bv l at_ true ++ [.blk g1 (.cells (bc (List.replicate 32 0)).toArray 23), .blk g0 (.cells (bc (List.replicate 32 0)).toArray 23)]) (fun _ => True) w) (32) ?_ ?_
  · refine ⟨0, rfl, by omega, (((((Env.nil E).add E (t := 2) rfl).add E (t := 3) rfl).add E (t := 4) rfl).add E (t := 5) rfl).add E (t := 6) rfl, M⟩
  · clear E M
    rintro d fr w ⟨i, hd, hle, E, M⟩
    refine wp_seq ?_
    refine code_region ?_
    refine sv (v := _) E rfl rfl rfl rfl rfl (run_move rfl rfl) fun fr E => ?_
    refine sv (v := _) E rfl rfl rfl rfl rfl (run_move rfl rfl) fun fr E => ?_
    refine sno E rfl rfl rfl rfl fun fr E => ?_
    refine sno E rfl rfl rfl rfl fun fr E => ?_
    refine sv (v := .bool _) E rfl rfl rfl rfl rfl (rfl) fun fr E => ?_
    refine seq_nil' ?_
    refine cond_false E rfl (rfl) ?_
    refine wp_exit ?_
    refine then_exit ?_
    refine then_exit ?_
    refine block_exit ?_
    refine then_normal ?_
    refine code_region ?_
    refine sv (v := .agg (bc (List.replicate 32 0)).toArray) E rfl rfl rfl rfl rfl (run_loadAll rfl rfl T.agg23 (M.row (i := 2) rfl) (by simp)) fun fr E => ?_
    refine sset (i := 3) (cs' := (bc (List.replicate 32 0)).toArray) E M rfl rfl rfl rfl rfl (run_storeAll (vs := (bc (List.replicate 32 0)).toArray) rfl rfl rfl T.size23 (by simp) (M.row (i := 3) rfl) rfl (fun v hv => bc_one _ v hv)) rfl fun fr w M E => ?_
    refine seq_nil' ?_
    refine wp_ret ?_
    refine retC E rfl rfl T.agg23 (M.row (i := 3) rfl) (by simp) ?_
    exact ⟨(), rfl, M.fin (.cons_cons _ (.cons_cons _ (.cons _ (.cons _ .slnil)))) trivial⟩

set_option maxRecDepth 100000 in
theorem RSum9_ok {g : Nat} {bv : Value} {l : List UInt8} {at_ : Nat} {bad : Bool} {w0 : World} (H : Has w0 (rdr9 g bv l at_ bad)) (hz : l.length ≤ 35184372088832) (hat : at_ ≤ l.length) (hb : bad = false) (hn : at_ + 32 ≤ l.length) : Does Try.prog 54 [.pointer (some ⟨g, 0, none⟩)] w0 (rdr9 g bv l at_ bad) (fun _ : Unit => .agg (bc ((l.drop at_).take 32)).toArray) (fun _ => rdr9 g bv l (at_ + 32) false) (fun _ => True) := by
  refine enter (n := 26) Try.func54 rfl rfl rfl ?_
  intro fr E
  have M : Mem w0 (feet (rdr9 g bv l at_ bad)) (rdr9 g bv l at_ bad) (fun _ => True) w0 := Mem.begin H (fun _ _ => trivial)
  subst hb
  refine code_region ?_
  refine snew (ob := .cells _ 23) (fun g => .pointer (some ⟨g, 0, none⟩)) E M rfl rfl rfl rfl rfl (run_allocN rfl T.zero23) fun g0 fr w M E => ?_
  refine seq_nil' ?_
  refine code_region ?_
  refine snew (ob := .cells _ 23) (fun g => .pointer (some ⟨g, 0, none⟩)) E M rfl rfl rfl rfl rfl (run_allocN rfl T.zero23) fun g1 fr w M E => ?_
  refine seq_nil' ?_
  refine code_region ?_
  refine sv (v := _) E rfl rfl rfl rfl rfl (run_move rfl rfl) fun fr E => ?_
  have M := M.pull 3 rfl
  have M := M.pull 3 rfl
  refine scallI (rdr9 g bv l at_ false) E M rfl rfl rfl rfl rfl (run_call rfl rfl T.fn85) rfl (fun H => next9_ok (n := 32) H hz hat rfl hn (by decide)) ?_
  rintro _ fr w - M E
  refine sv (v := _) E rfl rfl rfl rfl rfl (run_move rfl rfl) fun fr E => ?_
  refine sv (v := _) E rfl rfl rfl rfl rfl (run_extract rfl rfl rfl) fun fr E => ?_
  refine sv (v := _) E rfl rfl rfl rfl rfl (run_extract rfl rfl rfl) fun fr E => ?_
  refine sv (v := _) E rfl rfl rfl rfl rfl (run_assign rfl rfl) fun fr E => ?_
  refine sv (v := _) E rfl rfl rfl rfl rfl (run_assign rfl rfl) fun fr E => ?_
  refine seq_nil' ?_
  refine wp_seq ?_
  refine code_region ?_
  refine sv (v := _) E rfl rfl rfl rfl rfl (run_assignC rfl) fun fr E => ?_
  refine seq_nil' ?_
  refine wp_block ?_
  refine loop_dec (fun d fr w => ∃ i : Nat, d = 32 - i ∧ i ≤ 32 ∧ Env [(6, .int .i64 i), (5, .bool true), (4, cutV 1 bv at_ (at_ + 32)), (3, .pointer (some ⟨g1, 0, none⟩)), (2, .pointer (some ⟨g0, 0, none⟩))] 26 fr ∧ Mem w0 (feet (rdr9 g bv l at_ false)) (rdr9 g bv l (at_ + 32) false ++ [.blk g1 (.cells (bc (((l.drop at_).take 32).take i ++ List.replicate (32 - i) 0)).toArray 23), .blk g0 (.cells (bc (List.replicate 32 0)).toArray 23)]) (fun _ => True) w) (32) ?_ ?_
  · refine ⟨0, rfl, by omega, (((((Env.nil E).add E (t := 2) rfl).add E (t := 3) rfl).add E (t := 4) rfl).add E (t := 5) rfl).add E (t := 6) rfl, M⟩
  · clear E M
    rintro d fr w ⟨i, hd, hle, E, M⟩
    have hs : ((l.drop at_).take 32).length = 32 := by rw [List.length_take, List.length_drop]; omega
    by_cases hi : i < 32
    · refine wp_seq ?_
      refine code_region ?_
      refine sv (v := _) E rfl rfl rfl rfl rfl (run_move rfl rfl) fun fr E => ?_
      refine sv (v := _) E rfl rfl rfl rfl rfl (run_move rfl rfl) fun fr E => ?_
      refine sv (v := _) E rfl rfl rfl rfl rfl (run_move rfl rfl) fun fr E => ?_
      refine sv (v := .bool true) E rfl rfl rfl rfl rfl (tst rfl (decide_eq_true (by omega))) fun fr E => ?_
      refine sv (v := .bool true) E rfl rfl rfl rfl rfl (tst rfl (rfl)) fun fr E => ?_
      refine seq_nil' ?_
      refine cond_true E rfl (rfl) ?_
      refine wp_skip ?_
      refine then_normal ?_
      refine wp_seq ?_
      refine wp_block ?_
      refine code_last ?_
      refine sv (v := _) E rfl rfl rfl rfl rfl (run_move rfl rfl) fun fr E => ?_
      refine sv (v := _) E rfl rfl rfl rfl rfl (run_move rfl rfl) fun fr E => ?_
      refine sv (v := _) E rfl rfl rfl rfl rfl (run_move rfl rfl) fun fr E => ?_
      refine sv (v := _) E rfl rfl rfl rfl rfl (run_indexR (i := i) rfl (Bytes.mid (M.subs 1 rfl) (n := 32) hn) rfl rfl (rfl) ((by omega)) T.slice30 T.size5) fun fr E => ?_
      refine sv (v := .int .u8 ((((l.drop at_).take 32)[i]'(by omega)).toNat : Int)) E rfl rfl rfl rfl rfl (run_loadR rfl (Bytes.mid (M.subs 1 rfl) (n := 32) hn) rfl T.one5 (by rw [Nat.mul_one]; exact bc_get (by omega))) fun fr E => ?_
      refine sv (v := .pointer (some ⟨_, 0 + i * 1, none⟩)) E rfl rfl rfl rfl rfl (run_indexA (i := i) rfl rfl rfl (rfl) ((by omega)) T.arr23 T.size5) fun fr E => ?_
      refine sset (i := 2) (cs' := (bc (((l.drop at_).take 32).take (i + 1) ++ List.replicate (32 - (i + 1)) 0)).toArray) E M rfl rfl rfl rfl rfl (run_store1' (v := _) rfl rfl rfl T.size5 (M.row (i := 2) rfl) (by simp [hs]; omega) rfl (congrArg List.toArray (set_step hi hs))) rfl fun fr w M E => ?_
      refine seq_nil ?_
      refine block_normal ?_
      refine then_normal ?_
      refine code_last ?_
      refine sv (v := _) E rfl rfl rfl rfl rfl (run_move rfl rfl) fun fr E => ?_
      refine sv (v := .int _ (((i + 1 : Nat) : Int))) E rfl rfl rfl rfl rfl (num rfl ((i64_id (by omega) (by omega)).trans (by omega))) fun fr E => ?_
      refine sv (v := _) E rfl rfl rfl rfl rfl (run_assign rfl rfl) fun fr E => ?_
      refine seq_nil ?_
      refine then_any ?_
      refine ⟨32 - (i + 1), by omega, i + 1, rfl, by omega, (((((Env.nil E).add E (t := 2) rfl).add E (t := 3) rfl).add E (t := 4) rfl).add E (t := 5) rfl).add E (t := 6) rfl, M⟩
    · obtain rfl : i = 32 := by omega
      have M := M.as (L' := rdr9 g bv l (at_ + 32) false ++ [.blk g1 (.cells (bc ((l.drop at_).take 32)).toArray 23), .blk g0 (.cells (bc (List.replicate 32 0)).toArray 23)]) (by rw [List.take_of_length_le (i := 32) (l := ((l.drop at_).take 32)) (Nat.le_of_eq hs)]; simp)
      refine wp_seq ?_
      refine code_region ?_
      refine sv (v := _) E rfl rfl rfl rfl rfl (run_move rfl rfl) fun fr E => ?_
      refine sv (v := _) E rfl rfl rfl rfl rfl (run_move rfl rfl) fun fr E => ?_
      refine sv (v := _) E rfl rfl rfl rfl rfl (run_move rfl rfl) fun fr E => ?_
      refine sv (v := .bool false) E rfl rfl rfl rfl rfl (tst rfl (rfl)) fun fr E => ?_
      refine sv (v := .bool false) E rfl rfl rfl rfl rfl (tst rfl (rfl)) fun fr E => ?_
      refine seq_nil' ?_
      refine cond_false E rfl (rfl) ?_
      refine wp_exit ?_
      refine then_exit ?_
      refine then_exit ?_
      refine block_exit ?_
      refine then_normal ?_
      refine code_region ?_
      refine sv (v := .agg (bc ((l.drop at_).take 32)).toArray) E rfl rfl rfl rfl rfl (run_loadAll rfl rfl T.agg23 (M.row (i := 2) rfl) (by simp [hs])) fun fr E => ?_
      refine sset (i := 3) (cs' := (bc ((l.drop at_).take 32)).toArray) E M rfl rfl rfl rfl rfl (run_storeAll (vs := (bc ((l.drop at_).take 32)).toArray) rfl rfl rfl T.size23 (by simp [hs]) (M.row (i := 3) rfl) rfl (fun v hv => bc_one _ v hv)) rfl fun fr w M E => ?_
      refine seq_nil' ?_
      refine wp_ret ?_
      refine retC E rfl rfl T.agg23 (M.row (i := 3) rfl) (by simp [hs]) ?_
      exact ⟨(), rfl, M.fin (.cons_cons _ (.cons_cons _ (.cons _ (.cons _ .slnil)))) trivial⟩
end Go.Proofs.Ytnojooafgehhaaa.K
end
section
namespace Go.Proofs.Ytnojooafgehhaaa.K
open Go.RowKit Go.Rill Go.Proofs
set_option linter.unusedVariables false
set_option linter.unusedSimpArgs false
def n9 (n : Nat) (l : List UInt8) (a : Nat) (b : Bool) : Nat × Bool := if b = true ∨ l.length - a < n then (a, true) else (a + n, false)
def st9 (l : List UInt8) : Nat → Nat × Bool
  | 0 => (0, false)
  | k + 1 => n9 (match k with | 3 => 32 | 4 => 40 | 9 => 32 | 10 => 32 | _ => 8) l (st9 l k).1 (st9 l k).2
theorem n9_le (n : Nat) {l : List UInt8} {a : Nat} (b : Bool) (h : a ≤ l.length) : (n9 n l a b).1 ≤ l.length := by
  unfold n9
  split
  · exact h
  · rename_i hc
    simp only [not_or] at hc
    show a + n ≤ _
    omega
theorem st9_le (l : List UInt8) : ∀ k, (st9 l k).1 ≤ l.length
  | 0 => Nat.zero_le _
  | k + 1 => n9_le _ _ (st9_le l k)
theorem n9_next (n : Nat) (l : List UInt8) (a : Nat) (b : Bool) : rNext n (l.drop a, b) = (l.drop (n9 n l a b).1, (n9 n l a b).2) := by
  unfold rNext n9
  rw [List.length_drop]
  split <;> simp
theorem rst9 (l : List UInt8) : ∀ k, rst l k = (l.drop (st9 l k).1, (st9 l k).2)
  | 0 => rfl
  | k + 1 => by
    show rNext _ (rst l k) = _
    rw [rst9 l k, n9_next]
    rfl
/-- The record as it is filled, field by field. -/
def Rec.q (l : List UInt8) : Nat → Rec
  | 0 => Rec.zero
  | 1 => { Rec.zero with gen := rInt (rst l 0) }
  | 2 => { Rec.zero with gen := rInt (rst l 0), stamp := rInt (rst l 1) }
  | 3 => { Rec.zero with gen := rInt (rst l 0), stamp := rInt (rst l 1), epoch := rInt (rst l 2) }
  | 4 => { Rec.zero with gen := rInt (rst l 0), stamp := rInt (rst l 1), epoch := rInt (rst l 2), super := rSum (rst l 3) }
  | 5 => Rec.r5 l
  | 6 => { Rec.r5 l with bseg := rInt (rst l 5) }
  | 7 => Rec.r7 l
  | 8 => { Rec.r7 l with tseg := rInt (rst l 7) }
  | 9 => Rec.r9 l
  | 10 => Rec.r10 l
  | _ => Rec.read l
theorem Rec.q_ok (l : List UInt8) (k : Nat) : (Rec.q l k).Ok := by
  unfold Rec.q
  split
  · exact Rec.zero_ok
  · exact ⟨Rec.zero_ok.super, Rec.zero_ok.rsum, Rec.zero_ok.bsum, Rec.zero_ok.tsum⟩
  · exact ⟨Rec.zero_ok.super, Rec.zero_ok.rsum, Rec.zero_ok.bsum, Rec.zero_ok.tsum⟩
  · exact ⟨Rec.zero_ok.super, Rec.zero_ok.rsum, Rec.zero_ok.bsum, Rec.zero_ok.tsum⟩
  · exact ⟨rSum_len _, Rec.zero_ok.rsum, Rec.zero_ok.bsum, Rec.zero_ok.tsum⟩
  · exact Rec.r5_ok l
  · exact ⟨rSum_len _, rRef_len _, Rec.zero_ok.bsum, Rec.zero_ok.tsum⟩
  · exact Rec.r7_ok l
  · exact ⟨rSum_len _, rRef_len _, Rec.zero_ok.bsum, Rec.zero_ok.tsum⟩
  · exact Rec.r9_ok l
  · exact Rec.r10_ok l
  · exact Rec.read_ok l
theorem blt_of {n m k : Nat} (h : m = k) (hn : Nat.blt n k = true) : Nat.blt n m = true := by rw [h]; exact hn
theorem ref_parts {l : List UInt8} : (l.take 40).take 8 = l.take 8 ∧ (l.take 40).drop 8 = (l.drop 8).take 32 := ⟨by rw [List.take_take]; rfl, by rw [List.drop_take]⟩
set_option maxRecDepth 100000 in
theorem RRef9_bad {g : Nat} {bv : Value} {l : List UInt8} {at_ : Nat} {bad : Bool} {w0 : World} (H : Has w0 (rdr9 g bv l at_ bad)) (hz : l.length ≤ 35184372088832) (hat : at_ ≤ l.length) (hb : bad = true) : Does Try.prog 55 [.pointer (some ⟨g, 0, none⟩)] w0 (rdr9 g bv l at_ bad) (fun _ : Unit => .agg (iv 0 :: bc (List.replicate 32 0)).toArray) (fun _ => rdr9 g bv l at_ true) (fun _ => True) := by
  refine enter (n := 17) Try.func55 rfl rfl rfl ?_
  intro fr E
  have M : Mem w0 (feet (rdr9 g bv l at_ bad)) (rdr9 g bv l at_ bad) (fun _ => True) w0 := Mem.begin H (fun _ _ => trivial)
  subst hb
  refine code_region ?_
  refine snew (ob := .cells _ 25) (fun g => .pointer (some ⟨g, 0, none⟩)) E M rfl rfl rfl rfl rfl (run_allocN rfl T.zero25) fun g0 fr w M E => ?_
  refine seq_nil' ?_
  refine wp_seq ?_
  refine code_region ?_
  refine sv (v := _) E rfl rfl rfl rfl rfl (run_move rfl rfl) fun fr E => ?_
  have M := M.pull 2 rfl
  have M := M.pull 2 rfl
  refine scallI (rdr9 g bv l at_ true) E M rfl rfl rfl rfl rfl (run_call rfl rfl T.fn86) rfl (fun H => Left9_bad H hz hat rfl) ?_
  rintro _ fr w - M E
  refine sv (v := .bool true) E rfl rfl rfl rfl rfl (tst rfl (rfl)) fun fr E => ?_
  refine seq_nil' ?_
  refine cond_true E rfl (rfl) ?_
  refine code_region ?_
  refine sv (v := _) E rfl rfl rfl rfl rfl (run_move rfl rfl) fun fr E => ?_
  refine sv (v := _) E rfl rfl rfl rfl rfl (run_nilCheck rfl rfl) fun fr E => ?_
  refine sv (v := .pointer (some ⟨_, 2, none⟩)) E rfl rfl rfl rfl rfl (run_fieldAddr rfl rfl T.fld118_2) fun fr E => ?_
  refine sset (i := 0) (cs' := #[_, _, _]) E M rfl rfl rfl rfl rfl (run_store1' (v := _) rfl rfl rfl T.size4 (M.row (i := 0) rfl) (rfl) rfl (rfl)) rfl fun fr w M E => ?_
  refine seq_nil' ?_
  refine code_region ?_
  refine sv (v := .agg (iv 0 :: bc (List.replicate 32 0)).toArray) E rfl rfl rfl rfl rfl (run_buildP (vs := []) (us := iv 0 :: bc (List.replicate 32 0)) rfl rfl T.ts25 T.zeroL25 (rfl) rfl rfl (rfl)) fun fr E => ?_
  refine sset (i := 2) (cs' := (iv 0 :: bc (List.replicate 32 0)).toArray) E M rfl rfl rfl rfl rfl (run_storeAll (vs := (iv 0 :: bc (List.replicate 32 0)).toArray) rfl rfl rfl T.size25 (by simp) (M.row (i := 2) rfl) rfl ((fun v hv => by rcases List.mem_cons.1 hv with rfl | hv; rfl; exact bc_one _ v hv))) rfl fun fr w M E => ?_
  refine seq_nil' ?_
  refine wp_ret ?_
  refine then_ret ?_
  refine retC E rfl rfl T.agg25 (M.row (i := 2) rfl) (by simp) ?_
  exact ⟨(), rfl, M.fin (.cons_cons _ (.cons_cons _ (.cons _ .slnil))) trivial⟩

set_option maxRecDepth 100000 in
theorem RRef9_short {g : Nat} {bv : Value} {l : List UInt8} {at_ : Nat} {bad : Bool} {w0 : World} (H : Has w0 (rdr9 g bv l at_ bad)) (hz : l.length ≤ 35184372088832) (hat : at_ ≤ l.length) (hb : bad = false) (hn : l.length - at_ < 40) : Does Try.prog 55 [.pointer (some ⟨g, 0, none⟩)] w0 (rdr9 g bv l at_ bad) (fun _ : Unit => .agg (iv 0 :: bc (List.replicate 32 0)).toArray) (fun _ => rdr9 g bv l at_ true) (fun _ => True) := by
  refine enter (n := 17) Try.func55 rfl rfl rfl ?_
  intro fr E
  have M : Mem w0 (feet (rdr9 g bv l at_ bad)) (rdr9 g bv l at_ bad) (fun _ => True) w0 := Mem.begin H (fun _ _ => trivial)
  subst hb
  refine code_region ?_
  refine snew (ob := .cells _ 25) (fun g => .pointer (some ⟨g, 0, none⟩)) E M rfl rfl rfl rfl rfl (run_allocN rfl T.zero25) fun g0 fr w M E => ?_
  refine seq_nil' ?_
  refine wp_seq ?_
  refine code_region ?_
  refine sv (v := _) E rfl rfl rfl rfl rfl (run_move rfl rfl) fun fr E => ?_
  have M := M.pull 2 rfl
  have M := M.pull 2 rfl
  refine scallI (rdr9 g bv l at_ false) E M rfl rfl rfl rfl rfl (run_call rfl rfl T.fn86) rfl (fun H => Left9_ok H hz hat rfl) ?_
  rintro _ fr w - M E
  refine sv (v := .bool true) E rfl rfl rfl rfl rfl (tst rfl (decide_eq_true (by omega))) fun fr E => ?_
  refine seq_nil' ?_
  refine cond_true E rfl (rfl) ?_
  refine code_region ?_
  refine sv (v := _) E rfl rfl rfl rfl rfl (run_move rfl rfl) fun fr E => ?_
  refine sv (v := _) E rfl rfl rfl rfl rfl (run_nilCheck rfl rfl) fun fr E => ?_
  refine sv (v := .pointer (some ⟨_, 2, none⟩)) E rfl rfl rfl rfl rfl (run_fieldAddr rfl rfl T.fld118_2) fun fr E => ?_
  refine sset (i := 0) (cs' := #[_, _, _]) E M rfl rfl rfl rfl rfl (run_store1' (v := _) rfl rfl rfl T.size4 (M.row (i := 0) rfl) (rfl) rfl (rfl)) rfl fun fr w M E => ?_
  refine seq_nil' ?_
  refine code_region ?_
  refine sv (v := .agg (iv 0 :: bc (List.replicate 32 0)).toArray) E rfl rfl rfl rfl rfl (run_buildP (vs := []) (us := iv 0 :: bc (List.replicate 32 0)) rfl rfl T.ts25 T.zeroL25 (rfl) rfl rfl (rfl)) fun fr E => ?_
  refine sset (i := 2) (cs' := (iv 0 :: bc (List.replicate 32 0)).toArray) E M rfl rfl rfl rfl rfl (run_storeAll (vs := (iv 0 :: bc (List.replicate 32 0)).toArray) rfl rfl rfl T.size25 (by simp) (M.row (i := 2) rfl) rfl ((fun v hv => by rcases List.mem_cons.1 hv with rfl | hv; rfl; exact bc_one _ v hv))) rfl fun fr w M E => ?_
  refine seq_nil' ?_
  refine wp_ret ?_
  refine then_ret ?_
  refine retC E rfl rfl T.agg25 (M.row (i := 2) rfl) (by simp) ?_
  exact ⟨(), rfl, M.fin (.cons_cons _ (.cons_cons _ (.cons _ .slnil))) trivial⟩

set_option maxRecDepth 100000 in
theorem RRef9_ok {g : Nat} {bv : Value} {l : List UInt8} {at_ : Nat} {bad : Bool} {w0 : World} (H : Has w0 (rdr9 g bv l at_ bad)) (hz : l.length ≤ 35184372088832) (hat : at_ ≤ l.length) (hb : bad = false) (hn : at_ + 40 ≤ l.length) : Does Try.prog 55 [.pointer (some ⟨g, 0, none⟩)] w0 (rdr9 g bv l at_ bad) (fun _ : Unit => .agg (iv (num64 ((l.drop at_).take 8)) :: bc ((l.drop (at_ + 8)).take 32)).toArray) (fun _ => rdr9 g bv l (at_ + 40) false) (fun _ => True) := by
  refine enter (n := 17) Try.func55 rfl rfl rfl ?_
  intro fr E
  have M : Mem w0 (feet (rdr9 g bv l at_ bad)) (rdr9 g bv l at_ bad) (fun _ => True) w0 := Mem.begin H (fun _ _ => trivial)
  subst hb
  refine code_region ?_
  refine snew (ob := .cells _ 25) (fun g => .pointer (some ⟨g, 0, none⟩)) E M rfl rfl rfl rfl rfl (run_allocN rfl T.zero25) fun g0 fr w M E => ?_
  refine seq_nil' ?_
  refine wp_seq ?_
  refine code_region ?_
  refine sv (v := _) E rfl rfl rfl rfl rfl (run_move rfl rfl) fun fr E => ?_
  have M := M.pull 2 rfl
  have M := M.pull 2 rfl
  refine scallI (rdr9 g bv l at_ false) E M rfl rfl rfl rfl rfl (run_call rfl rfl T.fn86) rfl (fun H => Left9_ok H hz hat rfl) ?_
  rintro _ fr w - M E
  refine sv (v := .bool false) E rfl rfl rfl rfl rfl (tst rfl (decide_eq_false (by omega))) fun fr E => ?_
  refine seq_nil' ?_
  refine cond_false E rfl (rfl) ?_
  refine wp_skip ?_
  refine then_normal ?_
  refine code_region ?_
  refine sv (v := _) E rfl rfl rfl rfl rfl (run_move rfl rfl) fun fr E => ?_
  refine scallI (rdr9 g bv l at_ false) E M rfl rfl rfl rfl rfl (run_call rfl rfl T.fn53) rfl (fun H => RInt9_ok H hz hat rfl (by omega)) ?_
  rintro _ fr w - M E
  refine sv (v := _) E rfl rfl rfl rfl rfl (run_assign rfl rfl) fun fr E => ?_
  refine seq_nil' ?_
  refine code_region ?_
  refine sv (v := _) E rfl rfl rfl rfl rfl (run_move rfl rfl) fun fr E => ?_
  refine sv (v := _) E rfl rfl rfl rfl rfl (run_move rfl rfl) fun fr E => ?_
  refine scallI (rdr9 g bv l (at_ + 8) false) E M rfl rfl rfl rfl rfl (run_call rfl rfl T.fn54) rfl (fun H => RSum9_ok H hz (by omega) rfl (by omega)) ?_
  rintro _ fr w - M E
  refine sv (v := .agg (iv (num64 ((l.drop at_).take 8)) :: bc ((l.drop (at_ + 8)).take 32)).toArray) E rfl rfl rfl rfl rfl (run_buildP (vs := [iv (num64 ((l.drop at_).take 8)), .agg (bc ((l.drop (at_ + 8)).take 32)).toArray]) (us := iv (num64 ((l.drop at_).take 8)) :: bc ((l.drop (at_ + 8)).take 32)) rfl rfl T.ts25 T.zeroL25 (by simp [iv, Value.cells]; omega) rfl rfl (by simp [iv, Value.cells])) fun fr E => ?_
  refine sset (i := 2) (cs' := (iv (num64 ((l.drop at_).take 8)) :: bc ((l.drop (at_ + 8)).take 32)).toArray) E M rfl rfl rfl rfl rfl (run_storeAll (vs := (iv (num64 ((l.drop at_).take 8)) :: bc ((l.drop (at_ + 8)).take 32)).toArray) rfl rfl rfl T.size25 (by simp; omega) (M.row (i := 2) rfl) rfl ((fun v hv => by rcases List.mem_cons.1 hv with rfl | hv; rfl; exact bc_one _ v hv))) rfl fun fr w M E => ?_
  refine seq_nil' ?_
  refine wp_ret ?_
  refine retC E rfl rfl T.agg25 (M.row (i := 2) rfl) (by simp; omega) ?_
  exact ⟨(), rfl, M.fin (.cons_cons _ (.cons_cons _ (.cons _ .slnil))) trivial⟩

set_option maxRecDepth 100000 in
theorem End9_bad {g : Nat} {bv : Value} {l : List UInt8} {at_ : Nat} {bad : Bool} {w0 : World} (H : Has w0 (rdr9 g bv l at_ bad)) (hz : l.length ≤ 35184372088832) (hat : at_ ≤ l.length) (hb : bad = true) : Does Try.prog 56 [.pointer (some ⟨g, 0, none⟩)] w0 (rdr9 g bv l at_ bad) (fun _ : Unit => .int .i64 4) (fun _ => rdr9 g bv l at_ bad) (fun _ => True) := by
  refine enter (n := 10) Try.func56 rfl rfl rfl ?_
  intro fr E
  have M : Mem w0 (feet (rdr9 g bv l at_ bad)) (rdr9 g bv l at_ bad) (fun _ => True) w0 := Mem.begin H (fun _ _ => trivial)
  subst hb
  refine code_region ?_
  refine sv (v := _) E rfl rfl rfl rfl rfl (run_assignC rfl) fun fr E => ?_
  refine seq_nil' ?_
  refine wp_seq ?_
  refine code_region ?_
  refine sv (v := _) E rfl rfl rfl rfl rfl (run_move rfl rfl) fun fr E => ?_
  refine sv (v := _) E rfl rfl rfl rfl rfl (run_nilCheck rfl rfl) fun fr E => ?_
  refine sv (v := .pointer (some ⟨_, 2, none⟩)) E rfl rfl rfl rfl rfl (run_fieldAddr rfl rfl T.fld118_2) fun fr E => ?_
  refine sv (v := .bool _) E rfl rfl rfl rfl rfl (run_loadB rfl rfl T.one4 (M.row (i := 0) rfl) rfl) fun fr E => ?_
  refine seq_nil' ?_
  refine cond_true E rfl (rfl) ?_
  refine code_region ?_
  refine sv (v := _) E rfl rfl rfl rfl rfl (run_assignC rfl) fun fr E => ?_
  refine seq_nil' ?_
  refine wp_ret ?_
  refine then_ret ?_
  refine ret1 E rfl rfl ?_
  exact ⟨(), rfl, M.fin (List.Sublist.refl _) trivial⟩

set_option maxRecDepth 100000 in
theorem End9_long {g : Nat} {bv : Value} {l : List UInt8} {at_ : Nat} {bad : Bool} {w0 : World} (H : Has w0 (rdr9 g bv l at_ bad)) (hz : l.length ≤ 35184372088832) (hat : at_ ≤ l.length) (hb : bad = false) (hl : at_ < l.length) : Does Try.prog 56 [.pointer (some ⟨g, 0, none⟩)] w0 (rdr9 g bv l at_ bad) (fun _ : Unit => .int .i64 3) (fun _ => rdr9 g bv l at_ bad) (fun _ => True) := by
  refine enter (n := 10) Try.func56 rfl rfl rfl ?_
  intro fr E
  have M : Mem w0 (feet (rdr9 g bv l at_ bad)) (rdr9 g bv l at_ bad) (fun _ => True) w0 := Mem.begin H (fun _ _ => trivial)
  subst hb
  refine code_region ?_
  refine sv (v := _) E rfl rfl rfl rfl rfl (run_assignC rfl) fun fr E => ?_
  refine seq_nil' ?_
  refine wp_seq ?_
  refine code_region ?_
  refine sv (v := _) E rfl rfl rfl rfl rfl (run_move rfl rfl) fun fr E => ?_
  refine sv (v := _) E rfl rfl rfl rfl rfl (run_nilCheck rfl rfl) fun fr E => ?_
  refine sv (v := .pointer (some ⟨_, 2, none⟩)) E rfl rfl rfl rfl rfl (run_fieldAddr rfl rfl T.fld118_2) fun fr E => ?_
  refine sv (v := .bool _) E rfl rfl rfl rfl rfl (run_loadB rfl rfl T.one4 (M.row (i := 0) rfl) rfl) fun fr E => ?_
  refine seq_nil' ?_
  refine cond_false E rfl (rfl) ?_
  refine wp_skip ?_
  refine then_normal ?_
  refine wp_seq ?_
  refine code_region ?_
  refine sv (v := _) E rfl rfl rfl rfl rfl (run_move rfl rfl) fun fr E => ?_
  refine scallI (rdr9 g bv l at_ false) E M rfl rfl rfl rfl rfl (run_call rfl rfl T.fn86) rfl (fun H => Left9_ok H hz hat rfl) ?_
  rintro _ fr w - M E
  refine sv (v := .bool true) E rfl rfl rfl rfl rfl (tst rfl (decide_eq_true (by omega))) fun fr E => ?_
  refine seq_nil' ?_
  refine cond_true E rfl (rfl) ?_
  refine code_region ?_
  refine sv (v := _) E rfl rfl rfl rfl rfl (run_assignC rfl) fun fr E => ?_
  refine seq_nil' ?_
  refine wp_ret ?_
  refine then_ret ?_
  refine ret1 E rfl rfl ?_
  exact ⟨(), rfl, M.fin (List.Sublist.refl _) trivial⟩

set_option maxRecDepth 100000 in
theorem End9_ok {g : Nat} {bv : Value} {l : List UInt8} {at_ : Nat} {bad : Bool} {w0 : World} (H : Has w0 (rdr9 g bv l at_ bad)) (hz : l.length ≤ 35184372088832) (hat : at_ ≤ l.length) (hb : bad = false) (hl : ¬ at_ < l.length) : Does Try.prog 56 [.pointer (some ⟨g, 0, none⟩)] w0 (rdr9 g bv l at_ bad) (fun _ : Unit => .int .i64 0) (fun _ => rdr9 g bv l at_ bad) (fun _ => True) := by
  refine enter (n := 10) Try.func56 rfl rfl rfl ?_
  intro fr E
  have M : Mem w0 (feet (rdr9 g bv l at_ bad)) (rdr9 g bv l at_ bad) (fun _ => True) w0 := Mem.begin H (fun _ _ => trivial)
  subst hb
  refine code_region ?_
  refine sv (v := _) E rfl rfl rfl rfl rfl (run_assignC rfl) fun fr E => ?_
  refine seq_nil' ?_
  refine wp_seq ?_
  refine code_region ?_
  refine sv (v := _) E rfl rfl rfl rfl rfl (run_move rfl rfl) fun fr E => ?_
  refine sv (v := _) E rfl rfl rfl rfl rfl (run_nilCheck rfl rfl) fun fr E => ?_
  refine sv (v := .pointer (some ⟨_, 2, none⟩)) E rfl rfl rfl rfl rfl (run_fieldAddr rfl rfl T.fld118_2) fun fr E => ?_
  refine sv (v := .bool _) E rfl rfl rfl rfl rfl (run_loadB rfl rfl T.one4 (M.row (i := 0) rfl) rfl) fun fr E => ?_
  refine seq_nil' ?_
  refine cond_false E rfl (rfl) ?_
  refine wp_skip ?_
  refine then_normal ?_
  refine wp_seq ?_
  refine code_region ?_
  refine sv (v := _) E rfl rfl rfl rfl rfl (run_move rfl rfl) fun fr E => ?_
  refine scallI (rdr9 g bv l at_ false) E M rfl rfl rfl rfl rfl (run_call rfl rfl T.fn86) rfl (fun H => Left9_ok H hz hat rfl) ?_
  rintro _ fr w - M E
  refine sv (v := .bool false) E rfl rfl rfl rfl rfl (tst rfl (decide_eq_false (by omega))) fun fr E => ?_
  refine seq_nil' ?_
  refine cond_false E rfl (rfl) ?_
  refine wp_skip ?_
  refine then_normal ?_
  refine code_region ?_
  refine sv (v := _) E rfl rfl rfl rfl rfl (run_assignC rfl) fun fr E => ?_
  refine seq_nil' ?_
  refine wp_ret ?_
  refine ret1 E rfl rfl ?_
  exact ⟨(), rfl, M.fin (List.Sublist.refl _) trivial⟩

set_option maxRecDepth 100000 in
theorem Read9_x {b : Value} {l : List UInt8} {w0 : World} (hb : Bytes w0 b l) (hz : l.length ≤ 35184372088832) : Does Try.prog 52 [b] w0 [] (fun x : Nat × Value => .pointer (some ⟨x.1, 0, none⟩)) (fun x => rdr9 x.1 x.2 l 0 false) (fun _ => True) := by
  refine enter (n := 8) Try.func52 rfl rfl rfl ?_
  intro fr E
  have M : Mem w0 (feet []) [] (fun w' => Bytes w' b l) w0 := Mem.begin (Has.nil w0) (fun w' h => hb.held0 h)
  refine code_region ?_
  refine sv (v := _) E rfl rfl rfl rfl rfl (run_assignC rfl) fun fr E => ?_
  refine seq_nil' ?_
  refine code_region ?_
  refine srow (sz := 1) (xs := bc []) E M rfl rfl rfl rfl rfl (run_buildSlice0 rfl T.slice30 rfl) (rfl) (Nat.le_refl _) (by decide) (rfl) fun o fr w M E => ?_
  refine sv (v := _) E rfl rfl rfl rfl rfl (run_move rfl rfl) fun fr E => ?_
  refine sappB (i := 0) E M rfl rfl rfl rfl rfl rfl rfl rfl rfl rfl rfl T.slice30 T.slice30 T.zt5 T.by5 M.fact (by simp; omega) fun o fr w M E => ?_
  have M := M.as (L' := [.bytes 5 o l]) (by simp)
  obtain ⟨ob, oc, ho⟩ := Reads.slice (M.bytes 0 rfl); subst ho
  refine sv (v := .agg ([Value.slice ob l.length oc, .int .i64 0, .bool false]).toArray) E rfl rfl rfl rfl rfl (run_buildP (vs := [.slice ob l.length oc]) (us := [Value.slice ob l.length oc, .int .i64 0, .bool false]) rfl rfl T.ts118 T.zeroL118 (rfl) rfl rfl (rfl)) fun fr E => ?_
  refine snew (ob := .cells (#[.slice ob l.length oc, .int .i64 0, .bool false]) 118) (fun g => .pointer (some ⟨g, 0, none⟩)) E M rfl rfl rfl rfl rfl (run_boxN (cs := (#[.slice ob l.length oc, .int .i64 0, .bool false])) rfl rfl) fun g0 fr w M E => ?_
  refine sv (v := _) E rfl rfl rfl rfl rfl (run_assign rfl rfl) fun fr E => ?_
  refine seq_nil' ?_
  refine wp_ret ?_
  refine ret1 E rfl rfl ?_
  have M := M.asSub 1 rfl
  exact ⟨(_, _), rfl, M.fin (List.Sublist.refl _) trivial⟩

theorem RInt9_s {g : Nat} {bv : Value} {l : List UInt8} {w0 : World} (k : Nat) (H : Has w0 (rdr9 g bv l (st9 l k).1 (st9 l k).2)) (hz : l.length ≤ 35184372088832) : Does Try.prog 53 [.pointer (some ⟨g, 0, none⟩)] w0 (rdr9 g bv l (st9 l k).1 (st9 l k).2) (fun _ : Unit => iv (rInt (rst l k))) (fun _ => rdr9 g bv l (n9 8 l (st9 l k).1 (st9 l k).2).1 (n9 8 l (st9 l k).1 (st9 l k).2).2) (fun _ => True) := by
  have hat := st9_le l k
  rw [rst9]
  generalize (st9 l k).1 = at_ at *
  generalize (st9 l k).2 = bad at *
  have hlen : (l.drop at_).length = l.length - at_ := List.length_drop
  cases bad with
  | true => simp only [n9, rInt, rSum, rRef, eq_self, true_or, if_true]; exact RInt9_bad H hz hat rfl
  | false =>
    by_cases hn : l.length - at_ < 8
    · simp only [n9, rInt, rSum, rRef, hlen, hn, or_true, if_true]; exact RInt9_short H hz hat rfl hn
    · have hc : ¬ (false = true ∨ l.length - at_ < 8) := by simp; omega
      simp only [n9, rInt, rSum, rRef, hlen, hc, if_false]; exact RInt9_ok H hz hat rfl (by omega)

theorem RSum9_s {g : Nat} {bv : Value} {l : List UInt8} {w0 : World} (k : Nat) (H : Has w0 (rdr9 g bv l (st9 l k).1 (st9 l k).2)) (hz : l.length ≤ 35184372088832) : Does Try.prog 54 [.pointer (some ⟨g, 0, none⟩)] w0 (rdr9 g bv l (st9 l k).1 (st9 l k).2) (fun _ : Unit => .agg (bc (rSum (rst l k))).toArray) (fun _ => rdr9 g bv l (n9 32 l (st9 l k).1 (st9 l k).2).1 (n9 32 l (st9 l k).1 (st9 l k).2).2) (fun _ => True) := by
  have hat := st9_le l k
  rw [rst9]
  generalize (st9 l k).1 = at_ at *
  generalize (st9 l k).2 = bad at *
  have hlen : (l.drop at_).length = l.length - at_ := List.length_drop
  cases bad with
  | true => simp only [n9, rInt, rSum, rRef, eq_self, true_or, if_true]; exact RSum9_bad H hz hat rfl
  | false =>
    by_cases hn : l.length - at_ < 32
    · simp only [n9, rInt, rSum, rRef, hlen, hn, or_true, if_true]; exact RSum9_short H hz hat rfl hn
    · have hc : ¬ (false = true ∨ l.length - at_ < 32) := by simp; omega
      simp only [n9, rInt, rSum, rRef, hlen, hc, if_false]; exact RSum9_ok H hz hat rfl (by omega)

theorem RRef9_s {g : Nat} {bv : Value} {l : List UInt8} {w0 : World} (k : Nat) (H : Has w0 (rdr9 g bv l (st9 l k).1 (st9 l k).2)) (hz : l.length ≤ 35184372088832) : Does Try.prog 55 [.pointer (some ⟨g, 0, none⟩)] w0 (rdr9 g bv l (st9 l k).1 (st9 l k).2) (fun _ : Unit => .agg (iv (rRef (rst l k)).1 :: bc (rRef (rst l k)).2).toArray) (fun _ => rdr9 g bv l (n9 40 l (st9 l k).1 (st9 l k).2).1 (n9 40 l (st9 l k).1 (st9 l k).2).2) (fun _ => True) := by
  have hat := st9_le l k
  rw [rst9]
  generalize (st9 l k).1 = at_ at *
  generalize (st9 l k).2 = bad at *
  have hlen : (l.drop at_).length = l.length - at_ := List.length_drop
  cases bad with
  | true => simp only [n9, rInt, rSum, rRef, eq_self, true_or, if_true]; exact RRef9_bad H hz hat rfl
  | false =>
    by_cases hn : l.length - at_ < 40
    · simp only [n9, rInt, rSum, rRef, hlen, hn, or_true, if_true]; exact RRef9_short H hz hat rfl hn
    · have hc : ¬ (false = true ∨ l.length - at_ < 40) := by simp; omega
      simp only [n9, rInt, rSum, rRef, hlen, hc, if_false, ref_parts, List.drop_drop]; exact RRef9_ok H hz hat rfl (by omega)

theorem End9_s {g : Nat} {bv : Value} {l : List UInt8} {w0 : World} (k : Nat) (H : Has w0 (rdr9 g bv l (st9 l k).1 (st9 l k).2)) (hz : l.length ≤ 35184372088832) : Does Try.prog 56 [.pointer (some ⟨g, 0, none⟩)] w0 (rdr9 g bv l (st9 l k).1 (st9 l k).2) (fun _ : Unit => .int .i64 (rEnd (rst l k))) (fun _ => rdr9 g bv l (st9 l k).1 (st9 l k).2) (fun _ => True) := by
  have hat := st9_le l k
  rw [rst9]
  generalize (st9 l k).1 = at_ at *
  generalize (st9 l k).2 = bad at *
  have hlen : 0 < (l.drop at_).length ↔ at_ < l.length := by rw [List.length_drop]; omega
  cases bad with
  | true => exact End9_bad H hz hat rfl
  | false =>
    by_cases hl : at_ < l.length
    · simp only [rEnd, hlen, hl, if_true, Bool.false_eq_true, if_false]; exact End9_long H hz hat rfl hl
    · simp only [rEnd, hlen, hl, Bool.false_eq_true, if_false]; exact End9_ok H hz hat rfl hl

set_option maxRecDepth 100000 in
theorem Get14_bad {b : Value} {l : List UInt8} {w0 : World} (hb : Bytes w0 b l) (hz : l.length ≤ 35184372088832) (he : rEnd (rst l 11) ≠ 0) : Gives Try.prog 18 [b] w0 (.tuple #[Rec.zero.val, .int .i64 (rEnd (rst l 11))]) := by
  refine enter (n := 58) Try.func18 rfl rfl rfl ?_
  intro fr E
  have M : Mem w0 (feet []) [] (fun w' => Bytes w' b l) w0 := Mem.begin (Has.nil w0) (fun w' h => hb.held0 h)
  refine code_region ?_
  refine snew (ob := .cells _ 29) (fun g => .pointer (some ⟨g, 0, none⟩)) E M rfl rfl rfl rfl rfl (run_allocN rfl T.zero29) fun g0 fr w M E => ?_
  refine sv (v := _) E rfl rfl rfl rfl rfl (run_assignC rfl) fun fr E => ?_
  refine seq_nil' ?_
  refine code_region ?_
  refine sv (v := _) E rfl rfl rfl rfl rfl (run_move rfl rfl) fun fr E => ?_
  refine scall E M rfl rfl rfl rfl rfl (run_call rfl rfl T.fn52) (Read9_x M.fact hz) rfl ?_
  rintro ⟨g, rv⟩ fr w - M E
  refine sv (v := _) E rfl rfl rfl rfl rfl (run_assign rfl rfl) fun fr E => ?_
  refine seq_nil' ?_
  refine code_region ?_
  refine sv (v := .agg (Rec.zero.cells).toArray) E rfl rfl rfl rfl rfl (run_buildP (vs := []) (us := Rec.zero.cells) rfl rfl T.ts29 T.zeroL29 (rfl) rfl rfl (rfl)) fun fr E => ?_
  refine snew (ob := .cells _ 29) (fun g => .pointer (some ⟨g, 0, none⟩)) E M rfl rfl rfl rfl rfl (run_allocN rfl T.zero29) fun g1 fr w M E => ?_
  refine sset (i := 0) (cs' := Rec.zero.cells.toArray) E M rfl rfl rfl rfl rfl (run_storeAll (vs := Rec.zero.cells.toArray) rfl rfl rfl T.size29 (Rec.size Rec.zero_ok) (M.row (i := 0) rfl) rfl (fun v hv => Rec.ones _ v hv)) rfl fun fr w M E => ?_
  refine seq_nil' ?_
  refine code_region ?_
  refine sv (v := _) E rfl rfl rfl rfl rfl (run_move rfl rfl) fun fr E => ?_
  have M := M.pull 2 rfl
  have M := M.pull 2 rfl
  refine scallI (rdr9 g rv l (st9 l 0).1 (st9 l 0).2) E M rfl rfl rfl rfl rfl (run_call rfl rfl T.fn53) rfl (fun H => RInt9_s 0 H hz) ?_
  rintro _ fr w - M E
  refine sv (v := .pointer (some ⟨_, 0, none⟩)) E rfl rfl rfl rfl rfl (run_fieldAddr rfl rfl T.fld29_0) fun fr E => ?_
  refine sset (i := 2) (cs' := (Rec.q l 1).cells.toArray) E M rfl rfl rfl rfl rfl (run_store1' (v := _) rfl rfl rfl T.size3 (M.row (i := 2) rfl) (blt_of (Rec.size (Rec.q_ok l 0)) rfl) rfl (rfl)) rfl fun fr w M E => ?_
  refine seq_nil' ?_
  refine code_region ?_
  refine sv (v := _) E rfl rfl rfl rfl rfl (run_move rfl rfl) fun fr E => ?_
  refine scallI (rdr9 g rv l (st9 l 1).1 (st9 l 1).2) E M rfl rfl rfl rfl rfl (run_call rfl rfl T.fn53) rfl (fun H => RInt9_s 1 H hz) ?_
  rintro _ fr w - M E
  refine sv (v := .pointer (some ⟨_, 1, none⟩)) E rfl rfl rfl rfl rfl (run_fieldAddr rfl rfl T.fld29_1) fun fr E => ?_
  refine sset (i := 2) (cs' := (Rec.q l 2).cells.toArray) E M rfl rfl rfl rfl rfl (run_store1' (v := _) rfl rfl rfl T.size3 (M.row (i := 2) rfl) (blt_of (Rec.size (Rec.q_ok l 1)) rfl) rfl (rfl)) rfl fun fr w M E => ?_
  refine seq_nil' ?_
  refine code_region ?_
  refine sv (v := _) E rfl rfl rfl rfl rfl (run_move rfl rfl) fun fr E => ?_
  refine scallI (rdr9 g rv l (st9 l 2).1 (st9 l 2).2) E M rfl rfl rfl rfl rfl (run_call rfl rfl T.fn53) rfl (fun H => RInt9_s 2 H hz) ?_
  rintro _ fr w - M E
  refine sv (v := .pointer (some ⟨_, 2, none⟩)) E rfl rfl rfl rfl rfl (run_fieldAddr rfl rfl T.fld29_2) fun fr E => ?_
  refine sset (i := 2) (cs' := (Rec.q l 3).cells.toArray) E M rfl rfl rfl rfl rfl (run_store1' (v := _) rfl rfl rfl T.size3 (M.row (i := 2) rfl) (blt_of (Rec.size (Rec.q_ok l 2)) rfl) rfl (rfl)) rfl fun fr w M E => ?_
  refine seq_nil' ?_
  refine code_region ?_
  refine sv (v := _) E rfl rfl rfl rfl rfl (run_move rfl rfl) fun fr E => ?_
  refine scallI (rdr9 g rv l (st9 l 3).1 (st9 l 3).2) E M rfl rfl rfl rfl rfl (run_call rfl rfl T.fn54) rfl (fun H => RSum9_s 3 H hz) ?_
  rintro _ fr w - M E
  refine sv (v := .pointer (some ⟨_, 3, none⟩)) E rfl rfl rfl rfl rfl (run_fieldAddr rfl rfl T.fld29_3) fun fr E => ?_
  refine sset (i := 2) (cs' := (Rec.q l 4).cells.toArray) E M rfl rfl rfl rfl rfl (run_storeN' (vs := (bc (rSum (rst l 3))).toArray) rfl rfl rfl T.size23 (by simp [rSum_len, rRef_len]) (M.row (i := 2) rfl) (by simp [Rec.len (Rec.q_ok l 3)]) (List.all_eq_true.2 (fun v hv => bc_one _ v hv)) (congrArg List.toArray (Rec.s_super (Rec.q_ok l 3) _))) rfl fun fr w M E => ?_
  refine seq_nil' ?_
  refine code_region ?_
  refine sv (v := _) E rfl rfl rfl rfl rfl (run_move rfl rfl) fun fr E => ?_
  refine scallI (rdr9 g rv l (st9 l 4).1 (st9 l 4).2) E M rfl rfl rfl rfl rfl (run_call rfl rfl T.fn55) rfl (fun H => RRef9_s 4 H hz) ?_
  rintro _ fr w - M E
  refine sv (v := .pointer (some ⟨_, 35, none⟩)) E rfl rfl rfl rfl rfl (run_fieldAddr rfl rfl T.fld29_4) fun fr E => ?_
  refine sset (i := 2) (cs' := (Rec.q l 5).cells.toArray) E M rfl rfl rfl rfl rfl (run_storeN' (vs := (iv (rRef (rst l 4)).1 :: bc (rRef (rst l 4)).2).toArray) rfl rfl rfl T.size25 (by simp [rSum_len, rRef_len]) (M.row (i := 2) rfl) (by simp [Rec.len (Rec.q_ok l 4)]) (List.all_eq_true.2 (fun v hv => by rcases List.mem_cons.1 hv with rfl | hv; rfl; exact bc_one _ v hv)) (congrArg List.toArray (Rec.s_root (Rec.q_ok l 4) _ _))) rfl fun fr w M E => ?_
  refine seq_nil' ?_
  refine code_region ?_
  refine sv (v := _) E rfl rfl rfl rfl rfl (run_move rfl rfl) fun fr E => ?_
  refine scallI (rdr9 g rv l (st9 l 5).1 (st9 l 5).2) E M rfl rfl rfl rfl rfl (run_call rfl rfl T.fn53) rfl (fun H => RInt9_s 5 H hz) ?_
  rintro _ fr w - M E
  refine sv (v := .pointer (some ⟨_, 68, none⟩)) E rfl rfl rfl rfl rfl (run_fieldAddr rfl rfl T.fld29_5) fun fr E => ?_
  refine sv (v := .pointer (some ⟨_, 68, none⟩)) E rfl rfl rfl rfl rfl (run_fieldAddr rfl rfl T.fld27_0) fun fr E => ?_
  refine sset (i := 2) (cs' := (Rec.q l 6).cells.toArray) E M rfl rfl rfl rfl rfl (run_store1' (v := _) rfl rfl rfl T.size3 (M.row (i := 2) rfl) (blt_of (Rec.size (Rec.q_ok l 5)) rfl) rfl (congrArg List.toArray (Rec.s_bseg (Rec.q_ok l 5) _))) rfl fun fr w M E => ?_
  refine seq_nil' ?_
  refine code_region ?_
  refine sv (v := _) E rfl rfl rfl rfl rfl (run_move rfl rfl) fun fr E => ?_
  refine scallI (rdr9 g rv l (st9 l 6).1 (st9 l 6).2) E M rfl rfl rfl rfl rfl (run_call rfl rfl T.fn53) rfl (fun H => RInt9_s 6 H hz) ?_
  rintro _ fr w - M E
  refine sv (v := .pointer (some ⟨_, 68, none⟩)) E rfl rfl rfl rfl rfl (run_fieldAddr rfl rfl T.fld29_5) fun fr E => ?_
  refine sv (v := .pointer (some ⟨_, 69, none⟩)) E rfl rfl rfl rfl rfl (run_fieldAddr rfl rfl T.fld27_1) fun fr E => ?_
  refine sset (i := 2) (cs' := (Rec.q l 7).cells.toArray) E M rfl rfl rfl rfl rfl (run_store1' (v := _) rfl rfl rfl T.size3 (M.row (i := 2) rfl) (blt_of (Rec.size (Rec.q_ok l 6)) rfl) rfl (congrArg List.toArray (Rec.s_bslot (Rec.q_ok l 6) _))) rfl fun fr w M E => ?_
  refine seq_nil' ?_
  refine code_region ?_
  refine sv (v := _) E rfl rfl rfl rfl rfl (run_move rfl rfl) fun fr E => ?_
  refine scallI (rdr9 g rv l (st9 l 7).1 (st9 l 7).2) E M rfl rfl rfl rfl rfl (run_call rfl rfl T.fn53) rfl (fun H => RInt9_s 7 H hz) ?_
  rintro _ fr w - M E
  refine sv (v := .pointer (some ⟨_, 70, none⟩)) E rfl rfl rfl rfl rfl (run_fieldAddr rfl rfl T.fld29_6) fun fr E => ?_
  refine sv (v := .pointer (some ⟨_, 70, none⟩)) E rfl rfl rfl rfl rfl (run_fieldAddr rfl rfl T.fld27_0) fun fr E => ?_
  refine sset (i := 2) (cs' := (Rec.q l 8).cells.toArray) E M rfl rfl rfl rfl rfl (run_store1' (v := _) rfl rfl rfl T.size3 (M.row (i := 2) rfl) (blt_of (Rec.size (Rec.q_ok l 7)) rfl) rfl (congrArg List.toArray (Rec.s_tseg (Rec.q_ok l 7) _))) rfl fun fr w M E => ?_
  refine seq_nil' ?_
  refine code_region ?_
  refine sv (v := _) E rfl rfl rfl rfl rfl (run_move rfl rfl) fun fr E => ?_
  refine scallI (rdr9 g rv l (st9 l 8).1 (st9 l 8).2) E M rfl rfl rfl rfl rfl (run_call rfl rfl T.fn53) rfl (fun H => RInt9_s 8 H hz) ?_
  rintro _ fr w - M E
  refine sv (v := .pointer (some ⟨_, 70, none⟩)) E rfl rfl rfl rfl rfl (run_fieldAddr rfl rfl T.fld29_6) fun fr E => ?_
  refine sv (v := .pointer (some ⟨_, 71, none⟩)) E rfl rfl rfl rfl rfl (run_fieldAddr rfl rfl T.fld27_1) fun fr E => ?_
  refine sset (i := 2) (cs' := (Rec.q l 9).cells.toArray) E M rfl rfl rfl rfl rfl (run_store1' (v := _) rfl rfl rfl T.size3 (M.row (i := 2) rfl) (blt_of (Rec.size (Rec.q_ok l 8)) rfl) rfl (congrArg List.toArray (Rec.s_tslot (Rec.q_ok l 8) _))) rfl fun fr w M E => ?_
  refine seq_nil' ?_
  refine code_region ?_
  refine sv (v := _) E rfl rfl rfl rfl rfl (run_move rfl rfl) fun fr E => ?_
  refine scallI (rdr9 g rv l (st9 l 9).1 (st9 l 9).2) E M rfl rfl rfl rfl rfl (run_call rfl rfl T.fn54) rfl (fun H => RSum9_s 9 H hz) ?_
  rintro _ fr w - M E
  refine sv (v := .pointer (some ⟨_, 72, none⟩)) E rfl rfl rfl rfl rfl (run_fieldAddr rfl rfl T.fld29_7) fun fr E => ?_
  refine sset (i := 2) (cs' := (Rec.q l 10).cells.toArray) E M rfl rfl rfl rfl rfl (run_storeN' (vs := (bc (rSum (rst l 9))).toArray) rfl rfl rfl T.size23 (by simp [rSum_len, rRef_len]) (M.row (i := 2) rfl) (by simp [Rec.len (Rec.q_ok l 9)]) (List.all_eq_true.2 (fun v hv => bc_one _ v hv)) (congrArg List.toArray (Rec.s_bsum (Rec.q_ok l 9) _))) rfl fun fr w M E => ?_
  refine seq_nil' ?_
  refine code_region ?_
  refine sv (v := _) E rfl rfl rfl rfl rfl (run_move rfl rfl) fun fr E => ?_
  refine scallI (rdr9 g rv l (st9 l 10).1 (st9 l 10).2) E M rfl rfl rfl rfl rfl (run_call rfl rfl T.fn54) rfl (fun H => RSum9_s 10 H hz) ?_
  rintro _ fr w - M E
  refine sv (v := .pointer (some ⟨_, 104, none⟩)) E rfl rfl rfl rfl rfl (run_fieldAddr rfl rfl T.fld29_8) fun fr E => ?_
  refine sset (i := 2) (cs' := (Rec.q l 11).cells.toArray) E M rfl rfl rfl rfl rfl (run_storeN' (vs := (bc (rSum (rst l 10))).toArray) rfl rfl rfl T.size23 (by simp [rSum_len, rRef_len]) (M.row (i := 2) rfl) (by simp [Rec.len (Rec.q_ok l 10)]) (List.all_eq_true.2 (fun v hv => bc_one _ v hv)) (congrArg List.toArray (Rec.s_tsum (Rec.q_ok l 10) _))) rfl fun fr w M E => ?_
  refine seq_nil' ?_
  refine code_region ?_
  refine sv (v := _) E rfl rfl rfl rfl rfl (run_move rfl rfl) fun fr E => ?_
  refine scallI (rdr9 g rv l (st9 l 11).1 (st9 l 11).2) E M rfl rfl rfl rfl rfl (run_call rfl rfl T.fn56) rfl (fun H => End9_s 11 H hz) ?_
  rintro _ fr w - M E
  refine sv (v := _) E rfl rfl rfl rfl rfl (run_assign rfl rfl) fun fr E => ?_
  refine seq_nil' ?_
  refine wp_seq ?_
  refine code_region ?_
  refine sv (v := _) E rfl rfl rfl rfl rfl (run_move rfl rfl) fun fr E => ?_
  refine sv (v := .bool true) E rfl rfl rfl rfl rfl (tst rfl (by simp; exact he)) fun fr E => ?_
  refine seq_nil' ?_
  refine cond_true E rfl (rfl) ?_
  refine code_region ?_
  refine sv (v := .agg (Rec.zero.cells).toArray) E rfl rfl rfl rfl rfl (run_buildP (vs := []) (us := Rec.zero.cells) rfl rfl T.ts29 T.zeroL29 (rfl) rfl rfl (rfl)) fun fr E => ?_
  refine sv (v := _) E rfl rfl rfl rfl rfl (run_move rfl rfl) fun fr E => ?_
  refine sset (i := 3) (cs' := Rec.zero.cells.toArray) E M rfl rfl rfl rfl rfl (run_storeAll (vs := Rec.zero.cells.toArray) rfl rfl rfl T.size29 (Rec.size Rec.zero_ok) (M.row (i := 3) rfl) rfl (fun v hv => Rec.ones _ v hv)) rfl fun fr w M E => ?_
  refine sv (v := _) E rfl rfl rfl rfl rfl (run_assign rfl rfl) fun fr E => ?_
  refine seq_nil' ?_
  refine wp_ret ?_
  refine then_ret ?_
  refine retC2 E rfl rfl rfl T.agg29 (M.row (i := 3) rfl) (Rec.size (Rec.zero_ok)) ?_
  exact given M

set_option maxRecDepth 100000 in
theorem Get14_ok {b : Value} {l : List UInt8} {w0 : World} (hb : Bytes w0 b l) (hz : l.length ≤ 35184372088832) (he : rEnd (rst l 11) = 0) (hm : (Rec.read l).May) : Gives Try.prog 18 [b] w0 (.tuple #[(Rec.read l).val, .int .i64 0]) := by
  refine enter (n := 58) Try.func18 rfl rfl rfl ?_
  intro fr E
  have M : Mem w0 (feet []) [] (fun w' => Bytes w' b l) w0 := Mem.begin (Has.nil w0) (fun w' h => hb.held0 h)
  refine code_region ?_
  refine snew (ob := .cells _ 29) (fun g => .pointer (some ⟨g, 0, none⟩)) E M rfl rfl rfl rfl rfl (run_allocN rfl T.zero29) fun g0 fr w M E => ?_
  refine sv (v := _) E rfl rfl rfl rfl rfl (run_assignC rfl) fun fr E => ?_
  refine seq_nil' ?_
  refine code_region ?_
  refine sv (v := _) E rfl rfl rfl rfl rfl (run_move rfl rfl) fun fr E => ?_
  refine scall E M rfl rfl rfl rfl rfl (run_call rfl rfl T.fn52) (Read9_x M.fact hz) rfl ?_
  rintro ⟨g, rv⟩ fr w - M E
  refine sv (v := _) E rfl rfl rfl rfl rfl (run_assign rfl rfl) fun fr E => ?_
  refine seq_nil' ?_
  refine code_region ?_
  refine sv (v := .agg (Rec.zero.cells).toArray) E rfl rfl rfl rfl rfl (run_buildP (vs := []) (us := Rec.zero.cells) rfl rfl T.ts29 T.zeroL29 (rfl) rfl rfl (rfl)) fun fr E => ?_
  refine snew (ob := .cells _ 29) (fun g => .pointer (some ⟨g, 0, none⟩)) E M rfl rfl rfl rfl rfl (run_allocN rfl T.zero29) fun g1 fr w M E => ?_
  refine sset (i := 0) (cs' := Rec.zero.cells.toArray) E M rfl rfl rfl rfl rfl (run_storeAll (vs := Rec.zero.cells.toArray) rfl rfl rfl T.size29 (Rec.size Rec.zero_ok) (M.row (i := 0) rfl) rfl (fun v hv => Rec.ones _ v hv)) rfl fun fr w M E => ?_
  refine seq_nil' ?_
  refine code_region ?_
  refine sv (v := _) E rfl rfl rfl rfl rfl (run_move rfl rfl) fun fr E => ?_
  have M := M.pull 2 rfl
  have M := M.pull 2 rfl
  refine scallI (rdr9 g rv l (st9 l 0).1 (st9 l 0).2) E M rfl rfl rfl rfl rfl (run_call rfl rfl T.fn53) rfl (fun H => RInt9_s 0 H hz) ?_
  rintro _ fr w - M E
  refine sv (v := .pointer (some ⟨_, 0, none⟩)) E rfl rfl rfl rfl rfl (run_fieldAddr rfl rfl T.fld29_0) fun fr E => ?_
  refine sset (i := 2) (cs' := (Rec.q l 1).cells.toArray) E M rfl rfl rfl rfl rfl (run_store1' (v := _) rfl rfl rfl T.size3 (M.row (i := 2) rfl) (blt_of (Rec.size (Rec.q_ok l 0)) rfl) rfl (rfl)) rfl fun fr w M E => ?_
  refine seq_nil' ?_
  refine code_region ?_
  refine sv (v := _) E rfl rfl rfl rfl rfl (run_move rfl rfl) fun fr E => ?_
  refine scallI (rdr9 g rv l (st9 l 1).1 (st9 l 1).2) E M rfl rfl rfl rfl rfl (run_call rfl rfl T.fn53) rfl (fun H => RInt9_s 1 H hz) ?_
  rintro _ fr w - M E
  refine sv (v := .pointer (some ⟨_, 1, none⟩)) E rfl rfl rfl rfl rfl (run_fieldAddr rfl rfl T.fld29_1) fun fr E => ?_
  refine sset (i := 2) (cs' := (Rec.q l 2).cells.toArray) E M rfl rfl rfl rfl rfl (run_store1' (v := _) rfl rfl rfl T.size3 (M.row (i := 2) rfl) (blt_of (Rec.size (Rec.q_ok l 1)) rfl) rfl (rfl)) rfl fun fr w M E => ?_
  refine seq_nil' ?_
  refine code_region ?_
  refine sv (v := _) E rfl rfl rfl rfl rfl (run_move rfl rfl) fun fr E => ?_
  refine scallI (rdr9 g rv l (st9 l 2).1 (st9 l 2).2) E M rfl rfl rfl rfl rfl (run_call rfl rfl T.fn53) rfl (fun H => RInt9_s 2 H hz) ?_
  rintro _ fr w - M E
  refine sv (v := .pointer (some ⟨_, 2, none⟩)) E rfl rfl rfl rfl rfl (run_fieldAddr rfl rfl T.fld29_2) fun fr E => ?_
  refine sset (i := 2) (cs' := (Rec.q l 3).cells.toArray) E M rfl rfl rfl rfl rfl (run_store1' (v := _) rfl rfl rfl T.size3 (M.row (i := 2) rfl) (blt_of (Rec.size (Rec.q_ok l 2)) rfl) rfl (rfl)) rfl fun fr w M E => ?_
  refine seq_nil' ?_
  refine code_region ?_
  refine sv (v := _) E rfl rfl rfl rfl rfl (run_move rfl rfl) fun fr E => ?_
  refine scallI (rdr9 g rv l (st9 l 3).1 (st9 l 3).2) E M rfl rfl rfl rfl rfl (run_call rfl rfl T.fn54) rfl (fun H => RSum9_s 3 H hz) ?_
  rintro _ fr w - M E
  refine sv (v := .pointer (some ⟨_, 3, none⟩)) E rfl rfl rfl rfl rfl (run_fieldAddr rfl rfl T.fld29_3) fun fr E => ?_
  refine sset (i := 2) (cs' := (Rec.q l 4).cells.toArray) E M rfl rfl rfl rfl rfl (run_storeN' (vs := (bc (rSum (rst l 3))).toArray) rfl rfl rfl T.size23 (by simp [rSum_len, rRef_len]) (M.row (i := 2) rfl) (by simp [Rec.len (Rec.q_ok l 3)]) (List.all_eq_true.2 (fun v hv => bc_one _ v hv)) (congrArg List.toArray (Rec.s_super (Rec.q_ok l 3) _))) rfl fun fr w M E => ?_
  refine seq_nil' ?_
  refine code_region ?_
  refine sv (v := _) E rfl rfl rfl rfl rfl (run_move rfl rfl) fun fr E => ?_
  refine scallI (rdr9 g rv l (st9 l 4).1 (st9 l 4).2) E M rfl rfl rfl rfl rfl (run_call rfl rfl T.fn55) rfl (fun H => RRef9_s 4 H hz) ?_
  rintro _ fr w - M E
  refine sv (v := .pointer (some ⟨_, 35, none⟩)) E rfl rfl rfl rfl rfl (run_fieldAddr rfl rfl T.fld29_4) fun fr E => ?_
  refine sset (i := 2) (cs' := (Rec.q l 5).cells.toArray) E M rfl rfl rfl rfl rfl (run_storeN' (vs := (iv (rRef (rst l 4)).1 :: bc (rRef (rst l 4)).2).toArray) rfl rfl rfl T.size25 (by simp [rSum_len, rRef_len]) (M.row (i := 2) rfl) (by simp [Rec.len (Rec.q_ok l 4)]) (List.all_eq_true.2 (fun v hv => by rcases List.mem_cons.1 hv with rfl | hv; rfl; exact bc_one _ v hv)) (congrArg List.toArray (Rec.s_root (Rec.q_ok l 4) _ _))) rfl fun fr w M E => ?_
  refine seq_nil' ?_
  refine code_region ?_
  refine sv (v := _) E rfl rfl rfl rfl rfl (run_move rfl rfl) fun fr E => ?_
  refine scallI (rdr9 g rv l (st9 l 5).1 (st9 l 5).2) E M rfl rfl rfl rfl rfl (run_call rfl rfl T.fn53) rfl (fun H => RInt9_s 5 H hz) ?_
  rintro _ fr w - M E
  refine sv (v := .pointer (some ⟨_, 68, none⟩)) E rfl rfl rfl rfl rfl (run_fieldAddr rfl rfl T.fld29_5) fun fr E => ?_
  refine sv (v := .pointer (some ⟨_, 68, none⟩)) E rfl rfl rfl rfl rfl (run_fieldAddr rfl rfl T.fld27_0) fun fr E => ?_
  refine sset (i := 2) (cs' := (Rec.q l 6).cells.toArray) E M rfl rfl rfl rfl rfl (run_store1' (v := _) rfl rfl rfl T.size3 (M.row (i := 2) rfl) (blt_of (Rec.size (Rec.q_ok l 5)) rfl) rfl (congrArg List.toArray (Rec.s_bseg (Rec.q_ok l 5) _))) rfl fun fr w M E => ?_
  refine seq_nil' ?_
  refine code_region ?_
  refine sv (v := _) E rfl rfl rfl rfl rfl (run_move rfl rfl) fun fr E => ?_
  refine scallI (rdr9 g rv l (st9 l 6).1 (st9 l 6).2) E M rfl rfl rfl rfl rfl (run_call rfl rfl T.fn53) rfl (fun H => RInt9_s 6 H hz) ?_
  rintro _ fr w - M E
  refine sv (v := .pointer (some ⟨_, 68, none⟩)) E rfl rfl rfl rfl rfl (run_fieldAddr rfl rfl T.fld29_5) fun fr E => ?_
  refine sv (v := .pointer (some ⟨_, 69, none⟩)) E rfl rfl rfl rfl rfl (run_fieldAddr rfl rfl T.fld27_1) fun fr E => ?_
  refine sset (i := 2) (cs' := (Rec.q l 7).cells.toArray) E M rfl rfl rfl rfl rfl (run_store1' (v := _) rfl rfl rfl T.size3 (M.row (i := 2) rfl) (blt_of (Rec.size (Rec.q_ok l 6)) rfl) rfl (congrArg List.toArray (Rec.s_bslot (Rec.q_ok l 6) _))) rfl fun fr w M E => ?_
  refine seq_nil' ?_
  refine code_region ?_
  refine sv (v := _) E rfl rfl rfl rfl rfl (run_move rfl rfl) fun fr E => ?_
  refine scallI (rdr9 g rv l (st9 l 7).1 (st9 l 7).2) E M rfl rfl rfl rfl rfl (run_call rfl rfl T.fn53) rfl (fun H => RInt9_s 7 H hz) ?_
  rintro _ fr w - M E
  refine sv (v := .pointer (some ⟨_, 70, none⟩)) E rfl rfl rfl rfl rfl (run_fieldAddr rfl rfl T.fld29_6) fun fr E => ?_
  refine sv (v := .pointer (some ⟨_, 70, none⟩)) E rfl rfl rfl rfl rfl (run_fieldAddr rfl rfl T.fld27_0) fun fr E => ?_
  refine sset (i := 2) (cs' := (Rec.q l 8).cells.toArray) E M rfl rfl rfl rfl rfl (run_store1' (v := _) rfl rfl rfl T.size3 (M.row (i := 2) rfl) (blt_of (Rec.size (Rec.q_ok l 7)) rfl) rfl (congrArg List.toArray (Rec.s_tseg (Rec.q_ok l 7) _))) rfl fun fr w M E => ?_
  refine seq_nil' ?_
  refine code_region ?_
  refine sv (v := _) E rfl rfl rfl rfl rfl (run_move rfl rfl) fun fr E => ?_
  refine scallI (rdr9 g rv l (st9 l 8).1 (st9 l 8).2) E M rfl rfl rfl rfl rfl (run_call rfl rfl T.fn53) rfl (fun H => RInt9_s 8 H hz) ?_
  rintro _ fr w - M E
  refine sv (v := .pointer (some ⟨_, 70, none⟩)) E rfl rfl rfl rfl rfl (run_fieldAddr rfl rfl T.fld29_6) fun fr E => ?_
  refine sv (v := .pointer (some ⟨_, 71, none⟩)) E rfl rfl rfl rfl rfl (run_fieldAddr rfl rfl T.fld27_1) fun fr E => ?_
  refine sset (i := 2) (cs' := (Rec.q l 9).cells.toArray) E M rfl rfl rfl rfl rfl (run_store1' (v := _) rfl rfl rfl T.size3 (M.row (i := 2) rfl) (blt_of (Rec.size (Rec.q_ok l 8)) rfl) rfl (congrArg List.toArray (Rec.s_tslot (Rec.q_ok l 8) _))) rfl fun fr w M E => ?_
  refine seq_nil' ?_
  refine code_region ?_
  refine sv (v := _) E rfl rfl rfl rfl rfl (run_move rfl rfl) fun fr E => ?_
  refine scallI (rdr9 g rv l (st9 l 9).1 (st9 l 9).2) E M rfl rfl rfl rfl rfl (run_call rfl rfl T.fn54) rfl (fun H => RSum9_s 9 H hz) ?_
  rintro _ fr w - M E
  refine sv (v := .pointer (some ⟨_, 72, none⟩)) E rfl rfl rfl rfl rfl (run_fieldAddr rfl rfl T.fld29_7) fun fr E => ?_
  refine sset (i := 2) (cs' := (Rec.q l 10).cells.toArray) E M rfl rfl rfl rfl rfl (run_storeN' (vs := (bc (rSum (rst l 9))).toArray) rfl rfl rfl T.size23 (by simp [rSum_len, rRef_len]) (M.row (i := 2) rfl) (by simp [Rec.len (Rec.q_ok l 9)]) (List.all_eq_true.2 (fun v hv => bc_one _ v hv)) (congrArg List.toArray (Rec.s_bsum (Rec.q_ok l 9) _))) rfl fun fr w M E => ?_
  refine seq_nil' ?_
  refine code_region ?_
  refine sv (v := _) E rfl rfl rfl rfl rfl (run_move rfl rfl) fun fr E => ?_
  refine scallI (rdr9 g rv l (st9 l 10).1 (st9 l 10).2) E M rfl rfl rfl rfl rfl (run_call rfl rfl T.fn54) rfl (fun H => RSum9_s 10 H hz) ?_
  rintro _ fr w - M E
  refine sv (v := .pointer (some ⟨_, 104, none⟩)) E rfl rfl rfl rfl rfl (run_fieldAddr rfl rfl T.fld29_8) fun fr E => ?_
  refine sset (i := 2) (cs' := (Rec.q l 11).cells.toArray) E M rfl rfl rfl rfl rfl (run_storeN' (vs := (bc (rSum (rst l 10))).toArray) rfl rfl rfl T.size23 (by simp [rSum_len, rRef_len]) (M.row (i := 2) rfl) (by simp [Rec.len (Rec.q_ok l 10)]) (List.all_eq_true.2 (fun v hv => bc_one _ v hv)) (congrArg List.toArray (Rec.s_tsum (Rec.q_ok l 10) _))) rfl fun fr w M E => ?_
  refine seq_nil' ?_
  refine code_region ?_
  refine sv (v := _) E rfl rfl rfl rfl rfl (run_move rfl rfl) fun fr E => ?_
  refine scallI (rdr9 g rv l (st9 l 11).1 (st9 l 11).2) E M rfl rfl rfl rfl rfl (run_call rfl rfl T.fn56) rfl (fun H => End9_s 11 H hz) ?_
  rintro _ fr w - M E
  refine sv (v := _) E rfl rfl rfl rfl rfl (run_assign rfl rfl) fun fr E => ?_
  refine seq_nil' ?_
  refine wp_seq ?_
  refine code_region ?_
  refine sv (v := _) E rfl rfl rfl rfl rfl (run_move rfl rfl) fun fr E => ?_
  refine sv (v := .bool false) E rfl rfl rfl rfl rfl (tst rfl (by simp; exact he)) fun fr E => ?_
  refine seq_nil' ?_
  refine cond_false E rfl (rfl) ?_
  refine wp_skip ?_
  refine then_normal ?_
  refine wp_seq ?_
  refine code_region ?_
  refine sv (v := .agg (Rec.read l).cells.toArray) E rfl rfl rfl rfl rfl (run_loadAll rfl rfl T.agg29 (M.row (i := 2) rfl) (Rec.size (Rec.read_ok l))) fun fr E => ?_
  refine sgive E M rfl rfl rfl rfl rfl (run_call rfl rfl T.fn43) (May14_x (Rec.read_ok l) _) fun fr w M E => ?_
  rw [decide_eq_true hm] at E
  refine sv (v := .bool _) E rfl rfl rfl rfl rfl (rfl) fun fr E => ?_
  refine seq_nil' ?_
  refine cond_false E rfl (rfl) ?_
  refine wp_skip ?_
  refine then_normal ?_
  refine code_region ?_
  refine sv (v := .agg (Rec.read l).cells.toArray) E rfl rfl rfl rfl rfl (run_loadAll rfl rfl T.agg29 (M.row (i := 2) rfl) (Rec.size (Rec.read_ok l))) fun fr E => ?_
  refine sset (i := 3) (cs' := (Rec.read l).cells.toArray) E M rfl rfl rfl rfl rfl (run_storeAll (vs := (Rec.read l).cells.toArray) rfl rfl rfl T.size29 (Rec.size (Rec.read_ok l)) (M.row (i := 3) rfl) rfl (fun v hv => Rec.ones _ v hv)) rfl fun fr w M E => ?_
  refine sv (v := _) E rfl rfl rfl rfl rfl (run_assignC rfl) fun fr E => ?_
  refine seq_nil' ?_
  refine wp_ret ?_
  refine retC2 E rfl rfl rfl T.agg29 (M.row (i := 3) rfl) (Rec.size (Rec.read_ok l)) ?_
  exact given M

set_option maxRecDepth 100000 in
theorem Get14_no {b : Value} {l : List UInt8} {w0 : World} (hb : Bytes w0 b l) (hz : l.length ≤ 35184372088832) (he : rEnd (rst l 11) = 0) (hm : ¬ (Rec.read l).May) : Gives Try.prog 18 [b] w0 (.tuple #[Rec.zero.val, .int .i64 7]) := by
  refine enter (n := 58) Try.func18 rfl rfl rfl ?_
  intro fr E
  have M : Mem w0 (feet []) [] (fun w' => Bytes w' b l) w0 := Mem.begin (Has.nil w0) (fun w' h => hb.held0 h)
  refine code_region ?_
  refine snew (ob := .cells _ 29) (fun g => .pointer (some ⟨g, 0, none⟩)) E M rfl rfl rfl rfl rfl (run_allocN rfl T.zero29) fun g0 fr w M E => ?_
  refine sv (v := _) E rfl rfl rfl rfl rfl (run_assignC rfl) fun fr E => ?_
  refine seq_nil' ?_
  refine code_region ?_
  refine sv (v := _) E rfl rfl rfl rfl rfl (run_move rfl rfl) fun fr E => ?_
  refine scall E M rfl rfl rfl rfl rfl (run_call rfl rfl T.fn52) (Read9_x M.fact hz) rfl ?_
  rintro ⟨g, rv⟩ fr w - M E
  refine sv (v := _) E rfl rfl rfl rfl rfl (run_assign rfl rfl) fun fr E => ?_
  refine seq_nil' ?_
  refine code_region ?_
  refine sv (v := .agg (Rec.zero.cells).toArray) E rfl rfl rfl rfl rfl (run_buildP (vs := []) (us := Rec.zero.cells) rfl rfl T.ts29 T.zeroL29 (rfl) rfl rfl (rfl)) fun fr E => ?_
  refine snew (ob := .cells _ 29) (fun g => .pointer (some ⟨g, 0, none⟩)) E M rfl rfl rfl rfl rfl (run_allocN rfl T.zero29) fun g1 fr w M E => ?_
  refine sset (i := 0) (cs' := Rec.zero.cells.toArray) E M rfl rfl rfl rfl rfl (run_storeAll (vs := Rec.zero.cells.toArray) rfl rfl rfl T.size29 (Rec.size Rec.zero_ok) (M.row (i := 0) rfl) rfl (fun v hv => Rec.ones _ v hv)) rfl fun fr w M E => ?_
  refine seq_nil' ?_
  refine code_region ?_
  refine sv (v := _) E rfl rfl rfl rfl rfl (run_move rfl rfl) fun fr E => ?_
  have M := M.pull 2 rfl
  have M := M.pull 2 rfl
  refine scallI (rdr9 g rv l (st9 l 0).1 (st9 l 0).2) E M rfl rfl rfl rfl rfl (run_call rfl rfl T.fn53) rfl (fun H => RInt9_s 0 H hz) ?_
  rintro _ fr w - M E
  refine sv (v := .pointer (some ⟨_, 0, none⟩)) E rfl rfl rfl rfl rfl (run_fieldAddr rfl rfl T.fld29_0) fun fr E => ?_
  refine sset (i := 2) (cs' := (Rec.q l 1).cells.toArray) E M rfl rfl rfl rfl rfl (run_store1' (v := _) rfl rfl rfl T.size3 (M.row (i := 2) rfl) (blt_of (Rec.size (Rec.q_ok l 0)) rfl) rfl (rfl)) rfl fun fr w M E => ?_
  refine seq_nil' ?_
  refine code_region ?_
  refine sv (v := _) E rfl rfl rfl rfl rfl (run_move rfl rfl) fun fr E => ?_
  refine scallI (rdr9 g rv l (st9 l 1).1 (st9 l 1).2) E M rfl rfl rfl rfl rfl (run_call rfl rfl T.fn53) rfl (fun H => RInt9_s 1 H hz) ?_
  rintro _ fr w - M E
  refine sv (v := .pointer (some ⟨_, 1, none⟩)) E rfl rfl rfl rfl rfl (run_fieldAddr rfl rfl T.fld29_1) fun fr E => ?_
  refine sset (i := 2) (cs' := (Rec.q l 2).cells.toArray) E M rfl rfl rfl rfl rfl (run_store1' (v := _) rfl rfl rfl T.size3 (M.row (i := 2) rfl) (blt_of (Rec.size (Rec.q_ok l 1)) rfl) rfl (rfl)) rfl fun fr w M E => ?_
  refine seq_nil' ?_
  refine code_region ?_
  refine sv (v := _) E rfl rfl rfl rfl rfl (run_move rfl rfl) fun fr E => ?_
  refine scallI (rdr9 g rv l (st9 l 2).1 (st9 l 2).2) E M rfl rfl rfl rfl rfl (run_call rfl rfl T.fn53) rfl (fun H => RInt9_s 2 H hz) ?_
  rintro _ fr w - M E
  refine sv (v := .pointer (some ⟨_, 2, none⟩)) E rfl rfl rfl rfl rfl (run_fieldAddr rfl rfl T.fld29_2) fun fr E => ?_
  refine sset (i := 2) (cs' := (Rec.q l 3).cells.toArray) E M rfl rfl rfl rfl rfl (run_store1' (v := _) rfl rfl rfl T.size3 (M.row (i := 2) rfl) (blt_of (Rec.size (Rec.q_ok l 2)) rfl) rfl (rfl)) rfl fun fr w M E => ?_
  refine seq_nil' ?_
  refine code_region ?_
  refine sv (v := _) E rfl rfl rfl rfl rfl (run_move rfl rfl) fun fr E => ?_
  refine scallI (rdr9 g rv l (st9 l 3).1 (st9 l 3).2) E M rfl rfl rfl rfl rfl (run_call rfl rfl T.fn54) rfl (fun H => RSum9_s 3 H hz) ?_
  rintro _ fr w - M E
  refine sv (v := .pointer (some ⟨_, 3, none⟩)) E rfl rfl rfl rfl rfl (run_fieldAddr rfl rfl T.fld29_3) fun fr E => ?_
  refine sset (i := 2) (cs' := (Rec.q l 4).cells.toArray) E M rfl rfl rfl rfl rfl (run_storeN' (vs := (bc (rSum (rst l 3))).toArray) rfl rfl rfl T.size23 (by simp [rSum_len, rRef_len]) (M.row (i := 2) rfl) (by simp [Rec.len (Rec.q_ok l 3)]) (List.all_eq_true.2 (fun v hv => bc_one _ v hv)) (congrArg List.toArray (Rec.s_super (Rec.q_ok l 3) _))) rfl fun fr w M E => ?_
  refine seq_nil' ?_
  refine code_region ?_
  refine sv (v := _) E rfl rfl rfl rfl rfl (run_move rfl rfl) fun fr E => ?_
  refine scallI (rdr9 g rv l (st9 l 4).1 (st9 l 4).2) E M rfl rfl rfl rfl rfl (run_call rfl rfl T.fn55) rfl (fun H => RRef9_s 4 H hz) ?_
  rintro _ fr w - M E
  refine sv (v := .pointer (some ⟨_, 35, none⟩)) E rfl rfl rfl rfl rfl (run_fieldAddr rfl rfl T.fld29_4) fun fr E => ?_
  refine sset (i := 2) (cs' := (Rec.q l 5).cells.toArray) E M rfl rfl rfl rfl rfl (run_storeN' (vs := (iv (rRef (rst l 4)).1 :: bc (rRef (rst l 4)).2).toArray) rfl rfl rfl T.size25 (by simp [rSum_len, rRef_len]) (M.row (i := 2) rfl) (by simp [Rec.len (Rec.q_ok l 4)]) (List.all_eq_true.2 (fun v hv => by rcases List.mem_cons.1 hv with rfl | hv; rfl; exact bc_one _ v hv)) (congrArg List.toArray (Rec.s_root (Rec.q_ok l 4) _ _))) rfl fun fr w M E => ?_
  refine seq_nil' ?_
  refine code_region ?_
  refine sv (v := _) E rfl rfl rfl rfl rfl (run_move rfl rfl) fun fr E => ?_
  refine scallI (rdr9 g rv l (st9 l 5).1 (st9 l 5).2) E M rfl rfl rfl rfl rfl (run_call rfl rfl T.fn53) rfl (fun H => RInt9_s 5 H hz) ?_
  rintro _ fr w - M E
  refine sv (v := .pointer (some ⟨_, 68, none⟩)) E rfl rfl rfl rfl rfl (run_fieldAddr rfl rfl T.fld29_5) fun fr E => ?_
  refine sv (v := .pointer (some ⟨_, 68, none⟩)) E rfl rfl rfl rfl rfl (run_fieldAddr rfl rfl T.fld27_0) fun fr E => ?_
  refine sset (i := 2) (cs' := (Rec.q l 6).cells.toArray) E M rfl rfl rfl rfl rfl (run_store1' (v := _) rfl rfl rfl T.size3 (M.row (i := 2) rfl) (blt_of (Rec.size (Rec.q_ok l 5)) rfl) rfl (congrArg List.toArray (Rec.s_bseg (Rec.q_ok l 5) _))) rfl fun fr w M E => ?_
  refine seq_nil' ?_
  refine code_region ?_
  refine sv (v := _) E rfl rfl rfl rfl rfl (run_move rfl rfl) fun fr E => ?_
  refine scallI (rdr9 g rv l (st9 l 6).1 (st9 l 6).2) E M rfl rfl rfl rfl rfl (run_call rfl rfl T.fn53) rfl (fun H => RInt9_s 6 H hz) ?_
  rintro _ fr w - M E
  refine sv (v := .pointer (some ⟨_, 68, none⟩)) E rfl rfl rfl rfl rfl (run_fieldAddr rfl rfl T.fld29_5) fun fr E => ?_
  refine sv (v := .pointer (some ⟨_, 69, none⟩)) E rfl rfl rfl rfl rfl (run_fieldAddr rfl rfl T.fld27_1) fun fr E => ?_
  refine sset (i := 2) (cs' := (Rec.q l 7).cells.toArray) E M rfl rfl rfl rfl rfl (run_store1' (v := _) rfl rfl rfl T.size3 (M.row (i := 2) rfl) (blt_of (Rec.size (Rec.q_ok l 6)) rfl) rfl (congrArg List.toArray (Rec.s_bslot (Rec.q_ok l 6) _))) rfl fun fr w M E => ?_
  refine seq_nil' ?_
  refine code_region ?_
  refine sv (v := _) E rfl rfl rfl rfl rfl (run_move rfl rfl) fun fr E => ?_
  refine scallI (rdr9 g rv l (st9 l 7).1 (st9 l 7).2) E M rfl rfl rfl rfl rfl (run_call rfl rfl T.fn53) rfl (fun H => RInt9_s 7 H hz) ?_
  rintro _ fr w - M E
  refine sv (v := .pointer (some ⟨_, 70, none⟩)) E rfl rfl rfl rfl rfl (run_fieldAddr rfl rfl T.fld29_6) fun fr E => ?_
  refine sv (v := .pointer (some ⟨_, 70, none⟩)) E rfl rfl rfl rfl rfl (run_fieldAddr rfl rfl T.fld27_0) fun fr E => ?_
  refine sset (i := 2) (cs' := (Rec.q l 8).cells.toArray) E M rfl rfl rfl rfl rfl (run_store1' (v := _) rfl rfl rfl T.size3 (M.row (i := 2) rfl) (blt_of (Rec.size (Rec.q_ok l 7)) rfl) rfl (congrArg List.toArray (Rec.s_tseg (Rec.q_ok l 7) _))) rfl fun fr w M E => ?_
  refine seq_nil' ?_
  refine code_region ?_
  refine sv (v := _) E rfl rfl rfl rfl rfl (run_move rfl rfl) fun fr E => ?_
  refine scallI (rdr9 g rv l (st9 l 8).1 (st9 l 8).2) E M rfl rfl rfl rfl rfl (run_call rfl rfl T.fn53) rfl (fun H => RInt9_s 8 H hz) ?_
  rintro _ fr w - M E
  refine sv (v := .pointer (some ⟨_, 70, none⟩)) E rfl rfl rfl rfl rfl (run_fieldAddr rfl rfl T.fld29_6) fun fr E => ?_
  refine sv (v := .pointer (some ⟨_, 71, none⟩)) E rfl rfl rfl rfl rfl (run_fieldAddr rfl rfl T.fld27_1) fun fr E => ?_
  refine sset (i := 2) (cs' := (Rec.q l 9).cells.toArray) E M rfl rfl rfl rfl rfl (run_store1' (v := _) rfl rfl rfl T.size3 (M.row (i := 2) rfl) (blt_of (Rec.size (Rec.q_ok l 8)) rfl) rfl (congrArg List.toArray (Rec.s_tslot (Rec.q_ok l 8) _))) rfl fun fr w M E => ?_
  refine seq_nil' ?_
  refine code_region ?_
  refine sv (v := _) E rfl rfl rfl rfl rfl (run_move rfl rfl) fun fr E => ?_
  refine scallI (rdr9 g rv l (st9 l 9).1 (st9 l 9).2) E M rfl rfl rfl rfl rfl (run_call rfl rfl T.fn54) rfl (fun H => RSum9_s 9 H hz) ?_
  rintro _ fr w - M E
  refine sv (v := .pointer (some ⟨_, 72, none⟩)) E rfl rfl rfl rfl rfl (run_fieldAddr rfl rfl T.fld29_7) fun fr E => ?_
  refine sset (i := 2) (cs' := (Rec.q l 10).cells.toArray) E M rfl rfl rfl rfl rfl (run_storeN' (vs := (bc (rSum (rst l 9))).toArray) rfl rfl rfl T.size23 (by simp [rSum_len, rRef_len]) (M.row (i := 2) rfl) (by simp [Rec.len (Rec.q_ok l 9)]) (List.all_eq_true.2 (fun v hv => bc_one _ v hv)) (congrArg List.toArray (Rec.s_bsum (Rec.q_ok l 9) _))) rfl fun fr w M E => ?_
  refine seq_nil' ?_
  refine code_region ?_
  refine sv (v := _) E rfl rfl rfl rfl rfl (run_move rfl rfl) fun fr E => ?_
  refine scallI (rdr9 g rv l (st9 l 10).1 (st9 l 10).2) E M rfl rfl rfl rfl rfl (run_call rfl rfl T.fn54) rfl (fun H => RSum9_s 10 H hz) ?_
  rintro _ fr w - M E
  refine sv (v := .pointer (some ⟨_, 104, none⟩)) E rfl rfl rfl rfl rfl (run_fieldAddr rfl rfl T.fld29_8) fun fr E => ?_
  refine sset (i := 2) (cs' := (Rec.q l 11).cells.toArray) E M rfl rfl rfl rfl rfl (run_storeN' (vs := (bc (rSum (rst l 10))).toArray) rfl rfl rfl T.size23 (by simp [rSum_len, rRef_len]) (M.row (i := 2) rfl) (by simp [Rec.len (Rec.q_ok l 10)]) (List.all_eq_true.2 (fun v hv => bc_one _ v hv)) (congrArg List.toArray (Rec.s_tsum (Rec.q_ok l 10) _))) rfl fun fr w M E => ?_
  refine seq_nil' ?_
  refine code_region ?_
  refine sv (v := _) E rfl rfl rfl rfl rfl (run_move rfl rfl) fun fr E => ?_
  refine scallI (rdr9 g rv l (st9 l 11).1 (st9 l 11).2) E M rfl rfl rfl rfl rfl (run_call rfl rfl T.fn56) rfl (fun H => End9_s 11 H hz) ?_
  rintro _ fr w - M E
  refine sv (v := _) E rfl rfl rfl rfl rfl (run_assign rfl rfl) fun fr E => ?_
  refine seq_nil' ?_
  refine wp_seq ?_
  refine code_region ?_
  refine sv (v := _) E rfl rfl rfl rfl rfl (run_move rfl rfl) fun fr E => ?_
  refine sv (v := .bool false) E rfl rfl rfl rfl rfl (tst rfl (by simp; exact he)) fun fr E => ?_
  refine seq_nil' ?_
  refine cond_false E rfl (rfl) ?_
  refine wp_skip ?_
  refine then_normal ?_
  refine wp_seq ?_
  refine code_region ?_
  refine sv (v := .agg (Rec.read l).cells.toArray) E rfl rfl rfl rfl rfl (run_loadAll rfl rfl T.agg29 (M.row (i := 2) rfl) (Rec.size (Rec.read_ok l))) fun fr E => ?_
  refine sgive E M rfl rfl rfl rfl rfl (run_call rfl rfl T.fn43) (May14_x (Rec.read_ok l) _) fun fr w M E => ?_
  rw [decide_eq_false hm] at E
  refine sv (v := .bool _) E rfl rfl rfl rfl rfl (rfl) fun fr E => ?_
  refine seq_nil' ?_
  refine cond_true E rfl (rfl) ?_
  refine code_region ?_
  refine sv (v := .agg (Rec.zero.cells).toArray) E rfl rfl rfl rfl rfl (run_buildP (vs := []) (us := Rec.zero.cells) rfl rfl T.ts29 T.zeroL29 (rfl) rfl rfl (rfl)) fun fr E => ?_
  refine sset (i := 3) (cs' := Rec.zero.cells.toArray) E M rfl rfl rfl rfl rfl (run_storeAll (vs := Rec.zero.cells.toArray) rfl rfl rfl T.size29 (Rec.size Rec.zero_ok) (M.row (i := 3) rfl) rfl (fun v hv => Rec.ones _ v hv)) rfl fun fr w M E => ?_
  refine sv (v := _) E rfl rfl rfl rfl rfl (run_assignC rfl) fun fr E => ?_
  refine seq_nil' ?_
  refine wp_ret ?_
  refine then_ret ?_
  refine retC2 E rfl rfl rfl T.agg29 (M.row (i := 3) rfl) (Rec.size (Rec.zero_ok)) ?_
  exact given M
end Go.Proofs.Ytnojooafgehhaaa.K
end
section
namespace Go.Proofs.Ytnojooafgehhaaa.K
open Go.RowKit Go.Rill Go.Proofs
set_option linter.unusedVariables false
set_option linter.unusedSimpArgs false
theorem fill_step {F : List UInt8} {i n : Nat} {c : UInt8} (hi : i < n) (hF : F.length = n) (hc : F[i]'(by omega) = c) : (F.take i ++ List.replicate (n - i) 0).set i c = F.take (i + 1) ++ List.replicate (n - (i + 1)) 0 := by
  subst hc
  have e : n - i = (n - (i + 1)) + 1 := by omega
  rw [List.take_succ_eq_append_getElem (by omega), e, List.replicate_succ, List.set_append_right _ _ (by simp; omega)]
  have e2 : i - (F.take i).length = 0 := by simp; omega
  rw [e2, List.set_cons_zero]
  simp only [List.append_assoc, List.singleton_append]
set_option maxRecDepth 100000 in
theorem LentBytes_x {b : Value} {l : List UInt8} {w0 : World} (hb : Bytes w0 b l) (hz : l.length ≤ 35184372088832) : Does Try.prog 16 [b] w0 [] (fun s : Value => s) (fun s => [.bytes 5 s (l ++ List.replicate 5 165)]) (fun _ => True) := by
  refine enter (n := 30) Try.func16 rfl rfl rfl ?_
  intro fr E
  have M : Mem w0 (feet []) [] (fun w' => Bytes w' b l) w0 := Mem.begin (Has.nil w0) (fun w' h => hb.held0 h)
  refine code_region ?_
  refine sv (v := _) E rfl rfl rfl rfl rfl (run_assignC rfl) fun fr E => ?_
  refine seq_nil' ?_
  refine code_region ?_
  refine sv (v := _) E rfl rfl rfl rfl rfl (run_move rfl rfl) fun fr E => ?_
  refine sv (v := .int .i64 _) E rfl rfl rfl rfl rfl (run_lenR rfl rfl rfl rfl T.slice30 M.fact) fun fr E => ?_
  refine sv (v := .int _ (((l.length + 5 : Nat) : Int))) E rfl rfl rfl rfl rfl (num rfl ((i64_id (by omega) (by omega)).trans (by omega))) fun fr E => ?_
  refine smakeB (k := l.length + 5) (c := l.length + 5) E M rfl rfl rfl rfl rfl rfl rfl rfl (rfl) (rfl) T.slice30 T.zt5 T.zc5 T.by5 (Nat.le_refl _) (by omega) fun o fr w M E => ?_
  refine sv (v := _) E rfl rfl rfl rfl rfl (run_assign rfl rfl) fun fr E => ?_
  refine seq_nil' ?_
  refine wp_seq ?_
  refine code_region ?_
  refine sv (v := _) E rfl rfl rfl rfl rfl (run_assignC rfl) fun fr E => ?_
  refine seq_nil' ?_
  refine wp_block ?_
  refine loop_dec (fun d fr w => ∃ i : Nat, d = (l.length + 5) - i ∧ i ≤ (l.length + 5) ∧ Env [(4, .int .i64 i), (3, o), (0, b)] 30 fr ∧ Mem w0 (feet []) [.bytes 5 o ((l ++ List.replicate 5 165).take i ++ List.replicate ((l.length + 5) - i) 0)] (fun w' => Bytes w' b l) w) ((l.length + 5)) ?_ ?_
  · refine ⟨0, rfl, by omega, (((Env.nil E).add E (t := 0) rfl).add E (t := 3) rfl).add E (t := 4) rfl, M.as (by simp)⟩
  · clear E M
    rintro d fr w ⟨i, hd, hle, E, M⟩
    have hF : (l ++ List.replicate 5 165).length = (l.length + 5) := by simp
    have hX : ((l ++ List.replicate 5 165).take i ++ List.replicate ((l.length + 5) - i) 0).length = (l.length + 5) := by rw [List.length_append, List.length_take, List.length_replicate, hF]; omega
    by_cases hi : i < (l.length + 5)
    · by_cases hl : i < l.length
      · refine wp_seq ?_
        refine code_region ?_
        refine sv (v := _) E rfl rfl rfl rfl rfl (run_move rfl rfl) fun fr E => ?_
        refine sv (v := _) E rfl rfl rfl rfl rfl (run_move rfl rfl) fun fr E => ?_
        refine sv (v := .int .i64 _) E rfl rfl rfl rfl rfl (run_lenR rfl rfl rfl rfl T.slice30 (M.reads 0 rfl)) fun fr E => ?_
        refine sv (v := .bool true) E rfl rfl rfl rfl rfl (tst rfl (by rw [hX]; exact decide_eq_true (by omega))) fun fr E => ?_
        refine seq_nil' ?_
        refine cond_true E rfl (rfl) ?_
        refine wp_skip ?_
        refine then_normal ?_
        refine wp_seq ?_
        refine wp_block ?_
        refine code_region ?_
        refine sv (v := _) E rfl rfl rfl rfl rfl (run_move rfl rfl) fun fr E => ?_
        refine sv (v := _) E rfl rfl rfl rfl rfl (run_move rfl rfl) fun fr E => ?_
        refine sv (v := _) E rfl rfl rfl rfl rfl (run_indexR (i := i) rfl (M.reads 0 rfl) rfl rfl (rfl) ((by omega)) T.slice30 T.size5) fun fr E => ?_
        refine ssetB (i := 0) (k := i) (b := 165) E M rfl rfl rfl rfl rfl rfl rfl rfl (rfl) T.size5 (by omega) fun fr w M E => ?_
        refine seq_nil' ?_
        refine code_region ?_
        refine sv (v := _) E rfl rfl rfl rfl rfl (run_move rfl rfl) fun fr E => ?_
        refine sv (v := _) E rfl rfl rfl rfl rfl (run_move rfl rfl) fun fr E => ?_
        refine sv (v := .int .i64 _) E rfl rfl rfl rfl rfl (run_lenR rfl rfl rfl rfl T.slice30 M.fact) fun fr E => ?_
        refine sv (v := .bool true) E rfl rfl rfl rfl rfl (tst rfl (decide_eq_true (by omega))) fun fr E => ?_
        refine seq_nil' ?_
        refine cond_true E rfl (rfl) ?_
        refine code_last ?_
        refine sv (v := _) E rfl rfl rfl rfl rfl (run_move rfl rfl) fun fr E => ?_
        refine sv (v := _) E rfl rfl rfl rfl rfl (run_move rfl rfl) fun fr E => ?_
        refine sv (v := _) E rfl rfl rfl rfl rfl (run_move rfl rfl) fun fr E => ?_
        refine sv (v := _) E rfl rfl rfl rfl rfl (run_move rfl rfl) fun fr E => ?_
        refine sv (v := _) E rfl rfl rfl rfl rfl (run_indexR (i := i) rfl M.fact rfl rfl (rfl) (hl) T.slice30 T.size5) fun fr E => ?_
        refine sv (v := .int .u8 ((l[i]).toNat : Int)) E rfl rfl rfl rfl rfl (run_loadR rfl M.fact rfl T.one5 (by rw [Nat.mul_one]; exact bc_get hl)) fun fr E => ?_
        refine sv (v := _) E rfl rfl rfl rfl rfl (run_indexR (i := i) rfl (M.reads 0 rfl) rfl rfl (rfl) ((by rw [List.length_set]; omega)) T.slice30 T.size5) fun fr E => ?_
        refine ssetB (i := 0) (k := i) (b := l[i]) E M rfl rfl rfl rfl rfl rfl rfl rfl (rfl) T.size5 (by rw [List.length_set]; omega) fun fr w M E => ?_
        refine seq_nil ?_
        refine block_normal ?_
        refine then_normal ?_
        refine code_last ?_
        refine sv (v := _) E rfl rfl rfl rfl rfl (run_move rfl rfl) fun fr E => ?_
        refine sv (v := .int _ (((i + 1 : Nat) : Int))) E rfl rfl rfl rfl rfl (num rfl ((i64_id (by omega) (by omega)).trans (by omega))) fun fr E => ?_
        refine sv (v := _) E rfl rfl rfl rfl rfl (run_assign rfl rfl) fun fr E => ?_
        refine seq_nil ?_
        refine then_any ?_
        refine ⟨(l.length + 5) - (i + 1), by omega, i + 1, rfl, by omega, (((Env.nil E).add E (t := 0) rfl).add E (t := 3) rfl).add E (t := 4) rfl, M.as ?_⟩
        refine congrArg (fun x => [Ent.bytes 5 o x]) ?_
        exact ((List.set_set ..).trans (fill_step (F := (l ++ List.replicate 5 165)) hi hF (by rw [List.getElem_append_left hl])))
      · refine wp_seq ?_
        refine code_region ?_
        refine sv (v := _) E rfl rfl rfl rfl rfl (run_move rfl rfl) fun fr E => ?_
        refine sv (v := _) E rfl rfl rfl rfl rfl (run_move rfl rfl) fun fr E => ?_
        refine sv (v := .int .i64 _) E rfl rfl rfl rfl rfl (run_lenR rfl rfl rfl rfl T.slice30 (M.reads 0 rfl)) fun fr E => ?_
        refine sv (v := .bool true) E rfl rfl rfl rfl rfl (tst rfl (by rw [hX]; exact decide_eq_true (by omega))) fun fr E => ?_
        refine seq_nil' ?_
        refine cond_true E rfl (rfl) ?_
        refine wp_skip ?_
        refine then_normal ?_
        refine wp_seq ?_
        refine wp_block ?_
        refine code_region ?_
        refine sv (v := _) E rfl rfl rfl rfl rfl (run_move rfl rfl) fun fr E => ?_
        refine sv (v := _) E rfl rfl rfl rfl rfl (run_move rfl rfl) fun fr E => ?_
        refine sv (v := _) E rfl rfl rfl rfl rfl (run_indexR (i := i) rfl (M.reads 0 rfl) rfl rfl (rfl) ((by omega)) T.slice30 T.size5) fun fr E => ?_
        refine ssetB (i := 0) (k := i) (b := 165) E M rfl rfl rfl rfl rfl rfl rfl rfl (rfl) T.size5 (by omega) fun fr w M E => ?_
        refine seq_nil' ?_
        refine code_region ?_
        refine sv (v := _) E rfl rfl rfl rfl rfl (run_move rfl rfl) fun fr E => ?_
        refine sv (v := _) E rfl rfl rfl rfl rfl (run_move rfl rfl) fun fr E => ?_
        refine sv (v := .int .i64 _) E rfl rfl rfl rfl rfl (run_lenR rfl rfl rfl rfl T.slice30 M.fact) fun fr E => ?_
        refine sv (v := .bool false) E rfl rfl rfl rfl rfl (tst rfl (decide_eq_false (by omega))) fun fr E => ?_
        refine seq_nil' ?_
        refine cond_false E rfl (rfl) ?_
        refine wp_skip ?_
        refine block_normal ?_
        refine then_normal ?_
        refine code_last ?_
        refine sv (v := _) E rfl rfl rfl rfl rfl (run_move rfl rfl) fun fr E => ?_
        refine sv (v := .int _ (((i + 1 : Nat) : Int))) E rfl rfl rfl rfl rfl (num rfl ((i64_id (by omega) (by omega)).trans (by omega))) fun fr E => ?_
        refine sv (v := _) E rfl rfl rfl rfl rfl (run_assign rfl rfl) fun fr E => ?_
        refine seq_nil ?_
        refine then_any ?_
        refine ⟨(l.length + 5) - (i + 1), by omega, i + 1, rfl, by omega, (((Env.nil E).add E (t := 0) rfl).add E (t := 3) rfl).add E (t := 4) rfl, M.as ?_⟩
        refine congrArg (fun x => [Ent.bytes 5 o x]) ?_
        exact (fill_step (F := (l ++ List.replicate 5 165)) hi hF (by rw [List.getElem_append_right (by omega), List.getElem_replicate]))
    · obtain rfl : i = (l.length + 5) := by omega
      refine wp_seq ?_
      refine code_region ?_
      refine sv (v := _) E rfl rfl rfl rfl rfl (run_move rfl rfl) fun fr E => ?_
      refine sv (v := _) E rfl rfl rfl rfl rfl (run_move rfl rfl) fun fr E => ?_
      refine sv (v := .int .i64 _) E rfl rfl rfl rfl rfl (run_lenR rfl rfl rfl rfl T.slice30 (M.reads 0 rfl)) fun fr E => ?_
      refine sv (v := .bool false) E rfl rfl rfl rfl rfl (tst rfl (by rw [hX]; exact decide_eq_false (by omega))) fun fr E => ?_
      refine seq_nil' ?_
      refine cond_false E rfl (rfl) ?_
      refine wp_exit ?_
      refine then_exit ?_
      refine then_exit ?_
      refine block_exit ?_
      refine then_normal ?_
      refine code_region ?_
      refine sv (v := _) E rfl rfl rfl rfl rfl (run_move rfl rfl) fun fr E => ?_
      refine sv (v := _) E rfl rfl rfl rfl rfl (run_assign rfl rfl) fun fr E => ?_
      refine seq_nil' ?_
      refine wp_ret ?_
      refine ret1 E rfl rfl ?_
      have M := M.as (L' := [.bytes 5 o (l ++ List.replicate 5 165)]) (by rw [← hF, List.take_length, hF, Nat.sub_self, List.replicate_zero, List.append_nil])
      exact ⟨_, rfl, M.fin (.refl _) trivial⟩

set_option maxRecDepth 100000 in
theorem KeptBytes_x {a b : Value} {l : List UInt8} {w0 : World} (ha : Bytes w0 a (l ++ List.replicate 5 165)) (hb : Bytes w0 b l) (hz : l.length ≤ 35184372088000) : Gives Try.prog 19 [a, b] w0 (.bool true) := by
  refine enter (n := 34) Try.func19 rfl rfl rfl ?_
  intro fr E
  have M : Mem w0 (feet []) [] (fun w' => Bytes w' a (l ++ List.replicate 5 165) ∧ Bytes w' b l) w0 := Mem.begin (Has.nil w0) (fun w' h => ⟨ha.held0 h, hb.held0 h⟩)
  refine code_region ?_
  refine sv (v := _) E rfl rfl rfl rfl rfl (run_assignC rfl) fun fr E => ?_
  refine seq_nil' ?_
  refine wp_seq ?_
  refine code_region ?_
  refine sv (v := _) E rfl rfl rfl rfl rfl (run_move rfl rfl) fun fr E => ?_
  refine sv (v := .int .i64 _) E rfl rfl rfl rfl rfl (run_lenR rfl rfl rfl rfl T.slice30 M.fact.1) fun fr E => ?_
  refine sv (v := _) E rfl rfl rfl rfl rfl (run_move rfl rfl) fun fr E => ?_
  refine sv (v := .int .i64 _) E rfl rfl rfl rfl rfl (run_lenR rfl rfl rfl rfl T.slice30 M.fact.2) fun fr E => ?_
  refine sv (v := .int _ (((l.length + 5 : Nat) : Int))) E rfl rfl rfl rfl rfl (num rfl ((i64_id (by omega) (by omega)).trans (by omega))) fun fr E => ?_
  refine sv (v := .bool false) E rfl rfl rfl rfl rfl (tst rfl (by simp)) fun fr E => ?_
  refine sv (v := _) E rfl rfl rfl rfl rfl (run_move rfl rfl) fun fr E => ?_
  refine sv (v := _) E rfl rfl rfl rfl rfl (run_move rfl rfl) fun fr E => ?_
  refine sv (v := _) E rfl rfl rfl rfl rfl (run_move rfl rfl) fun fr E => ?_
  refine sv (v := .int .i64 _) E rfl rfl rfl rfl rfl (run_lenR rfl rfl rfl rfl T.slice30 M.fact.2) fun fr E => ?_
  refine sv (v := _) E rfl rfl rfl rfl rfl (run_sliceR (lo := 0) (hi := l.length) rfl M.fact.1 rfl T.slice30 T.size5 (rfl) (⟨_, _, rfl, rfl⟩) (Nat.zero_le _) (by simp)) fun fr E => ?_
  refine sv (v := _) E rfl rfl rfl rfl rfl (run_move rfl rfl) fun fr E => ?_
  refine sgive E M rfl rfl rfl rfl rfl (run_call rfl rfl T.fn13) (SameBytes_x (Bytes.pre M.fact.1 (by simp)) M.fact.2 (by simp; omega)) fun fr w M E => ?_
  rw [decide_eq_true (by simp)] at E
  refine sv (v := .bool false) E rfl rfl rfl rfl rfl (tst rfl (rfl)) fun fr E => ?_
  refine sv (v := .bool _) E rfl rfl rfl rfl rfl (rfl) fun fr E => ?_
  refine seq_nil' ?_
  refine cond_false E rfl (rfl) ?_
  refine wp_skip ?_
  refine then_normal ?_
  refine wp_seq ?_
  refine code_region ?_
  refine sv (v := _) E rfl rfl rfl rfl rfl (run_move rfl rfl) fun fr E => ?_
  refine sv (v := .int .i64 _) E rfl rfl rfl rfl rfl (run_lenR rfl rfl rfl rfl T.slice30 M.fact.2) fun fr E => ?_
  refine sv (v := _) E rfl rfl rfl rfl rfl (run_assign rfl rfl) fun fr E => ?_
  refine seq_nil' ?_
  refine wp_block ?_
  refine loop_dec (fun d fr w => ∃ i : Nat, d = (l.length + 5) - i ∧ l.length ≤ i ∧ i ≤ (l.length + 5) ∧ Env [(5, .int .i64 i), (1, b), (0, a)] 34 fr ∧ Mem w0 (feet []) [] (fun w' => Bytes w' a (l ++ List.replicate 5 165) ∧ Bytes w' b l) w) (5) ?_ ?_
  · refine ⟨l.length, by omega, by omega, by omega, (((Env.nil E).add E (t := 0) rfl).add E (t := 1) rfl).add E (t := 5) rfl, M⟩
  · clear E M
    rintro d fr w ⟨i, hd, h0, hle, E, M⟩
    have hF : (l ++ List.replicate 5 165).length = (l.length + 5) := by simp
    by_cases hi : i < (l.length + 5)
    · refine wp_seq ?_
      refine code_region ?_
      refine sv (v := _) E rfl rfl rfl rfl rfl (run_move rfl rfl) fun fr E => ?_
      refine sv (v := _) E rfl rfl rfl rfl rfl (run_move rfl rfl) fun fr E => ?_
      refine sv (v := .int .i64 _) E rfl rfl rfl rfl rfl (run_lenR rfl rfl rfl rfl T.slice30 M.fact.1) fun fr E => ?_
      refine sv (v := .bool true) E rfl rfl rfl rfl rfl (tst rfl (by rw [hF]; exact decide_eq_true (by omega))) fun fr E => ?_
      refine seq_nil' ?_
      refine cond_true E rfl (rfl) ?_
      refine wp_skip ?_
      refine then_normal ?_
      refine wp_seq ?_
      refine wp_block ?_
      refine code_region ?_
      refine sv (v := _) E rfl rfl rfl rfl rfl (run_move rfl rfl) fun fr E => ?_
      refine sv (v := _) E rfl rfl rfl rfl rfl (run_move rfl rfl) fun fr E => ?_
      refine sv (v := _) E rfl rfl rfl rfl rfl (run_indexR (i := i) rfl M.fact.1 rfl rfl (rfl) ((by omega)) T.slice30 T.size5) fun fr E => ?_
      refine sv (v := .int .u8 165) E rfl rfl rfl rfl rfl (run_loadR rfl M.fact.1 rfl T.one5 (by rw [Nat.mul_one, bc_get (by omega), List.getElem_append_right (by omega), List.getElem_replicate]; rfl)) fun fr E => ?_
      refine sv (v := .bool false) E rfl rfl rfl rfl rfl (tst rfl (rfl)) fun fr E => ?_
      refine seq_nil' ?_
      refine cond_false E rfl (rfl) ?_
      refine wp_skip ?_
      refine block_normal ?_
      refine then_normal ?_
      refine code_last ?_
      refine sv (v := _) E rfl rfl rfl rfl rfl (run_move rfl rfl) fun fr E => ?_
      refine sv (v := .int _ (((i + 1 : Nat) : Int))) E rfl rfl rfl rfl rfl (num rfl ((i64_id (by omega) (by omega)).trans (by omega))) fun fr E => ?_
      refine sv (v := _) E rfl rfl rfl rfl rfl (run_assign rfl rfl) fun fr E => ?_
      refine seq_nil ?_
      refine then_any ?_
      refine ⟨(l.length + 5) - (i + 1), by omega, i + 1, rfl, by omega, by omega, (((Env.nil E).add E (t := 0) rfl).add E (t := 1) rfl).add E (t := 5) rfl, M⟩
    · refine wp_seq ?_
      refine code_region ?_
      refine sv (v := _) E rfl rfl rfl rfl rfl (run_move rfl rfl) fun fr E => ?_
      refine sv (v := _) E rfl rfl rfl rfl rfl (run_move rfl rfl) fun fr E => ?_
      refine sv (v := .int .i64 _) E rfl rfl rfl rfl rfl (run_lenR rfl rfl rfl rfl T.slice30 M.fact.1) fun fr E => ?_
      refine sv (v := .bool false) E rfl rfl rfl rfl rfl (tst rfl (by rw [hF]; exact decide_eq_false (by omega))) fun fr E => ?_
      refine seq_nil' ?_
      refine cond_false E rfl (rfl) ?_
      refine wp_exit ?_
      refine then_exit ?_
      refine then_exit ?_
      refine block_exit ?_
      refine then_normal ?_
      refine code_region ?_
      refine sv (v := _) E rfl rfl rfl rfl rfl (run_assignC rfl) fun fr E => ?_
      refine seq_nil' ?_
      refine wp_ret ?_
      refine ret1 E rfl rfl ?_
      exact given M
end Go.Proofs.Ytnojooafgehhaaa.K
end
section
namespace Go.Proofs.Ytnojooafgehhaaa.K
open Go.RowKit Go.Rill Go.Proofs
set_option linter.unusedVariables false
set_option linter.unusedSimpArgs false
theorem works_x (w0 : World) : Gives Try.prog 15 [] w0 (.bool true) :=
  (VMWorks.calls w0).mono fun e w' ⟨he, hx⟩ => ⟨(), he, ⟨hx.os, hx.tape, hx.output, hx.size, fun g hg _ => hx.block g hg⟩, Has.nil _, fun g h => absurd h feet_nil, trivial⟩
theorem row_of {P : Program} {f : FuncId} {args : List Value} {w : World} {v : Value} (h : Gives P f args w v) : Calls P f args.toArray w fun e w' => e = .returned v ∧ Below w.heap.size w w' :=
  h.mono fun e w' ⟨_, he, hc, _⟩ => ⟨he, ⟨hc.os, hc.tape, hc.output, hc.held.size, fun k hk => hc.held.block k hk feet_nil⟩⟩
theorem Bytes.as {w : World} {v : Value} {l k : List UInt8} (h : Bytes w v l) (e : l = k) : Bytes w v k := e ▸ h
theorem Rec.fit {r : Rec} (h : r.Ok) : Fit ([.i64] ++ [.i64] ++ [.i64] ++ List.replicate 32 .u8 ++ [.i64] ++ List.replicate 32 .u8 ++ [.i64] ++ [.i64] ++ [.i64] ++ [.i64] ++ List.replicate 32 .u8 ++ List.replicate 32 .u8) r.cells := by
  have e : ∀ l : List UInt8, l.length = 32 → Fit (List.replicate 32 .u8) (bc l) := fun l hl => by have := fit_bc l; rwa [hl] at this
  have one : ∀ n : Int, Fit [.i64] [iv n] := fun n => rfl
  have := ((((((((((((one r.gen).app (one r.stamp)).app (one r.epoch)).app (e _ h.super)).app (one r.rat)).app (e _ h.rsum)).app (one r.bseg)).app (one r.bslot)).app (one r.tseg)).app (one r.tslot)).app (e _ h.bsum)).app (e _ h.tsum))
  have e2 : r.cells = [iv r.gen] ++ [iv r.stamp] ++ [iv r.epoch] ++ bc r.super ++ [iv r.rat] ++ bc r.rsum ++ [iv r.bseg] ++ [iv r.bslot] ++ [iv r.tseg] ++ [iv r.tslot] ++ bc r.bsum ++ bc r.tsum := by simp [Rec.cells]
  rw [e2]
  exact this
set_option maxRecDepth 100000 in
theorem RegionPuts_ok {r : Rec} {w0 : World} (hr : r.Ok) (hm : r.May) : Gives Try.prog 3 [r.val] w0 (.bool true) := by
  refine enter (n := 46) Try.func3 rfl rfl rfl ?_
  intro fr E
  have M : Mem w0 (feet []) [] (fun _ => True) w0 := Mem.begin (Has.nil w0) (fun _ _ => trivial)
  refine code_region ?_
  refine snew (ob := .cells (r.cells.toArray) 29) (fun g => .pointer (some ⟨g, 0, none⟩)) E M rfl rfl rfl rfl rfl (run_boxN (cs := (r.cells.toArray)) rfl rfl) fun g0 fr w M E => ?_
  refine sv (v := _) E rfl rfl rfl rfl rfl (run_assignC rfl) fun fr E => ?_
  refine seq_nil' ?_
  refine code_region ?_
  refine sv (v := .agg r.cells.toArray) E rfl rfl rfl rfl rfl (run_loadAll rfl rfl T.agg29 (M.row (i := 0) rfl) (Rec.size hr)) fun fr E => ?_
  refine scall E M rfl rfl rfl rfl rfl (run_call rfl rfl T.fn11) (Put_ok hr hm) rfl ?_
  rintro one fr w - M E
  refine sv (v := _) E rfl rfl rfl rfl rfl (run_move rfl rfl) fun fr E => ?_
  refine sv (v := _) E rfl rfl rfl rfl rfl (run_extract rfl rfl rfl) fun fr E => ?_
  refine sv (v := _) E rfl rfl rfl rfl rfl (run_extract rfl rfl rfl) fun fr E => ?_
  refine sv (v := _) E rfl rfl rfl rfl rfl (run_assign rfl rfl) fun fr E => ?_
  refine sv (v := _) E rfl rfl rfl rfl rfl (run_assign rfl rfl) fun fr E => ?_
  refine seq_nil' ?_
  refine code_region ?_
  refine sv (v := .agg r.cells.toArray) E rfl rfl rfl rfl rfl (run_loadAll rfl rfl T.agg29 (M.row (i := 1) rfl) (Rec.size hr)) fun fr E => ?_
  refine scall E M rfl rfl rfl rfl rfl (run_call rfl rfl T.fn11) (Put_ok hr hm) rfl ?_
  rintro two fr w - M E
  refine sv (v := _) E rfl rfl rfl rfl rfl (run_move rfl rfl) fun fr E => ?_
  refine sv (v := _) E rfl rfl rfl rfl rfl (run_extract rfl rfl rfl) fun fr E => ?_
  refine sv (v := _) E rfl rfl rfl rfl rfl (run_extract rfl rfl rfl) fun fr E => ?_
  refine sv (v := _) E rfl rfl rfl rfl rfl (run_assign rfl rfl) fun fr E => ?_
  refine sv (v := _) E rfl rfl rfl rfl rfl (run_assign rfl rfl) fun fr E => ?_
  refine seq_nil' ?_
  refine code_region ?_
  refine sv (v := .agg r.cells.toArray) E rfl rfl rfl rfl rfl (run_loadAll rfl rfl T.agg29 (M.row (i := 2) rfl) (Rec.size hr)) fun fr E => ?_
  refine scall E M rfl rfl rfl rfl rfl (run_call rfl rfl T.fn12) (Put14_ok hr hm) rfl ?_
  rintro want fr w - M E
  refine sv (v := _) E rfl rfl rfl rfl rfl (run_move rfl rfl) fun fr E => ?_
  refine sv (v := _) E rfl rfl rfl rfl rfl (run_extract rfl rfl rfl) fun fr E => ?_
  refine sv (v := _) E rfl rfl rfl rfl rfl (run_extract rfl rfl rfl) fun fr E => ?_
  refine sv (v := _) E rfl rfl rfl rfl rfl (run_assign rfl rfl) fun fr E => ?_
  refine sv (v := _) E rfl rfl rfl rfl rfl (run_assign rfl rfl) fun fr E => ?_
  refine seq_nil' ?_
  refine wp_seq ?_
  refine code_region ?_
  refine sv (v := _) E rfl rfl rfl rfl rfl (run_move rfl rfl) fun fr E => ?_
  refine sv (v := _) E rfl rfl rfl rfl rfl (run_move rfl rfl) fun fr E => ?_
  refine sv (v := .bool false) E rfl rfl rfl rfl rfl (tst rfl (rfl)) fun fr E => ?_
  refine sv (v := _) E rfl rfl rfl rfl rfl (run_move rfl rfl) fun fr E => ?_
  refine sv (v := _) E rfl rfl rfl rfl rfl (run_move rfl rfl) fun fr E => ?_
  refine sv (v := _) E rfl rfl rfl rfl rfl (run_move rfl rfl) fun fr E => ?_
  refine sv (v := .bool false) E rfl rfl rfl rfl rfl (tst rfl (rfl)) fun fr E => ?_
  refine sv (v := .bool _) E rfl rfl rfl rfl rfl (rfl) fun fr E => ?_
  refine sv (v := _) E rfl rfl rfl rfl rfl (run_move rfl rfl) fun fr E => ?_
  refine sv (v := _) E rfl rfl rfl rfl rfl (run_move rfl rfl) fun fr E => ?_
  refine sv (v := _) E rfl rfl rfl rfl rfl (run_move rfl rfl) fun fr E => ?_
  refine sgive E M rfl rfl rfl rfl rfl (run_call rfl rfl T.fn13) (SameBytes_x (M.reads 2 rfl) (M.reads 0 rfl) (by simp [Rec.bytes, be8, hr.super, hr.rsum, hr.bsum, hr.tsum])) fun fr w M E => ?_
  rw [decide_eq_true rfl] at E
  refine sv (v := .bool _) E rfl rfl rfl rfl rfl (rfl) fun fr E => ?_
  refine sv (v := .bool _) E rfl rfl rfl rfl rfl (rfl) fun fr E => ?_
  refine seq_nil' ?_
  refine cond_false E rfl (rfl) ?_
  refine wp_skip ?_
  refine then_normal ?_
  refine code_region ?_
  refine sv (v := _) E rfl rfl rfl rfl rfl (run_move rfl rfl) fun fr E => ?_
  have M := M.pull 2 rfl
  refine scallI ([.bytes 5 one r.bytes]) E M rfl rfl rfl rfl rfl (run_call rfl rfl T.fn14) rfl (fun H => SpoilBytes_x H (by simp [Rec.bytes, be8, hr.super, hr.rsum, hr.bsum, hr.tsum])) ?_
  rintro k fr w hk M E
  refine seq_nil' ?_
  refine code_region ?_
  refine sv (v := _) E rfl rfl rfl rfl rfl (run_move rfl rfl) fun fr E => ?_
  refine sv (v := _) E rfl rfl rfl rfl rfl (run_move rfl rfl) fun fr E => ?_
  refine sgive E M rfl rfl rfl rfl rfl (run_call rfl rfl T.fn13) (SameBytes_x (M.reads 2 rfl) (M.reads 1 rfl) (by simp [Rec.bytes, be8, hr.super, hr.rsum, hr.bsum, hr.tsum])) fun fr w M E => ?_
  rw [decide_eq_true rfl] at E
  refine sv (v := _) E rfl rfl rfl rfl rfl (run_move rfl rfl) fun fr E => ?_
  refine sgive E M rfl rfl rfl rfl rfl (run_call rfl rfl T.fn15) (works_x _) fun fr w M E => ?_
  refine sv (v := .bool _) E rfl rfl rfl rfl rfl (rfl) fun fr E => ?_
  refine sv (v := _) E rfl rfl rfl rfl rfl (run_assign rfl rfl) fun fr E => ?_
  refine seq_nil' ?_
  refine wp_ret ?_
  refine ret1 E rfl rfl ?_
  exact given M

set_option maxRecDepth 100000 in
theorem RegionPuts_no {r : Rec} {w0 : World} (hr : r.Ok) (hm : ¬ r.May) : Gives Try.prog 3 [r.val] w0 (.bool true) := by
  refine enter (n := 46) Try.func3 rfl rfl rfl ?_
  intro fr E
  have M : Mem w0 (feet []) [] (fun _ => True) w0 := Mem.begin (Has.nil w0) (fun _ _ => trivial)
  have M := M.nilRow 5
  refine code_region ?_
  refine snew (ob := .cells (r.cells.toArray) 29) (fun g => .pointer (some ⟨g, 0, none⟩)) E M rfl rfl rfl rfl rfl (run_boxN (cs := (r.cells.toArray)) rfl rfl) fun g0 fr w M E => ?_
  refine sv (v := _) E rfl rfl rfl rfl rfl (run_assignC rfl) fun fr E => ?_
  refine seq_nil' ?_
  refine code_region ?_
  refine sv (v := .agg r.cells.toArray) E rfl rfl rfl rfl rfl (run_loadAll rfl rfl T.agg29 (M.row (i := 0) rfl) (Rec.size hr)) fun fr E => ?_
  refine sgive E M rfl rfl rfl rfl rfl (run_call rfl rfl T.fn11) (Put_no hr hm) fun fr w M E => ?_
  refine sv (v := _) E rfl rfl rfl rfl rfl (run_move rfl rfl) fun fr E => ?_
  refine sv (v := _) E rfl rfl rfl rfl rfl (run_extract rfl rfl rfl) fun fr E => ?_
  refine sv (v := _) E rfl rfl rfl rfl rfl (run_extract rfl rfl rfl) fun fr E => ?_
  refine sv (v := _) E rfl rfl rfl rfl rfl (run_assign rfl rfl) fun fr E => ?_
  refine sv (v := _) E rfl rfl rfl rfl rfl (run_assign rfl rfl) fun fr E => ?_
  refine seq_nil' ?_
  refine code_region ?_
  refine sv (v := .agg r.cells.toArray) E rfl rfl rfl rfl rfl (run_loadAll rfl rfl T.agg29 (M.row (i := 0) rfl) (Rec.size hr)) fun fr E => ?_
  refine sgive E M rfl rfl rfl rfl rfl (run_call rfl rfl T.fn11) (Put_no hr hm) fun fr w M E => ?_
  refine sv (v := _) E rfl rfl rfl rfl rfl (run_move rfl rfl) fun fr E => ?_
  refine sv (v := _) E rfl rfl rfl rfl rfl (run_extract rfl rfl rfl) fun fr E => ?_
  refine sv (v := _) E rfl rfl rfl rfl rfl (run_extract rfl rfl rfl) fun fr E => ?_
  refine sv (v := _) E rfl rfl rfl rfl rfl (run_assign rfl rfl) fun fr E => ?_
  refine sv (v := _) E rfl rfl rfl rfl rfl (run_assign rfl rfl) fun fr E => ?_
  refine seq_nil' ?_
  refine code_region ?_
  refine sv (v := .agg r.cells.toArray) E rfl rfl rfl rfl rfl (run_loadAll rfl rfl T.agg29 (M.row (i := 0) rfl) (Rec.size hr)) fun fr E => ?_
  refine sgive E M rfl rfl rfl rfl rfl (run_call rfl rfl T.fn12) (Put14_no hr hm) fun fr w M E => ?_
  refine sv (v := _) E rfl rfl rfl rfl rfl (run_move rfl rfl) fun fr E => ?_
  refine sv (v := _) E rfl rfl rfl rfl rfl (run_extract rfl rfl rfl) fun fr E => ?_
  refine sv (v := _) E rfl rfl rfl rfl rfl (run_extract rfl rfl rfl) fun fr E => ?_
  refine sv (v := _) E rfl rfl rfl rfl rfl (run_assign rfl rfl) fun fr E => ?_
  refine sv (v := _) E rfl rfl rfl rfl rfl (run_assign rfl rfl) fun fr E => ?_
  refine seq_nil' ?_
  refine wp_seq ?_
  refine code_region ?_
  refine sv (v := _) E rfl rfl rfl rfl rfl (run_move rfl rfl) fun fr E => ?_
  refine sv (v := _) E rfl rfl rfl rfl rfl (run_move rfl rfl) fun fr E => ?_
  refine sv (v := .bool false) E rfl rfl rfl rfl rfl (tst rfl (rfl)) fun fr E => ?_
  refine sv (v := _) E rfl rfl rfl rfl rfl (run_move rfl rfl) fun fr E => ?_
  refine sv (v := _) E rfl rfl rfl rfl rfl (run_move rfl rfl) fun fr E => ?_
  refine sv (v := _) E rfl rfl rfl rfl rfl (run_move rfl rfl) fun fr E => ?_
  refine sv (v := .bool false) E rfl rfl rfl rfl rfl (tst rfl (rfl)) fun fr E => ?_
  refine sv (v := .bool _) E rfl rfl rfl rfl rfl (rfl) fun fr E => ?_
  refine sv (v := _) E rfl rfl rfl rfl rfl (run_move rfl rfl) fun fr E => ?_
  refine sv (v := _) E rfl rfl rfl rfl rfl (run_move rfl rfl) fun fr E => ?_
  refine sv (v := _) E rfl rfl rfl rfl rfl (run_move rfl rfl) fun fr E => ?_
  refine sgive E M rfl rfl rfl rfl rfl (run_call rfl rfl T.fn13) (SameBytes_x (Bytes.nil _) (Bytes.nil _) (by simp)) fun fr w M E => ?_
  rw [decide_eq_true rfl] at E
  refine sv (v := .bool _) E rfl rfl rfl rfl rfl (rfl) fun fr E => ?_
  refine sv (v := .bool _) E rfl rfl rfl rfl rfl (rfl) fun fr E => ?_
  refine seq_nil' ?_
  refine cond_false E rfl (rfl) ?_
  refine wp_skip ?_
  refine then_normal ?_
  refine code_region ?_
  refine sv (v := _) E rfl rfl rfl rfl rfl (run_move rfl rfl) fun fr E => ?_
  have M := M.pull 1 rfl
  refine scallI ([.bytes 5 (.slice none 0 0) []]) E M rfl rfl rfl rfl rfl (run_call rfl rfl T.fn14) rfl (fun H => SpoilBytes_x H (by simp)) ?_
  rintro k fr w hk M E
  refine seq_nil' ?_
  refine code_region ?_
  refine sv (v := _) E rfl rfl rfl rfl rfl (run_move rfl rfl) fun fr E => ?_
  refine sv (v := _) E rfl rfl rfl rfl rfl (run_move rfl rfl) fun fr E => ?_
  refine sgive E M rfl rfl rfl rfl rfl (run_call rfl rfl T.fn13) (SameBytes_x (Bytes.nil _) (Bytes.nil _) (by simp)) fun fr w M E => ?_
  rw [decide_eq_true rfl] at E
  refine sv (v := _) E rfl rfl rfl rfl rfl (run_move rfl rfl) fun fr E => ?_
  refine sgive E M rfl rfl rfl rfl rfl (run_call rfl rfl T.fn15) (works_x _) fun fr w M E => ?_
  refine sv (v := .bool _) E rfl rfl rfl rfl rfl (rfl) fun fr E => ?_
  refine sv (v := _) E rfl rfl rfl rfl rfl (run_assign rfl rfl) fun fr E => ?_
  refine seq_nil' ?_
  refine wp_ret ?_
  refine ret1 E rfl rfl ?_
  exact given M

theorem RegionPuts_x {r : Rec} (hr : r.Ok) (w0 : World) : Gives Try.prog 3 [r.val] w0 (.bool true) := by
  by_cases hm : r.May
  · exact RegionPuts_ok hr hm
  · exact RegionPuts_no hr hm

set_option maxRecDepth 100000 in
theorem RegionGets_long {b : Value} {l : List UInt8} {w0 : World} (hb : Bytes w0 b l) (hz : 4096 < l.length) : Gives Try.prog 4 [b] w0 (.bool true) := by
  refine enter (n := 43) Try.func4 rfl rfl rfl ?_
  intro fr E
  have M : Mem w0 (feet []) [] (fun w' => Bytes w' b l) w0 := Mem.begin (Has.nil w0) (fun w' h => hb.held0 h)
  refine code_region ?_
  refine sv (v := _) E rfl rfl rfl rfl rfl (run_assignC rfl) fun fr E => ?_
  refine seq_nil' ?_
  refine wp_seq ?_
  refine code_region ?_
  refine sv (v := _) E rfl rfl rfl rfl rfl (run_move rfl rfl) fun fr E => ?_
  refine sv (v := .int .i64 _) E rfl rfl rfl rfl rfl (run_lenR rfl rfl rfl rfl T.slice30 M.fact) fun fr E => ?_
  refine sv (v := .bool true) E rfl rfl rfl rfl rfl (tst rfl (decide_eq_true (by omega))) fun fr E => ?_
  refine seq_nil' ?_
  refine cond_true E rfl (rfl) ?_
  refine code_region ?_
  refine sgive E M rfl rfl rfl rfl rfl (run_call rfl rfl T.fn15) (works_x _) fun fr w M E => ?_
  refine sv (v := _) E rfl rfl rfl rfl rfl (run_assign rfl rfl) fun fr E => ?_
  refine seq_nil' ?_
  refine wp_ret ?_
  refine then_ret ?_
  refine ret1 E rfl rfl ?_
  exact given M

set_option maxRecDepth 100000 in
theorem RegionGets_bad {b : Value} {l : List UInt8} {w0 : World} (hb : Bytes w0 b l) (hz : l.length ≤ 4096) (he : rEnd (rst l 11) ≠ 0) : Gives Try.prog 4 [b] w0 (.bool true) := by
  refine enter (n := 43) Try.func4 rfl rfl rfl ?_
  intro fr E
  have M : Mem w0 (feet []) [] (fun w' => Bytes w' b l) w0 := Mem.begin (Has.nil w0) (fun w' h => hb.held0 h)
  refine code_region ?_
  refine sv (v := _) E rfl rfl rfl rfl rfl (run_assignC rfl) fun fr E => ?_
  refine seq_nil' ?_
  refine wp_seq ?_
  refine code_region ?_
  refine sv (v := _) E rfl rfl rfl rfl rfl (run_move rfl rfl) fun fr E => ?_
  refine sv (v := .int .i64 _) E rfl rfl rfl rfl rfl (run_lenR rfl rfl rfl rfl T.slice30 M.fact) fun fr E => ?_
  refine sv (v := .bool false) E rfl rfl rfl rfl rfl (tst rfl (decide_eq_false (by omega))) fun fr E => ?_
  refine seq_nil' ?_
  refine cond_false E rfl (rfl) ?_
  refine wp_skip ?_
  refine then_normal ?_
  refine code_region ?_
  refine sv (v := _) E rfl rfl rfl rfl rfl (run_move rfl rfl) fun fr E => ?_
  refine scall E M rfl rfl rfl rfl rfl (run_call rfl rfl T.fn16) (LentBytes_x M.fact (by omega)) rfl ?_
  rintro o fr w - M E
  refine sv (v := _) E rfl rfl rfl rfl rfl (run_assign rfl rfl) fun fr E => ?_
  refine seq_nil' ?_
  refine code_region ?_
  refine sv (v := _) E rfl rfl rfl rfl rfl (run_move rfl rfl) fun fr E => ?_
  refine sv (v := _) E rfl rfl rfl rfl rfl (run_move rfl rfl) fun fr E => ?_
  refine sv (v := .int .i64 _) E rfl rfl rfl rfl rfl (run_lenR rfl rfl rfl rfl T.slice30 M.fact) fun fr E => ?_
  refine sv (v := _) E rfl rfl rfl rfl rfl (run_sliceR (lo := 0) (hi := l.length) rfl (M.reads 0 rfl) rfl T.slice30 T.size5 (rfl) (⟨_, _, rfl, rfl⟩) (Nat.zero_le _) (by simp)) fun fr E => ?_
  refine sgive E M rfl rfl rfl rfl rfl (run_call rfl rfl T.fn17) (Get_bad (l := l) (Bytes.as (Bytes.pre (k := l.length) (M.reads 0 rfl) (by simp)) (List.take_left' rfl)) (by omega) he) fun fr w M E => ?_
  refine sv (v := _) E rfl rfl rfl rfl rfl (run_move rfl rfl) fun fr E => ?_
  refine sv (v := _) E rfl rfl rfl rfl rfl (run_extract rfl rfl rfl) fun fr E => ?_
  refine sv (v := _) E rfl rfl rfl rfl rfl (run_extract rfl rfl rfl) fun fr E => ?_
  refine snew (ob := .cells _ 29) (fun g => .pointer (some ⟨g, 0, none⟩)) E M rfl rfl rfl rfl rfl (run_allocN rfl T.zero29) fun g0 fr w M E => ?_
  refine sset (i := 0) (cs' := Rec.zero.cells.toArray) E M rfl rfl rfl rfl rfl (run_storeAll (vs := Rec.zero.cells.toArray) rfl rfl rfl T.size29 (Rec.size Rec.zero_ok) (M.row (i := 0) rfl) rfl (fun v hv => Rec.ones _ v hv)) rfl fun fr w M E => ?_
  refine sv (v := _) E rfl rfl rfl rfl rfl (run_assign rfl rfl) fun fr E => ?_
  refine seq_nil' ?_
  refine code_region ?_
  refine sv (v := _) E rfl rfl rfl rfl rfl (run_move rfl rfl) fun fr E => ?_
  refine sgive E M rfl rfl rfl rfl rfl (run_call rfl rfl T.fn18) (Get14_bad M.fact (by omega) he) fun fr w M E => ?_
  refine sv (v := _) E rfl rfl rfl rfl rfl (run_move rfl rfl) fun fr E => ?_
  refine sv (v := _) E rfl rfl rfl rfl rfl (run_extract rfl rfl rfl) fun fr E => ?_
  refine sv (v := _) E rfl rfl rfl rfl rfl (run_extract rfl rfl rfl) fun fr E => ?_
  refine snew (ob := .cells _ 29) (fun g => .pointer (some ⟨g, 0, none⟩)) E M rfl rfl rfl rfl rfl (run_allocN rfl T.zero29) fun g1 fr w M E => ?_
  refine sset (i := 0) (cs' := Rec.zero.cells.toArray) E M rfl rfl rfl rfl rfl (run_storeAll (vs := Rec.zero.cells.toArray) rfl rfl rfl T.size29 (Rec.size Rec.zero_ok) (M.row (i := 0) rfl) rfl (fun v hv => Rec.ones _ v hv)) rfl fun fr w M E => ?_
  refine sv (v := _) E rfl rfl rfl rfl rfl (run_assign rfl rfl) fun fr E => ?_
  refine seq_nil' ?_
  refine code_region ?_
  refine sv (v := _) E rfl rfl rfl rfl rfl (run_move rfl rfl) fun fr E => ?_
  refine sv (v := _) E rfl rfl rfl rfl rfl (run_move rfl rfl) fun fr E => ?_
  refine sv (v := .bool true) E rfl rfl rfl rfl rfl (tst rfl (decide_eq_true rfl)) fun fr E => ?_
  refine sv (v := _) E rfl rfl rfl rfl rfl (run_move rfl rfl) fun fr E => ?_
  refine sv (v := .agg Rec.zero.cells.toArray) E rfl rfl rfl rfl rfl (run_loadAll rfl rfl T.agg29 (M.row (i := 1) rfl) (Rec.size Rec.zero_ok)) fun fr E => ?_
  refine sv (v := .agg Rec.zero.cells.toArray) E rfl rfl rfl rfl rfl (run_loadAll rfl rfl T.agg29 (M.row (i := 0) rfl) (Rec.size Rec.zero_ok)) fun fr E => ?_
  refine sv (v := .bool true) E rfl rfl rfl rfl rfl (run_eqF (b := true) (xs := Rec.zero.cells) (ys := Rec.zero.cells) rfl rfl rfl T.flat29 (Rec.fit Rec.zero_ok) (Rec.fit Rec.zero_ok) (by simp)) fun fr E => ?_
  refine sv (v := .bool _) E rfl rfl rfl rfl rfl (rfl) fun fr E => ?_
  refine sv (v := _) E rfl rfl rfl rfl rfl (run_move rfl rfl) fun fr E => ?_
  refine sv (v := _) E rfl rfl rfl rfl rfl (run_move rfl rfl) fun fr E => ?_
  refine sv (v := _) E rfl rfl rfl rfl rfl (run_move rfl rfl) fun fr E => ?_
  refine sgive E M rfl rfl rfl rfl rfl (run_call rfl rfl T.fn19) (KeptBytes_x (M.reads 2 rfl) M.fact (by omega)) fun fr w M E => ?_
  refine sv (v := .bool _) E rfl rfl rfl rfl rfl (rfl) fun fr E => ?_
  refine sv (v := _) E rfl rfl rfl rfl rfl (run_move rfl rfl) fun fr E => ?_
  refine sgive E M rfl rfl rfl rfl rfl (run_call rfl rfl T.fn15) (works_x _) fun fr w M E => ?_
  refine sv (v := .bool _) E rfl rfl rfl rfl rfl (rfl) fun fr E => ?_
  refine sv (v := _) E rfl rfl rfl rfl rfl (run_assign rfl rfl) fun fr E => ?_
  refine seq_nil' ?_
  refine wp_ret ?_
  refine ret1 E rfl rfl ?_
  exact given M

set_option maxRecDepth 100000 in
theorem RegionGets_ok {b : Value} {l : List UInt8} {w0 : World} (hb : Bytes w0 b l) (hz : l.length ≤ 4096) (he : rEnd (rst l 11) = 0) (hm : (Rec.read l).May) : Gives Try.prog 4 [b] w0 (.bool true) := by
  refine enter (n := 43) Try.func4 rfl rfl rfl ?_
  intro fr E
  have M : Mem w0 (feet []) [] (fun w' => Bytes w' b l) w0 := Mem.begin (Has.nil w0) (fun w' h => hb.held0 h)
  refine code_region ?_
  refine sv (v := _) E rfl rfl rfl rfl rfl (run_assignC rfl) fun fr E => ?_
  refine seq_nil' ?_
  refine wp_seq ?_
  refine code_region ?_
  refine sv (v := _) E rfl rfl rfl rfl rfl (run_move rfl rfl) fun fr E => ?_
  refine sv (v := .int .i64 _) E rfl rfl rfl rfl rfl (run_lenR rfl rfl rfl rfl T.slice30 M.fact) fun fr E => ?_
  refine sv (v := .bool false) E rfl rfl rfl rfl rfl (tst rfl (decide_eq_false (by omega))) fun fr E => ?_
  refine seq_nil' ?_
  refine cond_false E rfl (rfl) ?_
  refine wp_skip ?_
  refine then_normal ?_
  refine code_region ?_
  refine sv (v := _) E rfl rfl rfl rfl rfl (run_move rfl rfl) fun fr E => ?_
  refine scall E M rfl rfl rfl rfl rfl (run_call rfl rfl T.fn16) (LentBytes_x M.fact (by omega)) rfl ?_
  rintro o fr w - M E
  refine sv (v := _) E rfl rfl rfl rfl rfl (run_assign rfl rfl) fun fr E => ?_
  refine seq_nil' ?_
  refine code_region ?_
  refine sv (v := _) E rfl rfl rfl rfl rfl (run_move rfl rfl) fun fr E => ?_
  refine sv (v := _) E rfl rfl rfl rfl rfl (run_move rfl rfl) fun fr E => ?_
  refine sv (v := .int .i64 _) E rfl rfl rfl rfl rfl (run_lenR rfl rfl rfl rfl T.slice30 M.fact) fun fr E => ?_
  refine sv (v := _) E rfl rfl rfl rfl rfl (run_sliceR (lo := 0) (hi := l.length) rfl (M.reads 0 rfl) rfl T.slice30 T.size5 (rfl) (⟨_, _, rfl, rfl⟩) (Nat.zero_le _) (by simp)) fun fr E => ?_
  refine sgive E M rfl rfl rfl rfl rfl (run_call rfl rfl T.fn17) (Get_ok (l := l) (Bytes.as (Bytes.pre (k := l.length) (M.reads 0 rfl) (by simp)) (List.take_left' rfl)) (by omega) he hm) fun fr w M E => ?_
  refine sv (v := _) E rfl rfl rfl rfl rfl (run_move rfl rfl) fun fr E => ?_
  refine sv (v := _) E rfl rfl rfl rfl rfl (run_extract rfl rfl rfl) fun fr E => ?_
  refine sv (v := _) E rfl rfl rfl rfl rfl (run_extract rfl rfl rfl) fun fr E => ?_
  refine snew (ob := .cells _ 29) (fun g => .pointer (some ⟨g, 0, none⟩)) E M rfl rfl rfl rfl rfl (run_allocN rfl T.zero29) fun g0 fr w M E => ?_
  refine sset (i := 0) (cs' := (Rec.read l).cells.toArray) E M rfl rfl rfl rfl rfl (run_storeAll (vs := (Rec.read l).cells.toArray) rfl rfl rfl T.size29 (Rec.size (Rec.read_ok l)) (M.row (i := 0) rfl) rfl (fun v hv => Rec.ones _ v hv)) rfl fun fr w M E => ?_
  refine sv (v := _) E rfl rfl rfl rfl rfl (run_assign rfl rfl) fun fr E => ?_
  refine seq_nil' ?_
  refine code_region ?_
  refine sv (v := _) E rfl rfl rfl rfl rfl (run_move rfl rfl) fun fr E => ?_
  refine sgive E M rfl rfl rfl rfl rfl (run_call rfl rfl T.fn18) (Get14_ok M.fact (by omega) he hm) fun fr w M E => ?_
  refine sv (v := _) E rfl rfl rfl rfl rfl (run_move rfl rfl) fun fr E => ?_
  refine sv (v := _) E rfl rfl rfl rfl rfl (run_extract rfl rfl rfl) fun fr E => ?_
  refine sv (v := _) E rfl rfl rfl rfl rfl (run_extract rfl rfl rfl) fun fr E => ?_
  refine snew (ob := .cells _ 29) (fun g => .pointer (some ⟨g, 0, none⟩)) E M rfl rfl rfl rfl rfl (run_allocN rfl T.zero29) fun g1 fr w M E => ?_
  refine sset (i := 0) (cs' := (Rec.read l).cells.toArray) E M rfl rfl rfl rfl rfl (run_storeAll (vs := (Rec.read l).cells.toArray) rfl rfl rfl T.size29 (Rec.size (Rec.read_ok l)) (M.row (i := 0) rfl) rfl (fun v hv => Rec.ones _ v hv)) rfl fun fr w M E => ?_
  refine sv (v := _) E rfl rfl rfl rfl rfl (run_assign rfl rfl) fun fr E => ?_
  refine seq_nil' ?_
  refine code_region ?_
  refine sv (v := _) E rfl rfl rfl rfl rfl (run_move rfl rfl) fun fr E => ?_
  refine sv (v := _) E rfl rfl rfl rfl rfl (run_move rfl rfl) fun fr E => ?_
  refine sv (v := .bool true) E rfl rfl rfl rfl rfl (tst rfl (decide_eq_true rfl)) fun fr E => ?_
  refine sv (v := _) E rfl rfl rfl rfl rfl (run_move rfl rfl) fun fr E => ?_
  refine sv (v := .agg (Rec.read l).cells.toArray) E rfl rfl rfl rfl rfl (run_loadAll rfl rfl T.agg29 (M.row (i := 1) rfl) (Rec.size (Rec.read_ok l))) fun fr E => ?_
  refine sv (v := .agg (Rec.read l).cells.toArray) E rfl rfl rfl rfl rfl (run_loadAll rfl rfl T.agg29 (M.row (i := 0) rfl) (Rec.size (Rec.read_ok l))) fun fr E => ?_
  refine sv (v := .bool true) E rfl rfl rfl rfl rfl (run_eqF (b := true) (xs := (Rec.read l).cells) (ys := (Rec.read l).cells) rfl rfl rfl T.flat29 (Rec.fit (Rec.read_ok l)) (Rec.fit (Rec.read_ok l)) (by simp)) fun fr E => ?_
  refine sv (v := .bool _) E rfl rfl rfl rfl rfl (rfl) fun fr E => ?_
  refine sv (v := _) E rfl rfl rfl rfl rfl (run_move rfl rfl) fun fr E => ?_
  refine sv (v := _) E rfl rfl rfl rfl rfl (run_move rfl rfl) fun fr E => ?_
  refine sv (v := _) E rfl rfl rfl rfl rfl (run_move rfl rfl) fun fr E => ?_
  refine sgive E M rfl rfl rfl rfl rfl (run_call rfl rfl T.fn19) (KeptBytes_x (M.reads 2 rfl) M.fact (by omega)) fun fr w M E => ?_
  refine sv (v := .bool _) E rfl rfl rfl rfl rfl (rfl) fun fr E => ?_
  refine sv (v := _) E rfl rfl rfl rfl rfl (run_move rfl rfl) fun fr E => ?_
  refine sgive E M rfl rfl rfl rfl rfl (run_call rfl rfl T.fn15) (works_x _) fun fr w M E => ?_
  refine sv (v := .bool _) E rfl rfl rfl rfl rfl (rfl) fun fr E => ?_
  refine sv (v := _) E rfl rfl rfl rfl rfl (run_assign rfl rfl) fun fr E => ?_
  refine seq_nil' ?_
  refine wp_ret ?_
  refine ret1 E rfl rfl ?_
  exact given M

set_option maxRecDepth 100000 in
theorem RegionGets_no {b : Value} {l : List UInt8} {w0 : World} (hb : Bytes w0 b l) (hz : l.length ≤ 4096) (he : rEnd (rst l 11) = 0) (hm : ¬ (Rec.read l).May) : Gives Try.prog 4 [b] w0 (.bool true) := by
  refine enter (n := 43) Try.func4 rfl rfl rfl ?_
  intro fr E
  have M : Mem w0 (feet []) [] (fun w' => Bytes w' b l) w0 := Mem.begin (Has.nil w0) (fun w' h => hb.held0 h)
  refine code_region ?_
  refine sv (v := _) E rfl rfl rfl rfl rfl (run_assignC rfl) fun fr E => ?_
  refine seq_nil' ?_
  refine wp_seq ?_
  refine code_region ?_
  refine sv (v := _) E rfl rfl rfl rfl rfl (run_move rfl rfl) fun fr E => ?_
  refine sv (v := .int .i64 _) E rfl rfl rfl rfl rfl (run_lenR rfl rfl rfl rfl T.slice30 M.fact) fun fr E => ?_
  refine sv (v := .bool false) E rfl rfl rfl rfl rfl (tst rfl (decide_eq_false (by omega))) fun fr E => ?_
  refine seq_nil' ?_
  refine cond_false E rfl (rfl) ?_
  refine wp_skip ?_
  refine then_normal ?_
  refine code_region ?_
  refine sv (v := _) E rfl rfl rfl rfl rfl (run_move rfl rfl) fun fr E => ?_
  refine scall E M rfl rfl rfl rfl rfl (run_call rfl rfl T.fn16) (LentBytes_x M.fact (by omega)) rfl ?_
  rintro o fr w - M E
  refine sv (v := _) E rfl rfl rfl rfl rfl (run_assign rfl rfl) fun fr E => ?_
  refine seq_nil' ?_
  refine code_region ?_
  refine sv (v := _) E rfl rfl rfl rfl rfl (run_move rfl rfl) fun fr E => ?_
  refine sv (v := _) E rfl rfl rfl rfl rfl (run_move rfl rfl) fun fr E => ?_
  refine sv (v := .int .i64 _) E rfl rfl rfl rfl rfl (run_lenR rfl rfl rfl rfl T.slice30 M.fact) fun fr E => ?_
  refine sv (v := _) E rfl rfl rfl rfl rfl (run_sliceR (lo := 0) (hi := l.length) rfl (M.reads 0 rfl) rfl T.slice30 T.size5 (rfl) (⟨_, _, rfl, rfl⟩) (Nat.zero_le _) (by simp)) fun fr E => ?_
  refine sgive E M rfl rfl rfl rfl rfl (run_call rfl rfl T.fn17) (Get_no (l := l) (Bytes.as (Bytes.pre (k := l.length) (M.reads 0 rfl) (by simp)) (List.take_left' rfl)) (by omega) he hm) fun fr w M E => ?_
  refine sv (v := _) E rfl rfl rfl rfl rfl (run_move rfl rfl) fun fr E => ?_
  refine sv (v := _) E rfl rfl rfl rfl rfl (run_extract rfl rfl rfl) fun fr E => ?_
  refine sv (v := _) E rfl rfl rfl rfl rfl (run_extract rfl rfl rfl) fun fr E => ?_
  refine snew (ob := .cells _ 29) (fun g => .pointer (some ⟨g, 0, none⟩)) E M rfl rfl rfl rfl rfl (run_allocN rfl T.zero29) fun g0 fr w M E => ?_
  refine sset (i := 0) (cs' := Rec.zero.cells.toArray) E M rfl rfl rfl rfl rfl (run_storeAll (vs := Rec.zero.cells.toArray) rfl rfl rfl T.size29 (Rec.size Rec.zero_ok) (M.row (i := 0) rfl) rfl (fun v hv => Rec.ones _ v hv)) rfl fun fr w M E => ?_
  refine sv (v := _) E rfl rfl rfl rfl rfl (run_assign rfl rfl) fun fr E => ?_
  refine seq_nil' ?_
  refine code_region ?_
  refine sv (v := _) E rfl rfl rfl rfl rfl (run_move rfl rfl) fun fr E => ?_
  refine sgive E M rfl rfl rfl rfl rfl (run_call rfl rfl T.fn18) (Get14_no M.fact (by omega) he hm) fun fr w M E => ?_
  refine sv (v := _) E rfl rfl rfl rfl rfl (run_move rfl rfl) fun fr E => ?_
  refine sv (v := _) E rfl rfl rfl rfl rfl (run_extract rfl rfl rfl) fun fr E => ?_
  refine sv (v := _) E rfl rfl rfl rfl rfl (run_extract rfl rfl rfl) fun fr E => ?_
  refine snew (ob := .cells _ 29) (fun g => .pointer (some ⟨g, 0, none⟩)) E M rfl rfl rfl rfl rfl (run_allocN rfl T.zero29) fun g1 fr w M E => ?_
  refine sset (i := 0) (cs' := Rec.zero.cells.toArray) E M rfl rfl rfl rfl rfl (run_storeAll (vs := Rec.zero.cells.toArray) rfl rfl rfl T.size29 (Rec.size Rec.zero_ok) (M.row (i := 0) rfl) rfl (fun v hv => Rec.ones _ v hv)) rfl fun fr w M E => ?_
  refine sv (v := _) E rfl rfl rfl rfl rfl (run_assign rfl rfl) fun fr E => ?_
  refine seq_nil' ?_
  refine code_region ?_
  refine sv (v := _) E rfl rfl rfl rfl rfl (run_move rfl rfl) fun fr E => ?_
  refine sv (v := _) E rfl rfl rfl rfl rfl (run_move rfl rfl) fun fr E => ?_
  refine sv (v := .bool true) E rfl rfl rfl rfl rfl (tst rfl (decide_eq_true rfl)) fun fr E => ?_
  refine sv (v := _) E rfl rfl rfl rfl rfl (run_move rfl rfl) fun fr E => ?_
  refine sv (v := .agg Rec.zero.cells.toArray) E rfl rfl rfl rfl rfl (run_loadAll rfl rfl T.agg29 (M.row (i := 1) rfl) (Rec.size Rec.zero_ok)) fun fr E => ?_
  refine sv (v := .agg Rec.zero.cells.toArray) E rfl rfl rfl rfl rfl (run_loadAll rfl rfl T.agg29 (M.row (i := 0) rfl) (Rec.size Rec.zero_ok)) fun fr E => ?_
  refine sv (v := .bool true) E rfl rfl rfl rfl rfl (run_eqF (b := true) (xs := Rec.zero.cells) (ys := Rec.zero.cells) rfl rfl rfl T.flat29 (Rec.fit Rec.zero_ok) (Rec.fit Rec.zero_ok) (by simp)) fun fr E => ?_
  refine sv (v := .bool _) E rfl rfl rfl rfl rfl (rfl) fun fr E => ?_
  refine sv (v := _) E rfl rfl rfl rfl rfl (run_move rfl rfl) fun fr E => ?_
  refine sv (v := _) E rfl rfl rfl rfl rfl (run_move rfl rfl) fun fr E => ?_
  refine sv (v := _) E rfl rfl rfl rfl rfl (run_move rfl rfl) fun fr E => ?_
  refine sgive E M rfl rfl rfl rfl rfl (run_call rfl rfl T.fn19) (KeptBytes_x (M.reads 2 rfl) M.fact (by omega)) fun fr w M E => ?_
  refine sv (v := .bool _) E rfl rfl rfl rfl rfl (rfl) fun fr E => ?_
  refine sv (v := _) E rfl rfl rfl rfl rfl (run_move rfl rfl) fun fr E => ?_
  refine sgive E M rfl rfl rfl rfl rfl (run_call rfl rfl T.fn15) (works_x _) fun fr w M E => ?_
  refine sv (v := .bool _) E rfl rfl rfl rfl rfl (rfl) fun fr E => ?_
  refine sv (v := _) E rfl rfl rfl rfl rfl (run_assign rfl rfl) fun fr E => ?_
  refine seq_nil' ?_
  refine wp_ret ?_
  refine ret1 E rfl rfl ?_
  exact given M

theorem RegionGets_x {b : Value} {l : List UInt8} {w0 : World} (hb : Bytes w0 b l) : Gives Try.prog 4 [b] w0 (.bool true) := by
  by_cases hz : l.length ≤ 4096
  · by_cases he : rEnd (rst l 11) = 0
    · by_cases hm : (Rec.read l).May
      · exact RegionGets_ok hb hz he hm
      · exact RegionGets_no hb hz he hm
    · exact RegionGets_bad hb hz he
  · exact RegionGets_long hb (by omega)
end Go.Proofs.Ytnojooafgehhaaa.K
end
