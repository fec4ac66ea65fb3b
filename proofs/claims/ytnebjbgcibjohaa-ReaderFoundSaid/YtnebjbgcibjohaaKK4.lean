/- ReaderFound: a batch is read just if each of its slots has its own bytes. -/
import Derived.Test.YtnebjbgcibjohaaKK
import Derived.Test.YtnebjbgcibjohaaKK3
namespace Go.Proofs.Ytnebjbgcibjohaa.K
open Go.RowKit Go.Rill Go.Proofs
set_option linter.unusedVariables false
set_option linter.unusedSimpArgs false
def PB (A : AD) : Prop := A.n = 643 ∧ A.last.length = 643 ∧ A.cache = []
theorem PB.tamper {A : AD} {k : Nat} {l : List UInt8} (h : PB A) (hk : k < 643) (hl : l.length ≤ 1024) : PB (A.tamper ((k : Nat) : Int) l).2 := by
  obtain ⟨h1, h2, h3⟩ := h
  have e := tamper_same (l := l) h3 (k := k) (by omega) hl
  exact ⟨by rw [e]; exact h1, by rw [e]; exact (List.length_set ..).trans h2, by rw [e]; exact h3⟩
theorem os_get {os : List (Value × List UInt8)} {n : Nat} {f : Nat → List UInt8} (h : os.map (·.2) = (List.range n).map f) {k : Nat} (hk : k < n) : (os[k]'(by have := congrArg List.length h; simp at this; omega)).2 = f k := by
  have hl : os.length = n := by have := congrArg List.length h; simpa using this
  have e := congrArg (fun l => l[k]?) h
  simp only [List.getElem?_map, List.getElem?_range hk, Option.map_some, List.getElem?_eq_getElem (show k < os.length by omega)] at e
  exact Option.some.inj e
theorem _root_.Go.Rill.Does.argsF {P : Program} {f : FuncId} {args args' : List Value} {w : World} {α : Type} {ins : List Ent} {val : α → Value} {outs : α → List Ent} {p : α → Prop} (h : Does P f args w ins val outs p) (e : args = args') : Does P f args' w ins val outs p := e ▸ h
theorem ic_get {l : List Int} {k : Nat} (h : k < l.length) : (ic l)[k]? = some (.int .i64 l[k]) := by simp [ic, h]
theorem _root_.Go.Rill.BytesZ.slice {w : World} {v : Value} {l : List UInt8} (h : BytesZ w v l) : ∃ b c, v = .slice b l.length c := by
  rcases h with h | ⟨a, rfl, rfl⟩
  · exact Reads.slice h
  · exact ⟨_, _, rfl⟩
theorem _root_.Go.Rill.BytesZ.big {w : World} {v : Value} {l : List UInt8} (h : BytesZ w v l) (hl : 0 < l.length) : Bytes w v l := by
  rcases h with h | ⟨a, rfl, rfl⟩
  · exact h
  · exact absurd hl (by simp)
theorem _root_.Go.Rill.BytesZ.held0 {w w' : World} {v : Value} {l : List UInt8} (h : BytesZ w v l) (H : Held (feet []) w w') : BytesZ w' v l := h.imp (fun h => Reads.held0 h H) id
section
variable {L : Lg} {rs : List Rc} {Ds : List Nat} {i : Nat}
theorem ask_c0 (h : WL L rs Ds) {f : Int × Int × List UInt8} (hf : L.froms[i]? = some f) : (askC L.froms)[i * 34 + 0 + 0]? = some (.int .i64 f.1) := by
  have e := congrArg List.head? (ask_get h hf)
  rw [List.head?_take, if_neg (by decide), List.head?_drop] at e
  exact e
theorem ask_c1 (h : WL L rs Ds) {f : Int × Int × List UInt8} (hf : L.froms[i]? = some f) : (askC L.froms)[i * 34 + 0 + 1]? = some (.int .i64 f.2.1) := by
  have e := congrArg (fun l => l[1]?) (ask_get h hf)
  simp only [List.getElem?_take_of_lt (show 1 < 34 by decide), List.getElem?_drop] at e
  exact e
end
set_option maxHeartbeats 2000000 in
set_option maxRecDepth 100000 in
theorem ReaderFound_z {av iv rv : Value} {l : List (Int × Bool)} {il : List Int} {ps : List (Value × List UInt8)} {w0 : World} (hb : Reads 2 w0 av l.length (szC l)) (hi0 : Reads 1 w0 iv il.length (ic il)) (hr0 : Reads 1 w0 rv ps.length (ps.map (·.1))) (hz0 : ∀ q ∈ ps, BytesZ w0 q.1 q.2)  : Gives Try.prog 4 [av, iv, rv] w0 (.bool true) := by
  refine enter (n := 278) Try.func4 rfl rfl rfl ?_
  intro fr E
  have M : Mem w0 (feet []) [] (fun w' => (Reads 1 w' iv il.length (ic il) ∧ Reads 1 w' rv ps.length (ps.map (·.1)) ∧ ∀ q ∈ ps, BytesZ w' q.1 q.2) ∧ Reads 2 w' av l.length (szC l)) w0 := Mem.begin (Has.nil w0) (fun w' h => ⟨⟨Reads.held0 hi0 h, Reads.held0 hr0 h, fun q hq => (hz0 q hq).held0 h⟩, Reads.held0 hb h⟩)
  refine code_region ?_
  refine sw E (run_assignC rfl) fun fr E => ?_
  refine seq_nil' ?_
  refine code_region ?_
  refine mv E fun fr E => ?_
  refine scall E M rfl rfl rfl rfl rfl (run_call rfl rfl T.fn6) (write_x M.fact.2) rfl ?_
  rintro ⟨gl, g, a, X⟩ fr w ⟨hL, hq⟩ M E
  refine ma E fun fr E => ?_
  refine seq_nil' ?_
  refine wp_seq ?_
  obtain ⟨lf, lsm, qs, D, N⟩ := X
  obtain ⟨rs, Ds, hW, h30⟩ := WL.lgOf l
  obtain ⟨L, hLd⟩ : ∃ L, L = lgOf l := ⟨_, rfl⟩
  rw [← hLd] at hL hq M hW
  have hI := hW.inv
  have hRd : RdIs D N g a L L.A [] := ⟨⟨_, hL.1, Seen.refl _⟩, hL.2.1, hL.2.2.1, by rw [List.append_nil]; exact hL.2.2.2⟩
  obtain ⟨hp, b2, b3, b4, b5, b6, b7, b8⟩ := hW.bounds h30
  have hrl : rs.length ≤ 500 := by have := hI.n; omega
  have hq : qs.map (·.1) = L.sums := hq
  have hql : qs.length = Ds.length := by have := congrArg List.length hq; rw [List.length_map] at this; rw [this, hW.ql]
  have hpos : 3 + L.sg * 32 + L.sl = ((67 + rs.length : Nat) : Int) := hI.pos
  have hAn := hI.an
  refine code_region ?_
  refine mv E fun fr E => ?_
  refine sw (v := .bool false) E (tst rfl (rfl)) fun fr E => ?_
  refine seq_nil' ?_
  refine cond_false E rfl (rfl) ?_
  refine wp_skip ?_
  refine then_normal ?_
  refine code_region ?_
  refine sw E (run_assignC rfl) fun fr E => ?_
  refine seq_nil' ?_
  refine wp_seq (free_reg (B := T.tab4_5_b) (Vs := (.exact _ :: .exact _ :: .exact (.pointer (some ⟨_, 2, none⟩)) :: .exact (.pointer (some ⟨_, 2, none⟩)) :: .exact (.int .i64 L.sg) :: .exact (.int _ (L.sg * 32)) :: .exact (.int _ (3 + L.sg * 32)) :: .exact _ :: .exact _ :: .exact (.pointer (some ⟨_, 2, none⟩)) :: .exact (.pointer (some ⟨_, 3, none⟩)) :: .exact (.int .i64 L.sl) :: .exact (.int _ (((67 + rs.length : Nat) : Int))) :: .exact _ :: [])) T.tab4_5_i E T.mixed T.tab4_5 rfl (AllS.lasts ⟨trivial, trivial, trivial, trivial, trivial, trivial, trivial, trivial, trivial, trivial, trivial, trivial, trivial, trivial, trivial⟩) ⟨fv rfl rfl (fun x w hx hk => run_move rfl rfl),
      fv rfl rfl (fun x w hx hk => run_nilCheck rfl rfl),
      fv rfl rfl (fun x w hx hk => run_fieldAddr rfl rfl T.fld34_2),
      fv rfl rfl (fun x w hx hk => run_fieldAddr rfl rfl T.fld26_0),
      fv rfl rfl (fun x w hx hk => run_loadB rfl rfl T.one3 ((M.ext ((Ext.drew _).trans hx)).row (i := 0) rfl) rfl),
      fv rfl rfl (fun x w hx hk => num rfl (i64_id (by omega) (by omega))),
      fv rfl rfl (fun x w hx hk => num rfl (i64_id (by omega) (by omega))),
      fv rfl rfl (fun x w hx hk => run_move rfl rfl),
      fv rfl rfl (fun x w hx hk => run_nilCheck rfl rfl),
      fv rfl rfl (fun x w hx hk => run_fieldAddr rfl rfl T.fld34_2),
      fv rfl rfl (fun x w hx hk => run_fieldAddr rfl rfl T.fld26_1),
      fv rfl rfl (fun x w hx hk => run_loadB rfl rfl T.one3 ((M.ext ((Ext.drew _).trans hx)).row (i := 0) rfl) rfl),
      fv rfl rfl (fun x w hx hk => num rfl ((i64_id (by omega) (by omega)).trans hpos)),
      fv rfl rfl (fun x w hx hk => run_assign rfl rfl), trivial⟩ ?_)
  intro x fr w hx hk E
  have M := M.ext hx
  refine then_normal ?_
  refine code_region ?_
  refine sw E (run_assignC rfl) fun fr E => ?_
  refine seq_nil' ?_
  refine wp_seq ?_
  refine code_region ?_
  refine sw E (run_assignC rfl) fun fr E => ?_
  refine seq_nil' ?_
  refine wp_block ?_
  refine loop_dec (fun d fr w => ∃ (i : Nat) (ov : Value) (os : List (Value × List UInt8)) (D : DV) (N : NV), d = 643 - i ∧ i ≤ 643 ∧ os.map (·.2) = (List.range i).map L.A.read ∧ RdIs D N g a L L.A [] ∧ Env [(11, .int .i64 (i : Int)), (10, ov), (9, .int .i64 ((67 + rs.length : Nat) : Int)), (8, .int .i64 67), (7, .pointer (some ⟨gl, 0, none⟩)), (2, rv), (1, iv)] 278 fr ∧ Mem w0 (feet []) [.row 54 1 ov os.length (os.map (·.1)), .pool os.reverse, .blk gl (.cells (lgc g a L.sg L.sl L.prev lf lsm L.n).toArray 34), dkE D, nmE N, .row 36 34 lf L.froms.length (askC L.froms), .row 39 35 lsm qs.length (smC qs), .rows 35 (qs.map rowQ).reverse] (fun w' => (Reads 1 w' iv il.length (ic il) ∧ Reads 1 w' rv ps.length (ps.map (·.1)) ∧ ∀ q ∈ ps, BytesZ w' q.1 q.2) ∧ Reads 2 w' av l.length (szC l)) w) (643) ?_ ?_
  · have M := M.pull 5 rfl
    have M := M.pull 5 rfl
    have M := M.pull 5 rfl
    have M := M.pull 5 rfl
    have M := M.pull 5 rfl
    have M := M.pull 5 rfl
    have hol2 : ∀ m, (L.A.read m).length ≤ 1024 := fun m => hL.1.2.read_len m
    have M := (M.nilPoolF).nilRowF 54 1
    exact ⟨0, _, [], D, N, rfl, Nat.zero_le _, rfl, hRd, (((((((Env.nil E).add E (t := 1) rfl).add E (t := 2) rfl).add E (t := 7) rfl).add E (t := 8) rfl).add E (t := 9) rfl).add E (t := 10) rfl).add E (t := 11) rfl, Mem.take (L := [.row 54 1 _ ([] : List (Value × List UInt8)).length (([] : List (Value × List UInt8)).map (·.1)), .pool ([] : List (Value × List UInt8)).reverse, .blk gl (.cells (lgc g a L.sg L.sl L.prev lf lsm L.n).toArray 34), dkE D, nmE N, .row 36 34 lf L.froms.length (askC L.froms), .row 39 35 lsm qs.length (smC qs), .rows 35 (qs.map rowQ).reverse]) M⟩
  · clear E M
    rintro d fr w ⟨i, ov, os, D, N, rfl, hle, ho, hRd, E, M⟩
    have hol2 : ∀ m, (L.A.read m).length ≤ 1024 := fun m => hL.1.2.read_len m
    by_cases hi : i < 643
    · obtain ⟨⟨A', hD, hS⟩, hga, hks, hts⟩ := hRd
      have hA' : A'.n = 643 := hS.n.trans hAn
      have hol : os.length = i := by have := congrArg List.length ho; simpa using this
      have hrd : A'.read i = L.A.read i := hS.read i
      refine wp_seq ?_
      refine code_region ?_
      refine mv E fun fr E => ?_
      refine mv E fun fr E => ?_
      refine sw E (run_nilCheck rfl rfl) fun fr E => ?_
      refine sw (v := .pointer (some ⟨_, 0, none⟩)) E (run_fieldAddr rfl rfl T.fld34_0) fun fr E => ?_
      refine sw (v := .pointer (some ⟨g, 0, none⟩)) E (run_loadB rfl rfl T.one29 (M.row (i := 2) rfl) rfl) fun fr E => ?_
      refine sgive E M rfl rfl rfl rfl rfl (run_call rfl rfl T.fn11) (LenR_g (M.has1 (i := 3) rfl) hD) fun fr w M E => ?_
      rw [hA'] at E
      refine sw (v := .bool true) E (tst rfl (decide_eq_true (by omega))) fun fr E => ?_
      refine seq_nil' ?_
      refine cond_true E rfl (rfl) ?_
      refine wp_skip ?_
      refine then_normal ?_
      refine wp_seq ?_
      refine wp_block ?_
      refine code_region ?_
      refine mv E fun fr E => ?_
      refine sw E (run_nilCheck rfl rfl) fun fr E => ?_
      refine sw (v := .pointer (some ⟨_, 0, none⟩)) E (run_fieldAddr rfl rfl T.fld34_0) fun fr E => ?_
      refine sw (v := .pointer (some ⟨g, 0, none⟩)) E (run_loadB rfl rfl T.one29 (M.row (i := 2) rfl) rfl) fun fr E => ?_
      refine mv E fun fr E => ?_
      have M := M.pull 3 rfl
      refine scallI ([dkE D]) E M rfl rfl rfl rfl rfl (run_call rfl rfl T.fn12) rfl (fun H => Read_a (j := i) H hD (by omega)) ?_
      rintro ⟨c, D2⟩ fr w hD2 M E
      refine mv E fun fr E => ?_
      refine sw E (run_extract rfl rfl rfl) fun fr E => ?_
      refine sw E (run_extract rfl rfl rfl) fun fr E => ?_
      refine ma E fun fr E => ?_
      refine ma E fun fr E => ?_
      refine seq_nil' ?_
      refine code_last ?_
      refine mv E fun fr E => ?_
      refine mv E fun fr E => ?_
      refine srow (sz := 1) (xs := _) E M rfl rfl rfl rfl rfl (run_buildSliceA (us := [c]) (vs := [c]) rfl rfl rfl T.slice52 T.size54 T.zl54 rfl (by simp [show c.cells = #[c] from Reads.cellR (M.bytes 0 rfl)]) rfl rfl (by simp [show c.cells = #[c] from Reads.cellR (M.bytes 0 rfl)])) (rfl) (Nat.le_refl _) (by decide) (rfl) fun nr fr w M E => ?_
      refine sapp (i := 3) E M rfl rfl rfl rfl rfl rfl rfl rfl rfl rfl rfl T.slice52 T.slice52 T.zt54 T.by54 (by decide) (M.reads 0 rfl) (fun u hu => (List.mem_singleton.1 hu) ▸ Reads.oneR (M.bytes 1 rfl)) (by omega) fun ow fr w M E => ?_
      refine ma E fun fr E => ?_
      refine seq_nil ?_
      refine block_normal ?_
      refine then_normal ?_
      refine code_last ?_
      refine mv E fun fr E => ?_
      refine sw (v := .int _ (((i + 1 : Nat) : Int))) E (num rfl ((i64_id (by omega) (by omega)).trans (by omega))) fun fr E => ?_
      refine ma E fun fr E => ?_
      refine seq_nil ?_
      refine then_any ?_
      have M := M.pull 9 rfl
      have M := M.pull 9 rfl
      have M := M.pull 9 rfl
      have M := M.pull 9 rfl
      have M := M.pull 6 rfl
      have M := M.pull 9 rfl
      have M := M.pull 8 rfl
      have M := M.pull 9 rfl
      have M := M.pull 9 rfl
      have M := (M.pour).pull 1 rfl
      exact ⟨643 - (i + 1), by omega, i + 1, _, (os ++ [(c, A'.read i)]), D2, N, rfl, by omega, by rw [List.map_append, ho, List.range_succ, List.map_append]; exact congrArg (fun x => List.map L.A.read (List.range i) ++ [x]) hrd, ⟨⟨_, hD2, hS.bump i⟩, hga, hks, hts⟩, (((((((Env.nil E).add E (t := 1) rfl).add E (t := 2) rfl).add E (t := 7) rfl).add E (t := 8) rfl).add E (t := 9) rfl).add E (t := 10) rfl).add E (t := 11) rfl, (Mem.take (L := [.row 54 1 _ (os.length + 1) (os.map (·.1) ++ [c]), .pool ((c, A'.read i) :: os.reverse), .blk gl (.cells (lgc g a L.sg L.sl L.prev lf lsm L.n).toArray 34), dkE D2, nmE N, .row 36 34 lf L.froms.length (askC L.froms), .row 39 35 lsm qs.length (smC qs), .rows 35 (qs.map rowQ).reverse]) M).as (by simp)⟩
    · obtain rfl : i = 643 := by omega
      have hRd0 := hRd
      obtain ⟨⟨A', hD, hS⟩, hga, hks, hts⟩ := hRd
      have hA' : A'.n = 643 := hS.n.trans hAn
      have hol : os.length = 643 := by have := congrArg List.length ho; simpa using this
      refine wp_seq ?_
      refine code_region ?_
      refine mv E fun fr E => ?_
      refine mv E fun fr E => ?_
      refine sw E (run_nilCheck rfl rfl) fun fr E => ?_
      refine sw (v := .pointer (some ⟨_, 0, none⟩)) E (run_fieldAddr rfl rfl T.fld34_0) fun fr E => ?_
      refine sw (v := .pointer (some ⟨g, 0, none⟩)) E (run_loadB rfl rfl T.one29 (M.row (i := 2) rfl) rfl) fun fr E => ?_
      refine sgive E M rfl rfl rfl rfl rfl (run_call rfl rfl T.fn11) (LenR_g (M.has1 (i := 3) rfl) hD) fun fr w M E => ?_
      rw [hA'] at E
      refine sw (v := .bool false) E (tst rfl (by decide)) fun fr E => ?_
      refine seq_nil' ?_
      refine cond_false E rfl (rfl) ?_
      refine wp_exit ?_
      refine then_exit ?_
      refine then_exit ?_
      refine block_exit ?_
      refine then_normal ?_
      refine wp_seq ?_
      refine code_region ?_
      refine mv E fun fr E => ?_
      refine sw E (run_nilCheck rfl rfl) fun fr E => ?_
      refine sw (v := .pointer (some ⟨_, 0, none⟩)) E (run_fieldAddr rfl rfl T.fld34_0) fun fr E => ?_
      refine sw (v := .pointer (some ⟨g, 0, none⟩)) E (run_loadB rfl rfl T.one29 (M.row (i := 2) rfl) rfl) fun fr E => ?_
      refine sgive E M rfl rfl rfl rfl rfl (run_call rfl rfl T.fn11) (LenR_g (M.has1 (i := 3) rfl) hD) fun fr w M E => ?_
      rw [hA'] at E
      refine sw (v := .bool false) E (tst rfl (by decide)) fun fr E => ?_
      refine seq_nil' ?_
      refine cond_false E rfl (rfl) ?_
      refine wp_skip ?_
      refine then_normal ?_
      refine code_cut (fun fr w => ∃ (A : AD) (D : DV) (N : NV), RdIs D N g a L A [] ∧ PB A ∧ Env [(10, ov), (9, .int .i64 ((67 + rs.length : Nat) : Int)), (8, .int .i64 67), (7, .pointer (some ⟨gl, 0, none⟩)), (2, rv), (1, iv)] 278 fr ∧ Mem w0 (feet []) [.row 54 1 ov os.length (os.map (·.1)), .pool os.reverse, .blk gl (.cells (lgc g a L.sg L.sl L.prev lf lsm L.n).toArray 34), dkE D, nmE N, .row 36 34 lf L.froms.length (askC L.froms), .row 39 35 lsm qs.length (smC qs), .rows 35 (qs.map rowQ).reverse] (fun w' => (Reads 1 w' iv il.length (ic il) ∧ Reads 1 w' rv ps.length (ps.map (·.1)) ∧ ∀ q ∈ ps, BytesZ w' q.1 q.2) ∧ Reads 2 w' av l.length (szC l)) w) ?_ ?_
      · refine code_region ?_
        refine sw E (run_assignC rfl) fun fr E => ?_
        refine seq_nil' ?_
        refine wp_block ?_
        refine loop_dec (fun d fr w => ∃ (i : Nat) (A : AD) (D : DV) (N : NV), d = il.length - i ∧ i ≤ il.length ∧ i ≤ 10 ∧ RdIs D N g a L A [] ∧ PB A ∧ Env [(14, .int .i64 (i : Int)), (10, ov), (9, .int .i64 ((67 + rs.length : Nat) : Int)), (8, .int .i64 67), (7, .pointer (some ⟨gl, 0, none⟩)), (2, rv), (1, iv)] 278 fr ∧ Mem w0 (feet []) [.row 54 1 ov os.length (os.map (·.1)), .pool os.reverse, .blk gl (.cells (lgc g a L.sg L.sl L.prev lf lsm L.n).toArray 34), dkE D, nmE N, .row 36 34 lf L.froms.length (askC L.froms), .row 39 35 lsm qs.length (smC qs), .rows 35 (qs.map rowQ).reverse] (fun w' => (Reads 1 w' iv il.length (ic il) ∧ Reads 1 w' rv ps.length (ps.map (·.1)) ∧ ∀ q ∈ ps, BytesZ w' q.1 q.2) ∧ Reads 2 w' av l.length (szC l)) w) (il.length) ?_ ?_
        · have M := M.pull 7 rfl
          have M := M.pull 7 rfl
          have M := M.pull 7 rfl
          have M := M.pull 7 rfl
          have M := M.pull 7 rfl
          have M := M.pull 7 rfl
          have M := M.pull 7 rfl
          have M := M.pull 7 rfl
          exact ⟨0, L.A, D, N, rfl, Nat.zero_le _, by decide, hRd0, ⟨hI.an, hI.al, hI.ac⟩, (((((((Env.nil E).add E (t := 1) rfl).add E (t := 2) rfl).add E (t := 7) rfl).add E (t := 8) rfl).add E (t := 9) rfl).add E (t := 10) rfl).add E (t := 14) rfl, Mem.take (L := [.row 54 1 ov os.length (os.map (·.1)), .pool os.reverse, .blk gl (.cells (lgc g a L.sg L.sl L.prev lf lsm L.n).toArray 34), dkE D, nmE N, .row 36 34 lf L.froms.length (askC L.froms), .row 39 35 lsm qs.length (smC qs), .rows 35 (qs.map rowQ).reverse]) M⟩
        · clear E M
          rintro d fr w ⟨i, A, D, N, rfl, hle, h10, hRd, hPB, E, M⟩
          have hzz : il.length < il.length + 1 := by omega
          by_cases hgo : i < il.length ∧ i < 10 ∧ 0 < rs.length
          · obtain ⟨hi, hi10, hrs⟩ := hgo
            obtain ⟨⟨A', hD, hS⟩, hga, hks, hts⟩ := hRd
            have hp1 := pickN_lt (k := il[i]) hrs
            have hol0 : ∀ m, (L.A.read m).length ≤ 1024 := fun m => hol2 m
            by_cases hr : i < ps.length
            · obtain ⟨qb, qc, hqs⟩ := (hz0 _ (List.getElem_mem hr)).slice
              by_cases hl0 : 0 < (ps[i]'hr).2.length
              · have hbz0 := (hz0 _ (List.getElem_mem hr)).big hl0
                obtain ⟨m0, hm0⟩ : ∃ m0 : Nat, (m0 : Int) = (if (1024 : Int) < ((ps[i]'hr).2.length : Int) then 1024 else ((ps[i]'hr).2.length : Int)) := ⟨min (ps[i]'hr).2.length 1024, by split <;> omega⟩
                have hm1 : m0 ≤ (ps[i]'hr).2.length ∧ m0 ≤ 1024 := by split at hm0 <;> omega
                refine wp_seq ?_
                refine code_region ?_
                refine mv E fun fr E => ?_
                refine mv E fun fr E => ?_
                refine sw (v := .int .i64 _) E (run_lenR rfl rfl rfl rfl T.slice51 M.fact.1.1) fun fr E => ?_
                refine sw (v := .bool true) E (tst rfl (decide_eq_true (by omega))) fun fr E => ?_
                refine mv E fun fr E => ?_
                refine mv E fun fr E => ?_
                refine sw (v := .bool true) E (tst rfl (decide_eq_true (by omega))) fun fr E => ?_
                refine sw (v := .bool _) E (rfl) fun fr E => ?_
                refine mv E fun fr E => ?_
                refine mv E fun fr E => ?_
                refine mv E fun fr E => ?_
                refine sw (v := .bool true) E (tst rfl (decide_eq_true (by omega))) fun fr E => ?_
                refine sw (v := .bool _) E (rfl) fun fr E => ?_
                refine seq_nil' ?_
                refine cond_true E rfl (rfl) ?_
                refine wp_skip ?_
                refine then_normal ?_
                refine wp_seq ?_
                refine wp_block ?_
                refine code_region ?_
                refine mv E fun fr E => ?_
                refine mv E fun fr E => ?_
                refine mv E fun fr E => ?_
                refine sw (v := cellAt iv (i * 1)) E (run_indexR (i := i) rfl M.fact.1.1 rfl rfl (rfl) (hi) T.slice51 T.size3) fun fr E => ?_
                refine sw (v := .int .i64 il[i]) E (run_loadR rfl M.fact.1.1 rfl T.one3 (by rw [Nat.mul_one]; exact ic_get hi)) fun fr E => ?_
                refine mv E fun fr E => ?_
                refine mv E fun fr E => ?_
                refine sw (v := .int _ (((rs.length : Nat) : Int))) E (num rfl ((i64_id (by omega) (by omega)).trans (by omega))) fun fr E => ?_
                refine sgive E M rfl rfl rfl rfl rfl (run_call rfl rfl T.fn13) (Pick_x (k := il[i]) (m := rs.length) hrs (by omega)) fun fr w M E => ?_
                refine sw (v := .int _ (((67 + pickN il[i] rs.length : Nat) : Int))) E (num rfl ((i64_id (by omega) (by omega)).trans (by omega))) fun fr E => ?_
                refine ma E fun fr E => ?_
                refine seq_nil' ?_
                refine code_region ?_
                refine mv E fun fr E => ?_
                refine mv E fun fr E => ?_
                refine mv E fun fr E => ?_
                refine mv E fun fr E => ?_
                refine sw (v := cellAt iv (i * 1)) E (run_indexR (i := i) rfl M.fact.1.1 rfl rfl (rfl) (hi) T.slice51 T.size3) fun fr E => ?_
                refine sw (v := .int .i64 il[i]) E (run_loadR rfl M.fact.1.1 rfl T.one3 (by rw [Nat.mul_one]; exact ic_get hi)) fun fr E => ?_
                refine sw (v := .int .i64 _) E (run_quoK rfl rfl rfl (by decide)) fun fr E => ?_
                obtain ⟨X, E⟩ : ∃ X, Env ((102, .int .i64 X) :: _) _ fr := ⟨_, E⟩
                have hp2 := pickN_lt (k := X) hrs
                have hob : 67 + pickN X rs.length < os.length := by omega
                refine mv E fun fr E => ?_
                refine mv E fun fr E => ?_
                refine sw (v := .int _ (((rs.length : Nat) : Int))) E (num rfl ((i64_id (by omega) (by omega)).trans (by omega))) fun fr E => ?_
                refine sgive E M rfl rfl rfl rfl rfl (run_call rfl rfl T.fn13) (Pick_x (k := X) (m := rs.length) hrs (by omega)) fun fr w M E => ?_
                refine sw (v := .int _ (((67 + pickN X rs.length : Nat) : Int))) E (num rfl ((i64_id (by omega) (by omega)).trans (by omega))) fun fr E => ?_
                refine sw (v := cellAt ov ((67 + pickN X rs.length) * 1)) E (run_indexR (i := (67 + pickN X rs.length)) rfl (M.reads 0 rfl) rfl rfl (rfl) (by omega) T.slice52 T.size54) fun fr E => ?_
                refine sw (v := (os[67 + pickN X rs.length]'hob).1) E (run_loadR rfl (M.reads 0 rfl) rfl T.one54 (by rw [Nat.mul_one]; exact List.getElem?_eq_some_iff.2 ⟨by simp; omega, by simp⟩)) fun fr E => ?_
                refine ma E fun fr E => ?_
                refine seq_nil' ?_
                refine wp_seq ?_
                refine code_region ?_
                refine mv E fun fr E => ?_
                refine mv E fun fr E => ?_
                refine sw (v := .int .i64 _) E (run_lenR rfl rfl rfl rfl T.slice52 M.fact.1.2.1) fun fr E => ?_
                refine sw (v := .bool true) E (tst rfl (decide_eq_true (by omega))) fun fr E => ?_
                refine mv E fun fr E => ?_
                refine mv E fun fr E => ?_
                refine mv E fun fr E => ?_
                refine sw (v := cellAt rv (i * 1)) E (run_indexR (i := i) rfl M.fact.1.2.1 rfl rfl (rfl) (hr) T.slice52 T.size54) fun fr E => ?_
                refine sw (v := (ps[i]'hr).1) E (run_loadR rfl M.fact.1.2.1 rfl T.one54 (by rw [Nat.mul_one]; exact List.getElem?_eq_some_iff.2 ⟨by simpa using hr, by simp⟩)) fun fr E => ?_
                refine sw (v := .int .i64 ((ps[i]'hr).2.length : Int)) E (run_len rfl rfl rfl hqs T.slice54) fun fr E => ?_
                refine sw (v := .bool true) E (tst rfl (decide_eq_true (by omega))) fun fr E => ?_
                refine sw (v := .bool _) E (rfl) fun fr E => ?_
                refine seq_nil' ?_
                refine cond_true E rfl (rfl) ?_
                refine (free_reg (B := T.tab4_20_b) (Vs := (.exact _ :: .exact _ :: .exact (cellAt rv (i * 1)) :: .exact ((ps[i]'hr).1) :: .exact _ :: .exact _ :: .exact (cellAt rv (i * 1)) :: .exact ((ps[i]'hr).1) :: .exact (.int .i64 ((ps[i]'hr).2.length : Int)) :: .exact (.int .i64 (m0 : Int)) :: .exact (cutV 1 (ps[i]'hr).1 0 m0) :: .exact (cutV 1 (ps[i]'hr).1 0 m0) :: [])) T.tab4_20_i E T.mixed T.tab4_20 rfl (AllS.lasts ⟨trivial, trivial, trivial, trivial, trivial, trivial, trivial, trivial, trivial, trivial, trivial, trivial, trivial⟩) ⟨fv rfl rfl (fun x w hx hk => run_move rfl rfl),
      fv rfl rfl (fun x w hx hk => run_move rfl rfl),
      fv rfl rfl (fun x w hx hk => run_indexR (i := i) rfl (M.ext ((Ext.drew _).trans hx)).fact.1.2.1 rfl rfl (rfl) (hr) T.slice52 T.size54),
      fv rfl rfl (fun x w hx hk => run_loadR rfl (M.ext ((Ext.drew _).trans hx)).fact.1.2.1 rfl T.one54 (by rw [Nat.mul_one]; exact List.getElem?_eq_some_iff.2 ⟨by simpa using hr, by simp⟩)),
      fv rfl rfl (fun x w hx hk => run_move rfl rfl),
      fv rfl rfl (fun x w hx hk => run_move rfl rfl),
      fv rfl rfl (fun x w hx hk => run_indexR (i := i) rfl (M.ext ((Ext.drew _).trans hx)).fact.1.2.1 rfl rfl (rfl) (hr) T.slice52 T.size54),
      fv rfl rfl (fun x w hx hk => run_loadR rfl (M.ext ((Ext.drew _).trans hx)).fact.1.2.1 rfl T.one54 (by rw [Nat.mul_one]; exact List.getElem?_eq_some_iff.2 ⟨by simpa using hr, by simp⟩)),
      fv rfl rfl (fun x w hx hk => run_len rfl rfl rfl hqs T.slice54),
      fv rfl rfl (fun x w hx hk => (run_min2 rfl rfl rfl rfl).trans (by rw [hm0])),
      fv rfl rfl (fun x w hx hk => run_sliceR (lo := 0) (hi := m0) rfl (((((M.ext ((Ext.drew _).trans hx))).fact.1.2.2 _ (List.getElem_mem hr)).big hl0)) rfl T.slice54 T.size5 (rfl) (⟨_, _, rfl, rfl⟩) (Nat.zero_le _) (hm1.1)),
      fv rfl rfl (fun x w hx hk => run_assign rfl rfl), trivial⟩ ?_)
                intro x fr w hx hk E
                have M := M.ext hx
                refine then_normal ?_
                have hbl : ((ps[i]'hr).2.take m0).length ≤ 1024 := by simp; omega
                refine code_last ?_
                refine mv E fun fr E => ?_
                refine sw E (run_nilCheck rfl rfl) fun fr E => ?_
                refine sw (v := .pointer (some ⟨_, 0, none⟩)) E (run_fieldAddr rfl rfl T.fld34_0) fun fr E => ?_
                refine sw (v := .pointer (some ⟨g, 0, none⟩)) E (run_loadB rfl rfl T.one29 (M.row (i := 2) rfl) rfl) fun fr E => ?_
                refine mv E fun fr E => ?_
                refine mv E fun fr E => ?_
                have M := M.pull 3 rfl
                refine scallI ([dkE D]) E M rfl rfl rfl rfl rfl (run_call rfl rfl T.fn14) rfl (fun H => Does.argsF (Tamper_a (i := ((67 + pickN (il[i]'hi) rs.length : Nat) : Int)) (l := ((ps[i]'hr).2.take m0)) H hD (Bytes.pre (k := m0) ((M.fact.1.2.2 _ (List.getElem_mem hr)).big hl0) hm1.1) (fun q hq' c => (M.own (dkE D) (by simp) q c).elim (fun h => Nat.not_le_of_lt ((Bytes.pre (k := m0) hbz0 hm1.1).own_lt q hq') h) (fun h => (feet_nil h).elim))) rfl) ?_
                rintro D3 fr w hD3 M E
                refine seq_nil ?_
                refine block_normal ?_
                refine then_normal ?_
                refine code_last ?_
                refine mv E fun fr E => ?_
                refine sw (v := .int _ (((i + 1 : Nat) : Int))) E (num rfl ((i64_id (by omega) (by omega)).trans (by omega))) fun fr E => ?_
                refine ma E fun fr E => ?_
                refine seq_nil ?_
                refine then_any ?_
                have M := M.pull 7 rfl
                have M := M.pull 7 rfl
                have M := M.pull 7 rfl
                have M := M.pull 7 rfl
                have M := M.pull 4 rfl
                have M := M.pull 7 rfl
                have M := M.pull 7 rfl
                have M := M.pull 7 rfl
                exact ⟨il.length - (i + 1), by omega, i + 1, _, D3, N, rfl, by omega, by omega, ⟨⟨_, hD3, hS.tamper⟩, hga, hks, hts⟩, hPB.tamper (by omega) hbl, (((((((Env.nil E).add E (t := 1) rfl).add E (t := 2) rfl).add E (t := 7) rfl).add E (t := 8) rfl).add E (t := 9) rfl).add E (t := 10) rfl).add E (t := 14) rfl, Mem.take (L := [.row 54 1 ov os.length (os.map (·.1)), .pool os.reverse, .blk gl (.cells (lgc g a L.sg L.sl L.prev lf lsm L.n).toArray 34), dkE D3, nmE N, .row 36 34 lf L.froms.length (askC L.froms), .row 39 35 lsm qs.length (smC qs), .rows 35 (qs.map rowQ).reverse]) M⟩
              · refine wp_seq ?_
                refine code_region ?_
                refine mv E fun fr E => ?_
                refine mv E fun fr E => ?_
                refine sw (v := .int .i64 _) E (run_lenR rfl rfl rfl rfl T.slice51 M.fact.1.1) fun fr E => ?_
                refine sw (v := .bool true) E (tst rfl (decide_eq_true (by omega))) fun fr E => ?_
                refine mv E fun fr E => ?_
                refine mv E fun fr E => ?_
                refine sw (v := .bool true) E (tst rfl (decide_eq_true (by omega))) fun fr E => ?_
                refine sw (v := .bool _) E (rfl) fun fr E => ?_
                refine mv E fun fr E => ?_
                refine mv E fun fr E => ?_
                refine mv E fun fr E => ?_
                refine sw (v := .bool true) E (tst rfl (decide_eq_true (by omega))) fun fr E => ?_
                refine sw (v := .bool _) E (rfl) fun fr E => ?_
                refine seq_nil' ?_
                refine cond_true E rfl (rfl) ?_
                refine wp_skip ?_
                refine then_normal ?_
                refine wp_seq ?_
                refine wp_block ?_
                refine code_region ?_
                refine mv E fun fr E => ?_
                refine mv E fun fr E => ?_
                refine mv E fun fr E => ?_
                refine sw (v := cellAt iv (i * 1)) E (run_indexR (i := i) rfl M.fact.1.1 rfl rfl (rfl) (hi) T.slice51 T.size3) fun fr E => ?_
                refine sw (v := .int .i64 il[i]) E (run_loadR rfl M.fact.1.1 rfl T.one3 (by rw [Nat.mul_one]; exact ic_get hi)) fun fr E => ?_
                refine mv E fun fr E => ?_
                refine mv E fun fr E => ?_
                refine sw (v := .int _ (((rs.length : Nat) : Int))) E (num rfl ((i64_id (by omega) (by omega)).trans (by omega))) fun fr E => ?_
                refine sgive E M rfl rfl rfl rfl rfl (run_call rfl rfl T.fn13) (Pick_x (k := il[i]) (m := rs.length) hrs (by omega)) fun fr w M E => ?_
                refine sw (v := .int _ (((67 + pickN il[i] rs.length : Nat) : Int))) E (num rfl ((i64_id (by omega) (by omega)).trans (by omega))) fun fr E => ?_
                refine ma E fun fr E => ?_
                refine seq_nil' ?_
                refine code_region ?_
                refine mv E fun fr E => ?_
                refine mv E fun fr E => ?_
                refine mv E fun fr E => ?_
                refine mv E fun fr E => ?_
                refine sw (v := cellAt iv (i * 1)) E (run_indexR (i := i) rfl M.fact.1.1 rfl rfl (rfl) (hi) T.slice51 T.size3) fun fr E => ?_
                refine sw (v := .int .i64 il[i]) E (run_loadR rfl M.fact.1.1 rfl T.one3 (by rw [Nat.mul_one]; exact ic_get hi)) fun fr E => ?_
                refine sw (v := .int .i64 _) E (run_quoK rfl rfl rfl (by decide)) fun fr E => ?_
                obtain ⟨X, E⟩ : ∃ X, Env ((102, .int .i64 X) :: _) _ fr := ⟨_, E⟩
                have hp2 := pickN_lt (k := X) hrs
                have hob : 67 + pickN X rs.length < os.length := by omega
                refine mv E fun fr E => ?_
                refine mv E fun fr E => ?_
                refine sw (v := .int _ (((rs.length : Nat) : Int))) E (num rfl ((i64_id (by omega) (by omega)).trans (by omega))) fun fr E => ?_
                refine sgive E M rfl rfl rfl rfl rfl (run_call rfl rfl T.fn13) (Pick_x (k := X) (m := rs.length) hrs (by omega)) fun fr w M E => ?_
                refine sw (v := .int _ (((67 + pickN X rs.length : Nat) : Int))) E (num rfl ((i64_id (by omega) (by omega)).trans (by omega))) fun fr E => ?_
                refine sw (v := cellAt ov ((67 + pickN X rs.length) * 1)) E (run_indexR (i := (67 + pickN X rs.length)) rfl (M.reads 0 rfl) rfl rfl (rfl) (by omega) T.slice52 T.size54) fun fr E => ?_
                refine sw (v := (os[67 + pickN X rs.length]'hob).1) E (run_loadR rfl (M.reads 0 rfl) rfl T.one54 (by rw [Nat.mul_one]; exact List.getElem?_eq_some_iff.2 ⟨by simp; omega, by simp⟩)) fun fr E => ?_
                refine ma E fun fr E => ?_
                refine seq_nil' ?_
                refine wp_seq ?_
                refine code_region ?_
                refine mv E fun fr E => ?_
                refine mv E fun fr E => ?_
                refine sw (v := .int .i64 _) E (run_lenR rfl rfl rfl rfl T.slice52 M.fact.1.2.1) fun fr E => ?_
                refine sw (v := .bool true) E (tst rfl (decide_eq_true (by omega))) fun fr E => ?_
                refine mv E fun fr E => ?_
                refine mv E fun fr E => ?_
                refine mv E fun fr E => ?_
                refine sw (v := cellAt rv (i * 1)) E (run_indexR (i := i) rfl M.fact.1.2.1 rfl rfl (rfl) (hr) T.slice52 T.size54) fun fr E => ?_
                refine sw (v := (ps[i]'hr).1) E (run_loadR rfl M.fact.1.2.1 rfl T.one54 (by rw [Nat.mul_one]; exact List.getElem?_eq_some_iff.2 ⟨by simpa using hr, by simp⟩)) fun fr E => ?_
                refine sw (v := .int .i64 ((ps[i]'hr).2.length : Int)) E (run_len rfl rfl rfl hqs T.slice54) fun fr E => ?_
                refine sw (v := .bool false) E (tst rfl (decide_eq_false (by omega))) fun fr E => ?_
                refine sw (v := .bool _) E (rfl) fun fr E => ?_
                refine seq_nil' ?_
                refine cond_false E rfl (rfl) ?_
                refine wp_skip ?_
                refine then_normal ?_
                have hbl : (os[67 + pickN X rs.length]'hob).2.length ≤ 1024 := by rw [os_get ho (by omega)]; exact hol0 _
                refine code_last ?_
                refine mv E fun fr E => ?_
                refine sw E (run_nilCheck rfl rfl) fun fr E => ?_
                refine sw (v := .pointer (some ⟨_, 0, none⟩)) E (run_fieldAddr rfl rfl T.fld34_0) fun fr E => ?_
                refine sw (v := .pointer (some ⟨g, 0, none⟩)) E (run_loadB rfl rfl T.one29 (M.row (i := 2) rfl) rfl) fun fr E => ?_
                refine mv E fun fr E => ?_
                refine mv E fun fr E => ?_
                have M := M.pull 3 rfl
                refine scallI ([dkE D]) E M rfl rfl rfl rfl rfl (run_call rfl rfl T.fn14) rfl (fun H => Does.argsF (Tamper_a (i := ((67 + pickN (il[i]'hi) rs.length : Nat) : Int)) (l := (os[67 + pickN X rs.length]'hob).2) H hD (M.pooled (i := 2) rfl (List.mem_reverse.2 (List.getElem_mem hob))) (fun q hq' c => M.offE (i := 0) (j := 2) rfl rfl rfl q (List.mem_filterMap.2 ⟨(os[67 + pickN X rs.length]'hob), List.mem_reverse.2 (List.getElem_mem hob), hq'⟩) c)) rfl) ?_
                rintro D3 fr w hD3 M E
                refine seq_nil ?_
                refine block_normal ?_
                refine then_normal ?_
                refine code_last ?_
                refine mv E fun fr E => ?_
                refine sw (v := .int _ (((i + 1 : Nat) : Int))) E (num rfl ((i64_id (by omega) (by omega)).trans (by omega))) fun fr E => ?_
                refine ma E fun fr E => ?_
                refine seq_nil ?_
                refine then_any ?_
                have M := M.pull 7 rfl
                have M := M.pull 7 rfl
                have M := M.pull 7 rfl
                have M := M.pull 7 rfl
                have M := M.pull 4 rfl
                have M := M.pull 7 rfl
                have M := M.pull 7 rfl
                have M := M.pull 7 rfl
                exact ⟨il.length - (i + 1), by omega, i + 1, _, D3, N, rfl, by omega, by omega, ⟨⟨_, hD3, hS.tamper⟩, hga, hks, hts⟩, hPB.tamper (by omega) hbl, (((((((Env.nil E).add E (t := 1) rfl).add E (t := 2) rfl).add E (t := 7) rfl).add E (t := 8) rfl).add E (t := 9) rfl).add E (t := 10) rfl).add E (t := 14) rfl, Mem.take (L := [.row 54 1 ov os.length (os.map (·.1)), .pool os.reverse, .blk gl (.cells (lgc g a L.sg L.sl L.prev lf lsm L.n).toArray 34), dkE D3, nmE N, .row 36 34 lf L.froms.length (askC L.froms), .row 39 35 lsm qs.length (smC qs), .rows 35 (qs.map rowQ).reverse]) M⟩
            · refine wp_seq ?_
              refine code_region ?_
              refine mv E fun fr E => ?_
              refine mv E fun fr E => ?_
              refine sw (v := .int .i64 _) E (run_lenR rfl rfl rfl rfl T.slice51 M.fact.1.1) fun fr E => ?_
              refine sw (v := .bool true) E (tst rfl (decide_eq_true (by omega))) fun fr E => ?_
              refine mv E fun fr E => ?_
              refine mv E fun fr E => ?_
              refine sw (v := .bool true) E (tst rfl (decide_eq_true (by omega))) fun fr E => ?_
              refine sw (v := .bool _) E (rfl) fun fr E => ?_
              refine mv E fun fr E => ?_
              refine mv E fun fr E => ?_
              refine mv E fun fr E => ?_
              refine sw (v := .bool true) E (tst rfl (decide_eq_true (by omega))) fun fr E => ?_
              refine sw (v := .bool _) E (rfl) fun fr E => ?_
              refine seq_nil' ?_
              refine cond_true E rfl (rfl) ?_
              refine wp_skip ?_
              refine then_normal ?_
              refine wp_seq ?_
              refine wp_block ?_
              refine code_region ?_
              refine mv E fun fr E => ?_
              refine mv E fun fr E => ?_
              refine mv E fun fr E => ?_
              refine sw (v := cellAt iv (i * 1)) E (run_indexR (i := i) rfl M.fact.1.1 rfl rfl (rfl) (hi) T.slice51 T.size3) fun fr E => ?_
              refine sw (v := .int .i64 il[i]) E (run_loadR rfl M.fact.1.1 rfl T.one3 (by rw [Nat.mul_one]; exact ic_get hi)) fun fr E => ?_
              refine mv E fun fr E => ?_
              refine mv E fun fr E => ?_
              refine sw (v := .int _ (((rs.length : Nat) : Int))) E (num rfl ((i64_id (by omega) (by omega)).trans (by omega))) fun fr E => ?_
              refine sgive E M rfl rfl rfl rfl rfl (run_call rfl rfl T.fn13) (Pick_x (k := il[i]) (m := rs.length) hrs (by omega)) fun fr w M E => ?_
              refine sw (v := .int _ (((67 + pickN il[i] rs.length : Nat) : Int))) E (num rfl ((i64_id (by omega) (by omega)).trans (by omega))) fun fr E => ?_
              refine ma E fun fr E => ?_
              refine seq_nil' ?_
              refine code_region ?_
              refine mv E fun fr E => ?_
              refine mv E fun fr E => ?_
              refine mv E fun fr E => ?_
              refine mv E fun fr E => ?_
              refine sw (v := cellAt iv (i * 1)) E (run_indexR (i := i) rfl M.fact.1.1 rfl rfl (rfl) (hi) T.slice51 T.size3) fun fr E => ?_
              refine sw (v := .int .i64 il[i]) E (run_loadR rfl M.fact.1.1 rfl T.one3 (by rw [Nat.mul_one]; exact ic_get hi)) fun fr E => ?_
              refine sw (v := .int .i64 _) E (run_quoK rfl rfl rfl (by decide)) fun fr E => ?_
              obtain ⟨X, E⟩ : ∃ X, Env ((102, .int .i64 X) :: _) _ fr := ⟨_, E⟩
              have hp2 := pickN_lt (k := X) hrs
              have hob : 67 + pickN X rs.length < os.length := by omega
              refine mv E fun fr E => ?_
              refine mv E fun fr E => ?_
              refine sw (v := .int _ (((rs.length : Nat) : Int))) E (num rfl ((i64_id (by omega) (by omega)).trans (by omega))) fun fr E => ?_
              refine sgive E M rfl rfl rfl rfl rfl (run_call rfl rfl T.fn13) (Pick_x (k := X) (m := rs.length) hrs (by omega)) fun fr w M E => ?_
              refine sw (v := .int _ (((67 + pickN X rs.length : Nat) : Int))) E (num rfl ((i64_id (by omega) (by omega)).trans (by omega))) fun fr E => ?_
              refine sw (v := cellAt ov ((67 + pickN X rs.length) * 1)) E (run_indexR (i := (67 + pickN X rs.length)) rfl (M.reads 0 rfl) rfl rfl (rfl) (by omega) T.slice52 T.size54) fun fr E => ?_
              refine sw (v := (os[67 + pickN X rs.length]'hob).1) E (run_loadR rfl (M.reads 0 rfl) rfl T.one54 (by rw [Nat.mul_one]; exact List.getElem?_eq_some_iff.2 ⟨by simp; omega, by simp⟩)) fun fr E => ?_
              refine ma E fun fr E => ?_
              refine seq_nil' ?_
              refine wp_seq ?_
              refine code_region ?_
              refine mv E fun fr E => ?_
              refine mv E fun fr E => ?_
              refine sw (v := .int .i64 _) E (run_lenR rfl rfl rfl rfl T.slice52 M.fact.1.2.1) fun fr E => ?_
              refine sw (v := .bool false) E (tst rfl (decide_eq_false (by omega))) fun fr E => ?_
              refine mv E fun fr E => ?_
              refine sno E rfl rfl rfl rfl fun fr E => ?_
              refine sno E rfl rfl rfl rfl fun fr E => ?_
              refine sno E rfl rfl rfl rfl fun fr E => ?_
              refine sno E rfl rfl rfl rfl fun fr E => ?_
              refine sno E rfl rfl rfl rfl fun fr E => ?_
              refine sno E rfl rfl rfl rfl fun fr E => ?_
              refine sw (v := .bool _) E (rfl) fun fr E => ?_
              refine seq_nil' ?_
              refine cond_false E rfl (rfl) ?_
              refine wp_skip ?_
              refine then_normal ?_
              have hbl : (os[67 + pickN X rs.length]'hob).2.length ≤ 1024 := by rw [os_get ho (by omega)]; exact hol0 _
              refine code_last ?_
              refine mv E fun fr E => ?_
              refine sw E (run_nilCheck rfl rfl) fun fr E => ?_
              refine sw (v := .pointer (some ⟨_, 0, none⟩)) E (run_fieldAddr rfl rfl T.fld34_0) fun fr E => ?_
              refine sw (v := .pointer (some ⟨g, 0, none⟩)) E (run_loadB rfl rfl T.one29 (M.row (i := 2) rfl) rfl) fun fr E => ?_
              refine mv E fun fr E => ?_
              refine mv E fun fr E => ?_
              have M := M.pull 3 rfl
              refine scallI ([dkE D]) E M rfl rfl rfl rfl rfl (run_call rfl rfl T.fn14) rfl (fun H => Does.argsF (Tamper_a (i := ((67 + pickN (il[i]'hi) rs.length : Nat) : Int)) (l := (os[67 + pickN X rs.length]'hob).2) H hD (M.pooled (i := 2) rfl (List.mem_reverse.2 (List.getElem_mem hob))) (fun q hq' c => M.offE (i := 0) (j := 2) rfl rfl rfl q (List.mem_filterMap.2 ⟨(os[67 + pickN X rs.length]'hob), List.mem_reverse.2 (List.getElem_mem hob), hq'⟩) c)) rfl) ?_
              rintro D3 fr w hD3 M E
              refine seq_nil ?_
              refine block_normal ?_
              refine then_normal ?_
              refine code_last ?_
              refine mv E fun fr E => ?_
              refine sw (v := .int _ (((i + 1 : Nat) : Int))) E (num rfl ((i64_id (by omega) (by omega)).trans (by omega))) fun fr E => ?_
              refine ma E fun fr E => ?_
              refine seq_nil ?_
              refine then_any ?_
              have M := M.pull 7 rfl
              have M := M.pull 7 rfl
              have M := M.pull 7 rfl
              have M := M.pull 7 rfl
              have M := M.pull 4 rfl
              have M := M.pull 7 rfl
              have M := M.pull 7 rfl
              have M := M.pull 7 rfl
              exact ⟨il.length - (i + 1), by omega, i + 1, _, D3, N, rfl, by omega, by omega, ⟨⟨_, hD3, hS.tamper⟩, hga, hks, hts⟩, hPB.tamper (by omega) hbl, (((((((Env.nil E).add E (t := 1) rfl).add E (t := 2) rfl).add E (t := 7) rfl).add E (t := 8) rfl).add E (t := 9) rfl).add E (t := 10) rfl).add E (t := 14) rfl, Mem.take (L := [.row 54 1 ov os.length (os.map (·.1)), .pool os.reverse, .blk gl (.cells (lgc g a L.sg L.sl L.prev lf lsm L.n).toArray 34), dkE D3, nmE N, .row 36 34 lf L.froms.length (askC L.froms), .row 39 35 lsm qs.length (smC qs), .rows 35 (qs.map rowQ).reverse]) M⟩
          · by_cases hi : i < il.length
            · by_cases hi10 : i < 10
              · refine wp_seq ?_
                refine code_region ?_
                refine mv E fun fr E => ?_
                refine mv E fun fr E => ?_
                refine sw (v := .int .i64 _) E (run_lenR rfl rfl rfl rfl T.slice51 M.fact.1.1) fun fr E => ?_
                refine sw (v := .bool true) E (tst rfl (decide_eq_true (by omega))) fun fr E => ?_
                refine mv E fun fr E => ?_
                refine mv E fun fr E => ?_
                refine sw (v := .bool true) E (tst rfl (decide_eq_true (by omega))) fun fr E => ?_
                refine sw (v := .bool _) E (rfl) fun fr E => ?_
                refine mv E fun fr E => ?_
                refine mv E fun fr E => ?_
                refine mv E fun fr E => ?_
                refine sw (v := .bool false) E (tst rfl (decide_eq_false (by omega))) fun fr E => ?_
                refine sw (v := .bool _) E (rfl) fun fr E => ?_
                refine seq_nil' ?_
                refine cond_false E rfl (rfl) ?_
                refine wp_exit ?_
                refine then_exit ?_
                refine then_exit ?_
                refine block_exit ?_
                refine then_any ?_
                have M := M.pull 7 rfl
                have M := M.pull 7 rfl
                have M := M.pull 7 rfl
                have M := M.pull 7 rfl
                have M := M.pull 7 rfl
                have M := M.pull 7 rfl
                have M := M.pull 7 rfl
                have M := M.pull 7 rfl
                exact ⟨A, D, N, hRd, hPB, ((((((Env.nil E).add E (t := 1) rfl).add E (t := 2) rfl).add E (t := 7) rfl).add E (t := 8) rfl).add E (t := 9) rfl).add E (t := 10) rfl, Mem.take (L := [.row 54 1 ov os.length (os.map (·.1)), .pool os.reverse, .blk gl (.cells (lgc g a L.sg L.sl L.prev lf lsm L.n).toArray 34), dkE D, nmE N, .row 36 34 lf L.froms.length (askC L.froms), .row 39 35 lsm qs.length (smC qs), .rows 35 (qs.map rowQ).reverse]) M⟩
              · refine wp_seq ?_
                refine code_region ?_
                refine mv E fun fr E => ?_
                refine mv E fun fr E => ?_
                refine sw (v := .int .i64 _) E (run_lenR rfl rfl rfl rfl T.slice51 M.fact.1.1) fun fr E => ?_
                refine sw (v := .bool true) E (tst rfl (decide_eq_true (by omega))) fun fr E => ?_
                refine mv E fun fr E => ?_
                refine mv E fun fr E => ?_
                refine sw (v := .bool false) E (tst rfl (decide_eq_false (by omega))) fun fr E => ?_
                refine sw (v := .bool _) E (rfl) fun fr E => ?_
                refine mv E fun fr E => ?_
                refine sno E rfl rfl rfl rfl fun fr E => ?_
                refine sno E rfl rfl rfl rfl fun fr E => ?_
                refine sno E rfl rfl rfl rfl fun fr E => ?_
                refine sw (v := .bool _) E (rfl) fun fr E => ?_
                refine seq_nil' ?_
                refine cond_false E rfl (rfl) ?_
                refine wp_exit ?_
                refine then_exit ?_
                refine then_exit ?_
                refine block_exit ?_
                refine then_any ?_
                have M := M.pull 7 rfl
                have M := M.pull 7 rfl
                have M := M.pull 7 rfl
                have M := M.pull 7 rfl
                have M := M.pull 7 rfl
                have M := M.pull 7 rfl
                have M := M.pull 7 rfl
                have M := M.pull 7 rfl
                exact ⟨A, D, N, hRd, hPB, ((((((Env.nil E).add E (t := 1) rfl).add E (t := 2) rfl).add E (t := 7) rfl).add E (t := 8) rfl).add E (t := 9) rfl).add E (t := 10) rfl, Mem.take (L := [.row 54 1 ov os.length (os.map (·.1)), .pool os.reverse, .blk gl (.cells (lgc g a L.sg L.sl L.prev lf lsm L.n).toArray 34), dkE D, nmE N, .row 36 34 lf L.froms.length (askC L.froms), .row 39 35 lsm qs.length (smC qs), .rows 35 (qs.map rowQ).reverse]) M⟩
            · refine wp_seq ?_
              refine code_region ?_
              refine mv E fun fr E => ?_
              refine mv E fun fr E => ?_
              refine sw (v := .int .i64 _) E (run_lenR rfl rfl rfl rfl T.slice51 M.fact.1.1) fun fr E => ?_
              refine sw (v := .bool false) E (tst rfl (decide_eq_false (by omega))) fun fr E => ?_
              refine mv E fun fr E => ?_
              refine sno E rfl rfl rfl rfl fun fr E => ?_
              refine sno E rfl rfl rfl rfl fun fr E => ?_
              refine sw (v := .bool _) E (rfl) fun fr E => ?_
              refine mv E fun fr E => ?_
              refine sno E rfl rfl rfl rfl fun fr E => ?_
              refine sno E rfl rfl rfl rfl fun fr E => ?_
              refine sno E rfl rfl rfl rfl fun fr E => ?_
              refine sw (v := .bool _) E (rfl) fun fr E => ?_
              refine seq_nil' ?_
              refine cond_false E rfl (rfl) ?_
              refine wp_exit ?_
              refine then_exit ?_
              refine then_exit ?_
              refine block_exit ?_
              refine then_any ?_
              have M := M.pull 7 rfl
              have M := M.pull 7 rfl
              have M := M.pull 7 rfl
              have M := M.pull 7 rfl
              have M := M.pull 7 rfl
              have M := M.pull 7 rfl
              have M := M.pull 7 rfl
              have M := M.pull 7 rfl
              exact ⟨A, D, N, hRd, hPB, ((((((Env.nil E).add E (t := 1) rfl).add E (t := 2) rfl).add E (t := 7) rfl).add E (t := 8) rfl).add E (t := 9) rfl).add E (t := 10) rfl, Mem.take (L := [.row 54 1 ov os.length (os.map (·.1)), .pool os.reverse, .blk gl (.cells (lgc g a L.sg L.sl L.prev lf lsm L.n).toArray 34), dkE D, nmE N, .row 36 34 lf L.froms.length (askC L.froms), .row 39 35 lsm qs.length (smC qs), .rows 35 (qs.map rowQ).reverse]) M⟩
      · rintro fr w ⟨A, D, N, hRd, hPB, E, M⟩
        refine wp_seq ?_
        refine code_region ?_
        refine sw E (run_assignC rfl) fun fr E => ?_
        refine seq_nil' ?_
        refine wp_block ?_
        refine loop_dec (fun d fr w => ∃ (i : Nat) (D : DV) (N : NV) (z : List (List UInt8)), d = Ds.length - i ∧ i ≤ Ds.length ∧ z.length ≤ 16 * i ∧ RdIs D N g a L A z ∧ Env [(17, .int .i64 (i : Int)), (10, ov), (9, .int .i64 ((67 + rs.length : Nat) : Int)), (8, .int .i64 67), (7, .pointer (some ⟨gl, 0, none⟩)), (2, rv), (1, iv)] 278 fr ∧ Mem w0 (feet []) [.row 54 1 ov os.length (os.map (·.1)), .pool os.reverse, .blk gl (.cells (lgc g a L.sg L.sl L.prev lf lsm L.n).toArray 34), dkE D, nmE N, .row 36 34 lf L.froms.length (askC L.froms), .row 39 35 lsm qs.length (smC qs), .rows 35 (qs.map rowQ).reverse] (fun w' => (Reads 1 w' iv il.length (ic il) ∧ Reads 1 w' rv ps.length (ps.map (·.1)) ∧ ∀ q ∈ ps, BytesZ w' q.1 q.2) ∧ Reads 2 w' av l.length (szC l)) w) (Ds.length) ?_ ?_
        · exact ⟨0, D, N, [], rfl, Nat.zero_le _, Nat.zero_le _, hRd, (((((((Env.nil E).add E (t := 1) rfl).add E (t := 2) rfl).add E (t := 7) rfl).add E (t := 8) rfl).add E (t := 9) rfl).add E (t := 10) rfl).add E (t := 17) rfl, Mem.take (L := [.row 54 1 ov os.length (os.map (·.1)), .pool os.reverse, .blk gl (.cells (lgc g a L.sg L.sl L.prev lf lsm L.n).toArray 34), dkE D, nmE N, .row 36 34 lf L.froms.length (askC L.froms), .row 39 35 lsm qs.length (smC qs), .rows 35 (qs.map rowQ).reverse]) M⟩
        · clear E M
          rintro d fr w ⟨i, D, N, z, rfl, hle, hzl, hRd, E, M⟩
          by_cases hi : i < Ds.length
          · obtain ⟨hf, s, hsS, hb⟩ := hW.bt i hi
            obtain ⟨j, hj⟩ : ∃ j, j = jOf Ds i := ⟨_, rfl⟩
            obtain ⟨d0, hd0⟩ : ∃ d0, d0 = Ds[i] := ⟨_, rfl⟩
            have hjs : jOf Ds (i + 1) = j + d0 + 1 := by rw [jOf_succ hi, hj, hd0]
            rw [← hj, ← hd0] at hb
            rw [← hj] at hf
            obtain ⟨hs, hck, -⟩ := hI.ok _ _ hb.smy
            obtain ⟨h16, -⟩ := checkS_in hck
            obtain ⟨vi, hvi⟩ := qs_get hq hsS
            have hsm := smC_get hW hI hq hvi
            have hrw : (vi, ecs s.es) ∈ (qs.map rowQ).reverse := List.mem_reverse.2 (List.mem_map.2 ⟨(s, vi), List.mem_of_getElem? hvi, rfl⟩)
            have hjl : j ≤ 480 := by rw [hj]; have := jOf_small hW.small (Nat.le_of_lt hi); omega
            have hlt := hb.lt
            refine wp_seq ?_
            refine code_region ?_
            refine mv E fun fr E => ?_
            refine mv E fun fr E => ?_
            refine sw E (run_nilCheck rfl rfl) fun fr E => ?_
            refine sw (v := .pointer (some ⟨_, 36, none⟩)) E (run_fieldAddr rfl rfl T.fld34_4) fun fr E => ?_
            refine sw (v := lf) E (run_loadB rfl rfl T.one31 (M.row (i := 2) rfl) (lgc_lf hp)) fun fr E => ?_
            refine sw (v := .int .i64 _) E (run_lenR rfl rfl rfl rfl T.slice31 (M.reads 5 rfl)) fun fr E => ?_
            refine sw (v := .bool true) E (tst rfl (decide_eq_true (by rw [hW.fl]; omega))) fun fr E => ?_
            refine seq_nil' ?_
            refine cond_true E rfl (rfl) ?_
            refine wp_skip ?_
            refine then_normal ?_
            refine wp_seq ?_
            refine wp_block ?_
            refine wp_seq (free_reg (B := T.tab4_25_b) (Vs := (.exact _ :: .exact _ :: .exact (.pointer (some ⟨_, 36, none⟩)) :: .exact (lf) :: .exact _ :: .exact (cellAt lf (i * 34)) :: .exact (cellAt lf (i * 34 + 0)) :: .exact (cellAt lf (i * 34 + 0 + 0)) :: .exact (.int .i64 ((2 + j / 32 : Nat) : Int)) :: .exact (.int _ (((2 + j / 32 : Nat) : Int) * 32)) :: .exact (.int _ (3 + ((2 + j / 32 : Nat) : Int) * 32)) :: .exact _ :: .exact _ :: .exact (.pointer (some ⟨_, 36, none⟩)) :: .exact (lf) :: .exact _ :: .exact (cellAt lf (i * 34)) :: .exact (cellAt lf (i * 34 + 0)) :: .exact (cellAt lf (i * 34 + 0 + 1)) :: .exact (.int .i64 ((j % 32 : Nat) : Int)) :: .exact (.int _ (((67 + j : Nat) : Int))) :: .exact _ :: [])) T.tab4_25_i E T.mixed T.tab4_25 rfl (AllS.lasts ⟨trivial, trivial, trivial, trivial, trivial, trivial, trivial, trivial, trivial, trivial, trivial, trivial, trivial, trivial, trivial, trivial, trivial, trivial, trivial, trivial, trivial, trivial, trivial⟩) ⟨fv rfl rfl (fun x w hx hk => run_move rfl rfl),
      fv rfl rfl (fun x w hx hk => run_nilCheck rfl rfl),
      fv rfl rfl (fun x w hx hk => run_fieldAddr rfl rfl T.fld34_4),
      fv rfl rfl (fun x w hx hk => run_loadB rfl rfl T.one31 ((M.ext ((Ext.drew _).trans hx)).row (i := 2) rfl) (lgc_lf hp)),
      fv rfl rfl (fun x w hx hk => run_move rfl rfl),
      fv rfl rfl (fun x w hx hk => run_indexR (i := i) rfl ((M.ext ((Ext.drew _).trans hx)).reads 5 rfl) rfl rfl (rfl) ((by rw [hW.fl]; omega)) T.slice31 T.size36),
      fv rfl rfl (fun x w hx hk => run_fieldAddrR rfl ((M.ext ((Ext.drew _).trans hx)).reads 5 rfl) rfl T.fld36_0 (by rw [hW.fl]; omega)),
      fv rfl rfl (fun x w hx hk => run_fieldAddrR rfl ((M.ext ((Ext.drew _).trans hx)).reads 5 rfl) rfl T.fld26_0 (by rw [hW.fl]; omega)),
      fv rfl rfl (fun x w hx hk => run_loadR rfl ((M.ext ((Ext.drew _).trans hx)).reads 5 rfl) rfl T.one3 (ask_c0 hW hf)),
      fv rfl rfl (fun x w hx hk => num rfl (i64_id (by omega) (by omega))),
      fv rfl rfl (fun x w hx hk => num rfl (i64_id (by omega) (by omega))),
      fv rfl rfl (fun x w hx hk => run_move rfl rfl),
      fv rfl rfl (fun x w hx hk => run_nilCheck rfl rfl),
      fv rfl rfl (fun x w hx hk => run_fieldAddr rfl rfl T.fld34_4),
      fv rfl rfl (fun x w hx hk => run_loadB rfl rfl T.one31 ((M.ext ((Ext.drew _).trans hx)).row (i := 2) rfl) (lgc_lf hp)),
      fv rfl rfl (fun x w hx hk => run_move rfl rfl),
      fv rfl rfl (fun x w hx hk => run_indexR (i := i) rfl ((M.ext ((Ext.drew _).trans hx)).reads 5 rfl) rfl rfl (rfl) ((by rw [hW.fl]; omega)) T.slice31 T.size36),
      fv rfl rfl (fun x w hx hk => run_fieldAddrR rfl ((M.ext ((Ext.drew _).trans hx)).reads 5 rfl) rfl T.fld36_0 (by rw [hW.fl]; omega)),
      fv rfl rfl (fun x w hx hk => run_fieldAddrR rfl ((M.ext ((Ext.drew _).trans hx)).reads 5 rfl) rfl T.fld26_1 (by rw [hW.fl]; omega)),
      fv rfl rfl (fun x w hx hk => run_loadR rfl ((M.ext ((Ext.drew _).trans hx)).reads 5 rfl) rfl T.one3 (ask_c1 hW hf)),
      fv rfl rfl (fun x w hx hk => num rfl ((i64_id (by omega) (by omega)).trans (by omega))),
      fv rfl rfl (fun x w hx hk => run_assign rfl rfl), trivial⟩ ?_)
            intro x fr w hx hk E
            have M := M.ext hx
            refine then_normal ?_
            refine code_region ?_
            refine mv E fun fr E => ?_
            refine ma E fun fr E => ?_
            refine seq_nil' ?_
            refine code_cut (fun fr w => Env [(19, .int .i64 ((67 + (j + d0 + 1) : Nat) : Int)), (18, .int .i64 ((67 + j : Nat) : Int)), (17, .int .i64 (i : Int)), (10, ov), (9, .int .i64 ((67 + rs.length : Nat) : Int)), (8, .int .i64 67), (7, .pointer (some ⟨gl, 0, none⟩)), (2, rv), (1, iv)] 278 fr ∧ Mem w0 (feet []) [.row 54 1 ov os.length (os.map (·.1)), .pool os.reverse, .blk gl (.cells (lgc g a L.sg L.sl L.prev lf lsm L.n).toArray 34), dkE D, nmE N, .row 36 34 lf L.froms.length (askC L.froms), .row 39 35 lsm qs.length (smC qs), .rows 35 (qs.map rowQ).reverse] (fun w' => (Reads 1 w' iv il.length (ic il) ∧ Reads 1 w' rv ps.length (ps.map (·.1)) ∧ ∀ q ∈ ps, BytesZ w' q.1 q.2) ∧ Reads 2 w' av l.length (szC l)) w) ?_ ?_
            · by_cases hi1 : i + 1 < Ds.length
              · obtain ⟨hf2, -⟩ := hW.bt (i + 1) hi1
                rw [hjs] at hf2
                refine code_region ?_
                refine mv E fun fr E => ?_
                refine sw (v := .int _ (((i + 1 : Nat) : Int))) E (num rfl ((i64_id (by omega) (by omega)).trans (by omega))) fun fr E => ?_
                refine mv E fun fr E => ?_
                refine sw E (run_nilCheck rfl rfl) fun fr E => ?_
                refine sw (v := .pointer (some ⟨_, 36, none⟩)) E (run_fieldAddr rfl rfl T.fld34_4) fun fr E => ?_
                refine sw (v := lf) E (run_loadB rfl rfl T.one31 (M.row (i := 2) rfl) (lgc_lf hp)) fun fr E => ?_
                refine sw (v := .int .i64 _) E (run_lenR rfl rfl rfl rfl T.slice31 (M.reads 5 rfl)) fun fr E => ?_
                refine sw (v := .bool true) E (tst rfl (decide_eq_true (by rw [hW.fl]; omega))) fun fr E => ?_
                refine seq_nil' ?_
                refine cond_true E rfl (rfl) ?_
                refine (free_reg (B := T.tab4_28_b) (Vs := (.exact _ :: .exact _ :: .exact (.pointer (some ⟨_, 36, none⟩)) :: .exact (lf) :: .exact _ :: .exact (.int _ (((i + 1 : Nat) : Int))) :: .exact (cellAt lf ((i + 1) * 34)) :: .exact (cellAt lf ((i + 1) * 34 + 0)) :: .exact (cellAt lf ((i + 1) * 34 + 0 + 0)) :: .exact (.int .i64 ((2 + (j + d0 + 1) / 32 : Nat) : Int)) :: .exact (.int _ (((2 + (j + d0 + 1) / 32 : Nat) : Int) * 32)) :: .exact (.int _ (3 + ((2 + (j + d0 + 1) / 32 : Nat) : Int) * 32)) :: .exact _ :: .exact _ :: .exact (.pointer (some ⟨_, 36, none⟩)) :: .exact (lf) :: .exact _ :: .exact (.int _ (((i + 1 : Nat) : Int))) :: .exact (cellAt lf ((i + 1) * 34)) :: .exact (cellAt lf ((i + 1) * 34 + 0)) :: .exact (cellAt lf ((i + 1) * 34 + 0 + 1)) :: .exact (.int .i64 (((j + d0 + 1) % 32 : Nat) : Int)) :: .exact (.int _ (((67 + (j + d0 + 1) : Nat) : Int))) :: .exact _ :: [])) T.tab4_28_i E T.mixed T.tab4_28 rfl (AllS.lasts ⟨trivial, trivial, trivial, trivial, trivial, trivial, trivial, trivial, trivial, trivial, trivial, trivial, trivial, trivial, trivial, trivial, trivial, trivial, trivial, trivial, trivial, trivial, trivial, trivial, trivial⟩) ⟨fv rfl rfl (fun x w hx hk => run_move rfl rfl),
      fv rfl rfl (fun x w hx hk => run_nilCheck rfl rfl),
      fv rfl rfl (fun x w hx hk => run_fieldAddr rfl rfl T.fld34_4),
      fv rfl rfl (fun x w hx hk => run_loadB rfl rfl T.one31 ((M.ext ((Ext.drew _).trans hx)).row (i := 2) rfl) (lgc_lf hp)),
      fv rfl rfl (fun x w hx hk => run_move rfl rfl),
      fv rfl rfl (fun x w hx hk => num rfl ((i64_id (by omega) (by omega)).trans (by omega))),
      fv rfl rfl (fun x w hx hk => run_indexR (i := (i + 1)) rfl ((M.ext ((Ext.drew _).trans hx)).reads 5 rfl) rfl rfl (rfl) ((by rw [hW.fl]; omega)) T.slice31 T.size36),
      fv rfl rfl (fun x w hx hk => run_fieldAddrR rfl ((M.ext ((Ext.drew _).trans hx)).reads 5 rfl) rfl T.fld36_0 (by rw [hW.fl]; omega)),
      fv rfl rfl (fun x w hx hk => run_fieldAddrR rfl ((M.ext ((Ext.drew _).trans hx)).reads 5 rfl) rfl T.fld26_0 (by rw [hW.fl]; omega)),
      fv rfl rfl (fun x w hx hk => run_loadR rfl ((M.ext ((Ext.drew _).trans hx)).reads 5 rfl) rfl T.one3 (ask_c0 hW hf2)),
      fv rfl rfl (fun x w hx hk => num rfl (i64_id (by omega) (by omega))),
      fv rfl rfl (fun x w hx hk => num rfl (i64_id (by omega) (by omega))),
      fv rfl rfl (fun x w hx hk => run_move rfl rfl),
      fv rfl rfl (fun x w hx hk => run_nilCheck rfl rfl),
      fv rfl rfl (fun x w hx hk => run_fieldAddr rfl rfl T.fld34_4),
      fv rfl rfl (fun x w hx hk => run_loadB rfl rfl T.one31 ((M.ext ((Ext.drew _).trans hx)).row (i := 2) rfl) (lgc_lf hp)),
      fv rfl rfl (fun x w hx hk => run_move rfl rfl),
      fv rfl rfl (fun x w hx hk => num rfl ((i64_id (by omega) (by omega)).trans (by omega))),
      fv rfl rfl (fun x w hx hk => run_indexR (i := (i + 1)) rfl ((M.ext ((Ext.drew _).trans hx)).reads 5 rfl) rfl rfl (rfl) ((by rw [hW.fl]; omega)) T.slice31 T.size36),
      fv rfl rfl (fun x w hx hk => run_fieldAddrR rfl ((M.ext ((Ext.drew _).trans hx)).reads 5 rfl) rfl T.fld36_0 (by rw [hW.fl]; omega)),
      fv rfl rfl (fun x w hx hk => run_fieldAddrR rfl ((M.ext ((Ext.drew _).trans hx)).reads 5 rfl) rfl T.fld26_1 (by rw [hW.fl]; omega)),
      fv rfl rfl (fun x w hx hk => run_loadR rfl ((M.ext ((Ext.drew _).trans hx)).reads 5 rfl) rfl T.one3 (ask_c1 hW hf2)),
      fv rfl rfl (fun x w hx hk => num rfl ((i64_id (by omega) (by omega)).trans (by omega))),
      fv rfl rfl (fun x w hx hk => run_assign rfl rfl), trivial⟩ ?_)
                intro x fr w hx hk E
                have M := M.ext hx
                refine then_any ?_
                have M := M.pull 7 rfl
                have M := M.pull 7 rfl
                have M := M.pull 7 rfl
                have M := M.pull 7 rfl
                have M := M.pull 7 rfl
                have M := M.pull 7 rfl
                have M := M.pull 7 rfl
                have M := M.pull 7 rfl
                have hjn2 : True := trivial
                exact ⟨by first | exact (((((((((Env.nil E).add E (t := 1) rfl).add E (t := 2) rfl).add E (t := 7) rfl).add E (t := 8) rfl).add E (t := 9) rfl).add E (t := 10) rfl).add E (t := 17) rfl).add E (t := 18) rfl).add E (t := 19) rfl | (have h : Env [(19, .int .i64 ((67 + rs.length : Nat) : Int)), (18, .int .i64 ((67 + j : Nat) : Int)), (17, .int .i64 (i : Int)), (10, ov), (9, .int .i64 ((67 + rs.length : Nat) : Int)), (8, .int .i64 67), (7, .pointer (some ⟨gl, 0, none⟩)), (2, rv), (1, iv)] 278 fr := (((((((((Env.nil E).add E (t := 1) rfl).add E (t := 2) rfl).add E (t := 7) rfl).add E (t := 8) rfl).add E (t := 9) rfl).add E (t := 10) rfl).add E (t := 17) rfl).add E (t := 18) rfl).add E (t := 19) rfl; rw [hjn] at h ⊢; exact h), Mem.take (L := [.row 54 1 ov os.length (os.map (·.1)), .pool os.reverse, .blk gl (.cells (lgc g a L.sg L.sl L.prev lf lsm L.n).toArray 34), dkE D, nmE N, .row 36 34 lf L.froms.length (askC L.froms), .row 39 35 lsm qs.length (smC qs), .rows 35 (qs.map rowQ).reverse]) M⟩
              · have hjn : rs.length = j + d0 + 1 := by rw [hW.len, ← hjs]; congr 1; omega
                refine code_region ?_
                refine mv E fun fr E => ?_
                refine sw (v := .int _ (((i + 1 : Nat) : Int))) E (num rfl ((i64_id (by omega) (by omega)).trans (by omega))) fun fr E => ?_
                refine mv E fun fr E => ?_
                refine sw E (run_nilCheck rfl rfl) fun fr E => ?_
                refine sw (v := .pointer (some ⟨_, 36, none⟩)) E (run_fieldAddr rfl rfl T.fld34_4) fun fr E => ?_
                refine sw (v := lf) E (run_loadB rfl rfl T.one31 (M.row (i := 2) rfl) (lgc_lf hp)) fun fr E => ?_
                refine sw (v := .int .i64 _) E (run_lenR rfl rfl rfl rfl T.slice31 (M.reads 5 rfl)) fun fr E => ?_
                refine sw (v := .bool false) E (tst rfl (decide_eq_false (by rw [hW.fl]; omega))) fun fr E => ?_
                refine seq_nil' ?_
                refine cond_false E rfl (rfl) ?_
                refine wp_skip ?_
                refine then_any ?_
                have M := M.pull 7 rfl
                have M := M.pull 7 rfl
                have M := M.pull 7 rfl
                have M := M.pull 7 rfl
                have M := M.pull 7 rfl
                have M := M.pull 7 rfl
                have M := M.pull 7 rfl
                have M := M.pull 7 rfl
                have hjn2 : True := trivial
                exact ⟨by first | exact (((((((((Env.nil E).add E (t := 1) rfl).add E (t := 2) rfl).add E (t := 7) rfl).add E (t := 8) rfl).add E (t := 9) rfl).add E (t := 10) rfl).add E (t := 17) rfl).add E (t := 18) rfl).add E (t := 19) rfl | (have h : Env [(19, .int .i64 ((67 + rs.length : Nat) : Int)), (18, .int .i64 ((67 + j : Nat) : Int)), (17, .int .i64 (i : Int)), (10, ov), (9, .int .i64 ((67 + rs.length : Nat) : Int)), (8, .int .i64 67), (7, .pointer (some ⟨gl, 0, none⟩)), (2, rv), (1, iv)] 278 fr := (((((((((Env.nil E).add E (t := 1) rfl).add E (t := 2) rfl).add E (t := 7) rfl).add E (t := 8) rfl).add E (t := 9) rfl).add E (t := 10) rfl).add E (t := 17) rfl).add E (t := 18) rfl).add E (t := 19) rfl; rw [hjn] at h ⊢; exact h), Mem.take (L := [.row 54 1 ov os.length (os.map (·.1)), .pool os.reverse, .blk gl (.cells (lgc g a L.sg L.sl L.prev lf lsm L.n).toArray 34), dkE D, nmE N, .row 36 34 lf L.froms.length (askC L.froms), .row 39 35 lsm qs.length (smC qs), .rows 35 (qs.map rowQ).reverse]) M⟩
            · rintro fr w ⟨E, M⟩
              refine code_region ?_
              refine sw E (run_assignC rfl) fun fr E => ?_
              refine seq_nil' ?_
              refine wp_seq ?_
              refine code_region ?_
              refine mv E fun fr E => ?_
              refine ma E fun fr E => ?_
              refine seq_nil' ?_
              refine wp_block ?_
              refine loop_dec (fun d fr w => ∃ (q : Nat) (D : DV) (N : NV) (b : Bool), d = d0 + 1 - q ∧ q ≤ d0 + 1 ∧ (b = true ↔ ∀ m, m < q → A.read (67 + (j + m)) = L.A.read (67 + (j + m))) ∧ RdIs D N g a L A z ∧ Env [(21, .int .i64 ((67 + (j + q) : Nat) : Int)), (20, .bool b), (19, .int .i64 ((67 + (j + d0 + 1) : Nat) : Int)), (17, .int .i64 (i : Int)), (10, ov), (9, .int .i64 ((67 + rs.length : Nat) : Int)), (8, .int .i64 67), (7, .pointer (some ⟨gl, 0, none⟩)), (2, rv), (1, iv)] 278 fr ∧ Mem w0 (feet []) [.row 54 1 ov os.length (os.map (·.1)), .pool os.reverse, .blk gl (.cells (lgc g a L.sg L.sl L.prev lf lsm L.n).toArray 34), dkE D, nmE N, .row 36 34 lf L.froms.length (askC L.froms), .row 39 35 lsm qs.length (smC qs), .rows 35 (qs.map rowQ).reverse] (fun w' => (Reads 1 w' iv il.length (ic il) ∧ Reads 1 w' rv ps.length (ps.map (·.1)) ∧ ∀ q ∈ ps, BytesZ w' q.1 q.2) ∧ Reads 2 w' av l.length (szC l)) w) (d0 + 1) ?_ ?_
              · exact ⟨0, D, N, true, rfl, Nat.zero_le _, ⟨fun _ m hm => absurd hm (Nat.not_lt_zero _), fun _ => rfl⟩, hRd, ((((((((((Env.nil E).add E (t := 1) rfl).add E (t := 2) rfl).add E (t := 7) rfl).add E (t := 8) rfl).add E (t := 9) rfl).add E (t := 10) rfl).add E (t := 17) rfl).add E (t := 19) rfl).add E (t := 20) rfl).add E (t := 21) rfl, Mem.take (L := [.row 54 1 ov os.length (os.map (·.1)), .pool os.reverse, .blk gl (.cells (lgc g a L.sg L.sl L.prev lf lsm L.n).toArray 34), dkE D, nmE N, .row 36 34 lf L.froms.length (askC L.froms), .row 39 35 lsm qs.length (smC qs), .rows 35 (qs.map rowQ).reverse]) M⟩
              · clear E M
                rintro d fr w ⟨q, D, N, b, rfl, hqle, hbq, hRd, E, M⟩
                by_cases hq : q < d0 + 1
                · obtain ⟨⟨A', hD, hS⟩, hga, hks, hts⟩ := hRd
                  have hA' : A'.n = 643 := hS.n.trans hPB.1
                  have hrd : A'.read (67 + (j + q)) = A.read (67 + (j + q)) := hS.read _
                  have hln := hD.2.read_len (67 + (j + q))
                  cases b with
                  | false =>
                    refine wp_seq ?_
                    refine code_region ?_
                    refine mv E fun fr E => ?_
                    refine mv E fun fr E => ?_
                    refine sw (v := .bool true) E (tst rfl (decide_eq_true (by omega))) fun fr E => ?_
                    refine seq_nil' ?_
                    refine cond_true E rfl (rfl) ?_
                    refine wp_skip ?_
                    refine then_normal ?_
                    refine wp_seq ?_
                    refine wp_block ?_
                    refine code_region ?_
                    refine mv E fun fr E => ?_
                    refine sw E (run_nilCheck rfl rfl) fun fr E => ?_
                    refine sw (v := .pointer (some ⟨_, 0, none⟩)) E (run_fieldAddr rfl rfl T.fld34_0) fun fr E => ?_
                    refine sw (v := .pointer (some ⟨g, 0, none⟩)) E (run_loadB rfl rfl T.one29 (M.row (i := 2) rfl) rfl) fun fr E => ?_
                    refine mv E fun fr E => ?_
                    have M := M.pull 3 rfl
                    refine scallI ([dkE D]) E M rfl rfl rfl rfl rfl (run_call rfl rfl T.fn12) rfl (fun H => Read_a (j := 67 + (j + q)) H hD (by omega)) ?_
                    rintro ⟨c, D2⟩ fr w hD2 M E
                    refine mv E fun fr E => ?_
                    refine sw E (run_extract rfl rfl rfl) fun fr E => ?_
                    refine sw E (run_extract rfl rfl rfl) fun fr E => ?_
                    refine ma E fun fr E => ?_
                    refine ma E fun fr E => ?_
                    refine seq_nil' ?_
                    have hbq2 : (false = true ↔ ∀ m, m < q + 1 → A.read (67 + (j + m)) = L.A.read (67 + (j + m))) := ⟨fun h => (nomatch h), fun h => hbq.2 fun m hm => h m (by omega)⟩
                    refine code_last ?_
                    refine mv E fun fr E => ?_
                    refine mv E fun fr E => ?_
                    refine sno E rfl rfl rfl rfl fun fr E => ?_
                    refine sno E rfl rfl rfl rfl fun fr E => ?_
                    refine sno E rfl rfl rfl rfl fun fr E => ?_
                    refine sno E rfl rfl rfl rfl fun fr E => ?_
                    refine sno E rfl rfl rfl rfl fun fr E => ?_
                    refine sno E rfl rfl rfl rfl fun fr E => ?_
                    refine sw (v := .bool false) E (rfl) fun fr E => ?_
                    refine ma E fun fr E => ?_
                    refine seq_nil ?_
                    refine block_normal ?_
                    refine then_normal ?_
                    refine code_last ?_
                    refine mv E fun fr E => ?_
                    refine sw (v := .int _ (((67 + (j + (q + 1)) : Nat) : Int))) E (num rfl ((i64_id (by omega) (by omega)).trans (by omega))) fun fr E => ?_
                    refine ma E fun fr E => ?_
                    refine seq_nil ?_
                    refine then_any ?_
                    have M := M.pull 8 rfl
                    have M := M.pull 8 rfl
                    have M := M.pull 8 rfl
                    have M := M.pull 8 rfl
                    have M := M.pull 5 rfl
                    have M := M.pull 8 rfl
                    have M := M.pull 8 rfl
                    have M := M.pull 8 rfl
                    exact ⟨d0 + 1 - (q + 1), by omega, q + 1, D2, N, _, rfl, by omega, hbq2, ⟨⟨_, hD2, hS.bump _⟩, hga, hks, hts⟩, ((((((((((Env.nil E).add E (t := 1) rfl).add E (t := 2) rfl).add E (t := 7) rfl).add E (t := 8) rfl).add E (t := 9) rfl).add E (t := 10) rfl).add E (t := 17) rfl).add E (t := 19) rfl).add E (t := 20) rfl).add E (t := 21) rfl, Mem.take (L := [.row 54 1 ov os.length (os.map (·.1)), .pool os.reverse, .blk gl (.cells (lgc g a L.sg L.sl L.prev lf lsm L.n).toArray 34), dkE D2, nmE N, .row 36 34 lf L.froms.length (askC L.froms), .row 39 35 lsm qs.length (smC qs), .rows 35 (qs.map rowQ).reverse]) M⟩
                  | true =>
                    refine wp_seq ?_
                    refine code_region ?_
                    refine mv E fun fr E => ?_
                    refine mv E fun fr E => ?_
                    refine sw (v := .bool true) E (tst rfl (decide_eq_true (by omega))) fun fr E => ?_
                    refine seq_nil' ?_
                    refine cond_true E rfl (rfl) ?_
                    refine wp_skip ?_
                    refine then_normal ?_
                    refine wp_seq ?_
                    refine wp_block ?_
                    refine code_region ?_
                    refine mv E fun fr E => ?_
                    refine sw E (run_nilCheck rfl rfl) fun fr E => ?_
                    refine sw (v := .pointer (some ⟨_, 0, none⟩)) E (run_fieldAddr rfl rfl T.fld34_0) fun fr E => ?_
                    refine sw (v := .pointer (some ⟨g, 0, none⟩)) E (run_loadB rfl rfl T.one29 (M.row (i := 2) rfl) rfl) fun fr E => ?_
                    refine mv E fun fr E => ?_
                    have M := M.pull 3 rfl
                    refine scallI ([dkE D]) E M rfl rfl rfl rfl rfl (run_call rfl rfl T.fn12) rfl (fun H => Read_a (j := 67 + (j + q)) H hD (by omega)) ?_
                    rintro ⟨c, D2⟩ fr w hD2 M E
                    refine mv E fun fr E => ?_
                    refine sw E (run_extract rfl rfl rfl) fun fr E => ?_
                    refine sw E (run_extract rfl rfl rfl) fun fr E => ?_
                    refine ma E fun fr E => ?_
                    refine ma E fun fr E => ?_
                    refine seq_nil' ?_
                    have hbq2 : (decide (A'.read (67 + (j + q)) = (os[67 + (j + q)]'(by omega)).2) = true ↔ ∀ m, m < q + 1 → A.read (67 + (j + m)) = L.A.read (67 + (j + m))) := by rw [os_get ho (by omega), hrd, decide_eq_true_iff]; exact ⟨fun h m hm => (Nat.lt_or_eq_of_le (Nat.le_of_lt_succ hm)).elim (fun c => hbq.1 rfl m c) (fun c => c ▸ h), fun h => h q (Nat.lt_succ_self q)⟩
                    refine code_last ?_
                    refine mv E fun fr E => ?_
                    refine mv E fun fr E => ?_
                    refine mv E fun fr E => ?_
                    refine mv E fun fr E => ?_
                    refine mv E fun fr E => ?_
                    refine sw (v := cellAt ov ((67 + (j + q)) * 1)) E (run_indexR (i := (67 + (j + q))) rfl (M.reads 2 rfl) rfl rfl (rfl) (by omega) T.slice52 T.size54) fun fr E => ?_
                    refine sw (v := (os[67 + (j + q)]'(by omega)).1) E (run_loadR rfl (M.reads 2 rfl) rfl T.one54 (by rw [Nat.mul_one]; exact List.getElem?_eq_some_iff.2 ⟨by simp; omega, by simp⟩)) fun fr E => ?_
                    refine sgive E M rfl rfl rfl rfl rfl (run_call rfl rfl T.fn15) (SameBytes_x (M.bytes 0 rfl) (M.pooled (i := 3) rfl (List.mem_reverse.2 (List.getElem_mem (show 67 + (j + q) < os.length by omega)))) (by omega)) fun fr w M E => ?_
                    refine sw (v := .bool _) E (rfl) fun fr E => ?_
                    refine ma E fun fr E => ?_
                    refine seq_nil ?_
                    refine block_normal ?_
                    refine then_normal ?_
                    refine code_last ?_
                    refine mv E fun fr E => ?_
                    refine sw (v := .int _ (((67 + (j + (q + 1)) : Nat) : Int))) E (num rfl ((i64_id (by omega) (by omega)).trans (by omega))) fun fr E => ?_
                    refine ma E fun fr E => ?_
                    refine seq_nil ?_
                    refine then_any ?_
                    have M := M.pull 8 rfl
                    have M := M.pull 8 rfl
                    have M := M.pull 8 rfl
                    have M := M.pull 8 rfl
                    have M := M.pull 5 rfl
                    have M := M.pull 8 rfl
                    have M := M.pull 8 rfl
                    have M := M.pull 8 rfl
                    exact ⟨d0 + 1 - (q + 1), by omega, q + 1, D2, N, _, rfl, by omega, hbq2, ⟨⟨_, hD2, hS.bump _⟩, hga, hks, hts⟩, ((((((((((Env.nil E).add E (t := 1) rfl).add E (t := 2) rfl).add E (t := 7) rfl).add E (t := 8) rfl).add E (t := 9) rfl).add E (t := 10) rfl).add E (t := 17) rfl).add E (t := 19) rfl).add E (t := 20) rfl).add E (t := 21) rfl, Mem.take (L := [.row 54 1 ov os.length (os.map (·.1)), .pool os.reverse, .blk gl (.cells (lgc g a L.sg L.sl L.prev lf lsm L.n).toArray 34), dkE D2, nmE N, .row 36 34 lf L.froms.length (askC L.froms), .row 39 35 lsm qs.length (smC qs), .rows 35 (qs.map rowQ).reverse]) M⟩
                · obtain rfl : q = d0 + 1 := by omega
                  have hown : b = true ↔ OwnB rs A.read j d0 := hbq.trans ⟨fun h m hm hlt2 => (h m (by omega)).trans (hI.at_ hlt2), fun h m hm => (h m (by omega) (by omega)).trans (hI.at_ _).symm⟩
                  by_cases hO : OwnB rs A.read j d0
                  · obtain rfl : b = true := hown.2 hO
                    have hz2 : z.length ≤ 16 * (i + 1) := by omega
                    refine wp_seq ?_
                    refine code_region ?_
                    refine mv E fun fr E => ?_
                    refine mv E fun fr E => ?_
                    refine sw (v := .bool false) E (tst rfl (decide_eq_false (by omega))) fun fr E => ?_
                    refine seq_nil' ?_
                    refine cond_false E rfl (rfl) ?_
                    refine wp_exit ?_
                    refine then_exit ?_
                    refine then_exit ?_
                    refine block_exit ?_
                    refine then_normal ?_
                    have M := M.pull 4 rfl
                    have M := M.pull 4 rfl
                    have M : Mem _ _ ([dkE D, nmE N] ++ _) _ _ := M
                    have hBx : cxw 26 30 31 27 28 33 T.tab4_35_b = true := by decide +kernel
                    have hBs : (waits T.tab4_35_b 29 27 && waits T.tab4_35_b 29 26) = true := by decide +kernel
                    refine wp_seq (free_regX (B := T.tab4_35_b) (Vs := (.exact _ :: .exact _ :: .exact (.pointer (some ⟨_, 0, none⟩)) :: .exact (.pointer (some ⟨g, 0, none⟩)) :: .exact _ :: .exact _ :: .exact (.pointer (some ⟨_, 1, none⟩)) :: .exact (.pointer (some ⟨a, 0, none⟩)) :: .exact (.iface 30 (.pointer (some ⟨a, 0, none⟩))) :: .exact (.agg #[.int .i64 20, .int .i64 32, .int .i64 4]) :: .exact _ :: .exact _ :: .exact (.pointer (some ⟨_, 36, none⟩)) :: .exact (lf) :: .exact _ :: .exact (cellAt lf (i * 34)) :: .exact (cellAt lf (i * 34 + 0)) :: .exact (.agg #[.int .i64 ((2 + j / 32 : Nat) : Int), .int .i64 ((j % 32 : Nat) : Int)]) :: .exact _ :: .exact _ :: .exact (.pointer (some ⟨_, 36, none⟩)) :: .exact (lf) :: .exact _ :: .exact (cellAt lf (i * 34)) :: .exact (cellAt lf (i * 34 + 2)) :: .exact (.agg (bc (prevOf j)).toArray) :: .rel (fun _ _ => True) :: .rel (fun _ _ => True) :: .rel (fun _ _ => True) :: .exact _ :: .rel (fun _ _ => True) :: .exact undef :: .exact _ :: [])) (callX (nxY 26 D N g a L A z s j d0) 33 T.tab4_35_b w.drew) T.tab4_35_i E T.mixed T.tab4_35 rfl ?_ ⟨gx_val  rfl rfl rfl M (fun x w' M' => ⟨_, rfl, rfl, rfl, run_move rfl rfl, rfl⟩),
      gx_val  rfl rfl rfl M (fun x w' M' => ⟨_, rfl, rfl, rfl, run_nilCheck rfl rfl, rfl⟩),
      gx_val  rfl rfl rfl M (fun x w' M' => ⟨_, rfl, rfl, rfl, run_fieldAddr rfl rfl T.fld34_0, rfl⟩),
      gx_val  rfl rfl rfl M (fun x w' M' => ⟨_, rfl, rfl, rfl, run_loadB rfl rfl T.one29 (M'.row (i := 2) rfl) rfl, rfl⟩),
      gx_val  rfl rfl rfl M (fun x w' M' => ⟨_, rfl, rfl, rfl, run_move rfl rfl, rfl⟩),
      gx_val  rfl rfl rfl M (fun x w' M' => ⟨_, rfl, rfl, rfl, run_nilCheck rfl rfl, rfl⟩),
      gx_val  rfl rfl rfl M (fun x w' M' => ⟨_, rfl, rfl, rfl, run_fieldAddr rfl rfl T.fld34_1, rfl⟩),
      gx_val  rfl rfl rfl M (fun x w' M' => ⟨_, rfl, rfl, rfl, run_loadB rfl rfl T.one30 (M'.row (i := 2) rfl) rfl, rfl⟩),
      gx_val  rfl rfl rfl M (fun x w' M' => ⟨_, rfl, rfl, rfl, rfl, rfl⟩),
      gx_ext  rfl rfl rfl M (fun x w' M' => ⟨_, _, rfl, rfl, rfl, run_call rfl rfl T.fn8, (rsmall_x).ext⟩),
      gx_val  rfl rfl rfl M (fun x w' M' => ⟨_, rfl, rfl, rfl, run_move rfl rfl, rfl⟩),
      gx_val  rfl rfl rfl M (fun x w' M' => ⟨_, rfl, rfl, rfl, run_nilCheck rfl rfl, rfl⟩),
      gx_val  rfl rfl rfl M (fun x w' M' => ⟨_, rfl, rfl, rfl, run_fieldAddr rfl rfl T.fld34_4, rfl⟩),
      gx_val  rfl rfl rfl M (fun x w' M' => ⟨_, rfl, rfl, rfl, run_loadB rfl rfl T.one31 (M'.row (i := 2) rfl) (lgc_lf hp), rfl⟩),
      gx_val  rfl rfl rfl M (fun x w' M' => ⟨_, rfl, rfl, rfl, run_move rfl rfl, rfl⟩),
      gx_val  rfl rfl rfl M (fun x w' M' => ⟨_, rfl, rfl, rfl, run_indexR (i := i) rfl (M'.reads 3 rfl) rfl rfl (rfl) ((by rw [hW.fl]; omega)) T.slice31 T.size36, rfl⟩),
      gx_val  rfl rfl rfl M (fun x w' M' => ⟨_, rfl, rfl, rfl, run_fieldAddrR rfl (M'.reads 3 rfl) rfl T.fld36_0 (by rw [hW.fl]; omega), rfl⟩),
      gx_val  rfl rfl rfl M (fun x w' M' => ⟨_, rfl, rfl, rfl, run_loadRN (k := i * 34 + 0) rfl (M'.reads 3 rfl) rfl T.agg26 (by rw [hW.fl]; omega) (by decide) (ask_pl hW hf), rfl⟩),
      gx_val  rfl rfl rfl M (fun x w' M' => ⟨_, rfl, rfl, rfl, run_move rfl rfl, rfl⟩),
      gx_val  rfl rfl rfl M (fun x w' M' => ⟨_, rfl, rfl, rfl, run_nilCheck rfl rfl, rfl⟩),
      gx_val  rfl rfl rfl M (fun x w' M' => ⟨_, rfl, rfl, rfl, run_fieldAddr rfl rfl T.fld34_4, rfl⟩),
      gx_val  rfl rfl rfl M (fun x w' M' => ⟨_, rfl, rfl, rfl, run_loadB rfl rfl T.one31 (M'.row (i := 2) rfl) (lgc_lf hp), rfl⟩),
      gx_val  rfl rfl rfl M (fun x w' M' => ⟨_, rfl, rfl, rfl, run_move rfl rfl, rfl⟩),
      gx_val  rfl rfl rfl M (fun x w' M' => ⟨_, rfl, rfl, rfl, run_indexR (i := i) rfl (M'.reads 3 rfl) rfl rfl (rfl) ((by rw [hW.fl]; omega)) T.slice31 T.size36, rfl⟩),
      gx_val  rfl rfl rfl M (fun x w' M' => ⟨_, rfl, rfl, rfl, run_fieldAddrR rfl (M'.reads 3 rfl) rfl T.fld36_1 (by rw [hW.fl]; omega), rfl⟩),
      gx_val  rfl rfl rfl M (fun x w' M' => ⟨_, rfl, rfl, rfl, run_loadRN (k := i * 34 + 2) rfl (M'.reads 3 rfl) rfl T.agg28 (by rw [hW.fl]; omega) (by decide) (ask_pv hW hf), rfl⟩),
      gx_call  rfl rfl rfl M (fun x w' M' H' => ⟨_, _, rfl, rfl, rfl, run_call rfl rfl T.fn7, nextY (j := j) (d := d0) H' hRd hI hrl (by omega) hb hs hPB.1 hO⟩),
      gx_mv  rfl rfl rfl hBx (fun x w' => ⟨rfl, rfl, rfl, fun y hy => run_moveV rfl hy⟩),
      gx_fst  rfl rfl rfl hBx (fun x w' y hy => ⟨rfl, rfl, rfl, run_extractV rfl hy rfl⟩),
      gx_snd  rfl rfl rfl hBs (fun x w' y hy => ⟨rfl, rfl, rfl, run_extractV rfl hy rfl⟩),
      gx_alloc  rfl rfl rfl rfl (fun x w' => ⟨rfl, rfl, rfl, run_allocN rfl T.zero41⟩),
      gx_set  rfl rfl rfl hBx (fun x w' g y ha hx H' hg => ⟨rfl, rfl, rfl, run_storeAll rfl ha hx T.size41 (bxJ_size hs _ _ _) hg rfl (fun u hu => bxJ_one (Reads.oneR (H'.reads 0 rfl)) u (by simpa using hu))⟩),
      gx_val  rfl rfl rfl M (fun x w' M' => ⟨_, rfl, rfl, rfl, run_assign rfl rfl, rfl⟩), trivial⟩ ?_)
                    · exact callX_ok hBx (fun q hq => Mem.old M q hq) ⟨fun _ _ => trivial, fun _ _ => trivial, fun _ _ => trivial, fun _ _ => trivial, trivial⟩
                    intro x fr w ⟨bb, hb2, hI2⟩ hk E
                    obtain ⟨⟨ev, D, N⟩, b1, hgx, hRd, M⟩ := Mem.behindX (K := nxY 26 D N g a L A z s j d0) M hI2 (hb2 26 (by decide)) (hb2 30 (by decide)) (hb2 31 (by decide))
                    have E := Env.say (t := 24) E rfl hgx
                    have M := Mem.take (L := [.row 83 35 ev s.es.length (ecs s.es), dkE D, nmE N, .blk b1 (.cells (bxJ s ev j d0).toArray 41), .row 54 1 ov os.length (os.map (·.1)), .pool os.reverse, .blk gl (.cells (lgc g a L.sg L.sl L.prev lf lsm L.n).toArray 34), .row 36 34 lf L.froms.length (askC L.froms), .row 39 35 lsm qs.length (smC qs), .rows 35 (qs.map rowQ).reverse]) M
                    refine then_normal ?_
                    refine wp_seq (free_reg (B := T.tab4_36_b) (Vs := (.exact (.int .i64 0) :: .exact (.bool true) :: .exact _ :: .exact (.bool false) :: .exact (.bool false) :: .exact (.int .i64 0) :: .exact (.bool true) :: .exact (.bool true) :: .exact (.pointer (some ⟨_, 0, none⟩)) :: .exact (.agg (s.cells ev).toArray) :: .exact _ :: .exact _ :: .exact (.pointer (some ⟨_, 37, none⟩)) :: .exact (lsm) :: .exact _ :: .exact (cellAt lsm (i * 35)) :: .exact (.agg (s.cells vi).toArray) :: .exact (.bool true) :: .exact (.bool false) :: .exact (.bool false) :: .exact (.bool false) :: [])) T.tab4_36_i E T.mixed T.tab4_36 rfl (AllS.lasts ⟨trivial, trivial, trivial, trivial, trivial, trivial, trivial, trivial, trivial, trivial, trivial, trivial, trivial, trivial, trivial, trivial, trivial, trivial, trivial, trivial, trivial, trivial⟩) ⟨fv rfl rfl (fun x w hx hk => run_move rfl rfl),
      fv rfl rfl (fun x w hx hk => tst rfl (rfl)),
      fv rfl rfl (fun x w hx hk => run_move rfl rfl),
      fv rfl rfl (fun x w hx hk => tst rfl (rfl)),
      fv rfl rfl (fun x w hx hk => run_move rfl rfl),
      fv rfl rfl (fun x w hx hk => run_move rfl rfl),
      fv rfl rfl (fun x w hx hk => tst rfl (rfl)),
      fv rfl rfl (fun x w hx hk => run_move rfl rfl),
      fv rfl rfl (fun x w hx hk => run_fieldAddr rfl rfl T.fld41_0),
      fv rfl rfl (fun x w hx hk => run_loadN' (vs := (s.cells ev).toArray) rfl rfl T.agg39 ((M.ext ((Ext.drew _).trans hx)).row (i := 3) rfl) (sz72 (bxJ_size hs _ _ _) rfl) (congrArg List.toArray (bxJ_smy hs))),
      fv rfl rfl (fun x w hx hk => run_move rfl rfl),
      fv rfl rfl (fun x w hx hk => run_nilCheck rfl rfl),
      fv rfl rfl (fun x w hx hk => run_fieldAddr rfl rfl T.fld34_5),
      fv rfl rfl (fun x w hx hk => run_loadB rfl rfl T.one32 ((M.ext ((Ext.drew _).trans hx)).row (i := 6) rfl) (lgc_lsm hp)),
      fv rfl rfl (fun x w hx hk => run_move rfl rfl),
      fv rfl rfl (fun x w hx hk => run_indexR (i := i) rfl ((M.ext ((Ext.drew _).trans hx)).reads 8 rfl) rfl rfl (rfl) ((by omega)) T.slice32 T.size39),
      fv rfl rfl (fun x w hx hk => run_loadRN (k := i * 35) rfl ((M.ext ((Ext.drew _).trans hx)).reads 8 rfl) rfl T.agg39 (by omega) (by decide) hsm),
      fs_ext rfl rfl (fun x w hx hk => ⟨_, _, rfl, rfl, rfl, run_call rfl rfl T.fn9, (SameSummary_x hs h16 ((M.ext ((Ext.drew _).trans hx)).reads 0 rfl) ((Mem.ofRows (M.ext ((Ext.drew _).trans hx)) (i := 9) rfl hrw).asLen (by rw [ecs_len hs.2]; omega))).ext⟩),
      fv rfl rfl (fun x w hx hk => rfl),
      fv rfl rfl (fun x w hx hk => rfl),
      fv rfl rfl (fun x w hx hk => rfl), trivial⟩ ?_)
                    intro x fr w hx hk E
                    have M := M.ext hx
                    refine then_normal ?_
                    refine cond_false E rfl (rfl) ?_
                    refine wp_skip ?_
                    refine block_normal ?_
                    refine then_normal ?_
                    refine code_last ?_
                    refine mv E fun fr E => ?_
                    refine sw (v := .int _ (((i + 1 : Nat) : Int))) E (num rfl ((i64_id (by omega) (by omega)).trans (by omega))) fun fr E => ?_
                    refine ma E fun fr E => ?_
                    refine seq_nil ?_
                    refine then_any ?_
                    have M := M.pull 9 rfl
                    have M := M.pull 9 rfl
                    have M := M.pull 9 rfl
                    have M := M.pull 5 rfl
                    have M := M.pull 5 rfl
                    have M := M.pull 9 rfl
                    have M := M.pull 9 rfl
                    have M := M.pull 9 rfl
                    exact ⟨Ds.length - (i + 1), by omega, i + 1, D, N, _, rfl, by omega, hz2, hRd, (((((((Env.nil E).add E (t := 1) rfl).add E (t := 2) rfl).add E (t := 7) rfl).add E (t := 8) rfl).add E (t := 9) rfl).add E (t := 10) rfl).add E (t := 17) rfl, Mem.take (L := [.row 54 1 ov os.length (os.map (·.1)), .pool os.reverse, .blk gl (.cells (lgc g a L.sg L.sl L.prev lf lsm L.n).toArray 34), dkE D, nmE N, .row 36 34 lf L.froms.length (askC L.froms), .row 39 35 lsm qs.length (smC qs), .rows 35 (qs.map rowQ).reverse]) M⟩
                  · obtain rfl : b = false := by cases b with | false => rfl | true => exact absurd (hown.1 rfl) hO
                    obtain ⟨z', hz1, hE⟩ := next_not (z := z) hW hrl (by omega) hi hj hd0 hb hO (sg := ((2 + j / 32 : Nat) : Int)) (sl0 := ((j % 32 : Nat) : Int)) rfl (k := (32 - ((j % 32 : Nat) : Int)).toNat) (q := 0) (bs := []) rfl (by omega)
                    have hz2 : z'.length ≤ 16 * (i + 1) := by omega
                    have hfi : 67 + (j + 0) = (3 + ((2 + j / 32 : Nat) : Int) * 32 + ((j % 32 : Nat) : Int)).toNat := by omega
                    rw [hfi] at hE
                    refine wp_seq ?_
                    refine code_region ?_
                    refine mv E fun fr E => ?_
                    refine mv E fun fr E => ?_
                    refine sw (v := .bool false) E (tst rfl (decide_eq_false (by omega))) fun fr E => ?_
                    refine seq_nil' ?_
                    refine cond_false E rfl (rfl) ?_
                    refine wp_exit ?_
                    refine then_exit ?_
                    refine then_exit ?_
                    refine block_exit ?_
                    refine then_normal ?_
                    have M := M.pull 4 rfl
                    have M := M.pull 4 rfl
                    have M : Mem _ _ ([dkE D, nmE N] ++ _) _ _ := M
                    have hBx : cxw 26 30 31 27 28 33 T.tab4_35_b = true := by decide +kernel
                    have hBs : (waits T.tab4_35_b 29 27 && waits T.tab4_35_b 29 26) = true := by decide +kernel
                    refine wp_seq (free_regX (B := T.tab4_35_b) (Vs := (.exact _ :: .exact _ :: .exact (.pointer (some ⟨_, 0, none⟩)) :: .exact (.pointer (some ⟨g, 0, none⟩)) :: .exact _ :: .exact _ :: .exact (.pointer (some ⟨_, 1, none⟩)) :: .exact (.pointer (some ⟨a, 0, none⟩)) :: .exact (.iface 30 (.pointer (some ⟨a, 0, none⟩))) :: .exact (.agg #[.int .i64 20, .int .i64 32, .int .i64 4]) :: .exact _ :: .exact _ :: .exact (.pointer (some ⟨_, 36, none⟩)) :: .exact (lf) :: .exact _ :: .exact (cellAt lf (i * 34)) :: .exact (cellAt lf (i * 34 + 0)) :: .exact (.agg #[.int .i64 ((2 + j / 32 : Nat) : Int), .int .i64 ((j % 32 : Nat) : Int)]) :: .exact _ :: .exact _ :: .exact (.pointer (some ⟨_, 36, none⟩)) :: .exact (lf) :: .exact _ :: .exact (cellAt lf (i * 34)) :: .exact (cellAt lf (i * 34 + 2)) :: .exact (.agg (bc (prevOf j)).toArray) :: .rel (fun _ _ => True) :: .rel (fun _ _ => True) :: .rel (fun _ _ => True) :: .exact _ :: .rel (fun _ _ => True) :: .exact undef :: .exact _ :: [])) (callX (nxN 26 D N g a L A z') 33 T.tab4_35_b w.drew) T.tab4_35_i E T.mixed T.tab4_35 rfl ?_ ⟨gx_val  rfl rfl rfl M (fun x w' M' => ⟨_, rfl, rfl, rfl, run_move rfl rfl, rfl⟩),
      gx_val  rfl rfl rfl M (fun x w' M' => ⟨_, rfl, rfl, rfl, run_nilCheck rfl rfl, rfl⟩),
      gx_val  rfl rfl rfl M (fun x w' M' => ⟨_, rfl, rfl, rfl, run_fieldAddr rfl rfl T.fld34_0, rfl⟩),
      gx_val  rfl rfl rfl M (fun x w' M' => ⟨_, rfl, rfl, rfl, run_loadB rfl rfl T.one29 (M'.row (i := 2) rfl) rfl, rfl⟩),
      gx_val  rfl rfl rfl M (fun x w' M' => ⟨_, rfl, rfl, rfl, run_move rfl rfl, rfl⟩),
      gx_val  rfl rfl rfl M (fun x w' M' => ⟨_, rfl, rfl, rfl, run_nilCheck rfl rfl, rfl⟩),
      gx_val  rfl rfl rfl M (fun x w' M' => ⟨_, rfl, rfl, rfl, run_fieldAddr rfl rfl T.fld34_1, rfl⟩),
      gx_val  rfl rfl rfl M (fun x w' M' => ⟨_, rfl, rfl, rfl, run_loadB rfl rfl T.one30 (M'.row (i := 2) rfl) rfl, rfl⟩),
      gx_val  rfl rfl rfl M (fun x w' M' => ⟨_, rfl, rfl, rfl, rfl, rfl⟩),
      gx_ext  rfl rfl rfl M (fun x w' M' => ⟨_, _, rfl, rfl, rfl, run_call rfl rfl T.fn8, (rsmall_x).ext⟩),
      gx_val  rfl rfl rfl M (fun x w' M' => ⟨_, rfl, rfl, rfl, run_move rfl rfl, rfl⟩),
      gx_val  rfl rfl rfl M (fun x w' M' => ⟨_, rfl, rfl, rfl, run_nilCheck rfl rfl, rfl⟩),
      gx_val  rfl rfl rfl M (fun x w' M' => ⟨_, rfl, rfl, rfl, run_fieldAddr rfl rfl T.fld34_4, rfl⟩),
      gx_val  rfl rfl rfl M (fun x w' M' => ⟨_, rfl, rfl, rfl, run_loadB rfl rfl T.one31 (M'.row (i := 2) rfl) (lgc_lf hp), rfl⟩),
      gx_val  rfl rfl rfl M (fun x w' M' => ⟨_, rfl, rfl, rfl, run_move rfl rfl, rfl⟩),
      gx_val  rfl rfl rfl M (fun x w' M' => ⟨_, rfl, rfl, rfl, run_indexR (i := i) rfl (M'.reads 3 rfl) rfl rfl (rfl) ((by rw [hW.fl]; omega)) T.slice31 T.size36, rfl⟩),
      gx_val  rfl rfl rfl M (fun x w' M' => ⟨_, rfl, rfl, rfl, run_fieldAddrR rfl (M'.reads 3 rfl) rfl T.fld36_0 (by rw [hW.fl]; omega), rfl⟩),
      gx_val  rfl rfl rfl M (fun x w' M' => ⟨_, rfl, rfl, rfl, run_loadRN (k := i * 34 + 0) rfl (M'.reads 3 rfl) rfl T.agg26 (by rw [hW.fl]; omega) (by decide) (ask_pl hW hf), rfl⟩),
      gx_val  rfl rfl rfl M (fun x w' M' => ⟨_, rfl, rfl, rfl, run_move rfl rfl, rfl⟩),
      gx_val  rfl rfl rfl M (fun x w' M' => ⟨_, rfl, rfl, rfl, run_nilCheck rfl rfl, rfl⟩),
      gx_val  rfl rfl rfl M (fun x w' M' => ⟨_, rfl, rfl, rfl, run_fieldAddr rfl rfl T.fld34_4, rfl⟩),
      gx_val  rfl rfl rfl M (fun x w' M' => ⟨_, rfl, rfl, rfl, run_loadB rfl rfl T.one31 (M'.row (i := 2) rfl) (lgc_lf hp), rfl⟩),
      gx_val  rfl rfl rfl M (fun x w' M' => ⟨_, rfl, rfl, rfl, run_move rfl rfl, rfl⟩),
      gx_val  rfl rfl rfl M (fun x w' M' => ⟨_, rfl, rfl, rfl, run_indexR (i := i) rfl (M'.reads 3 rfl) rfl rfl (rfl) ((by rw [hW.fl]; omega)) T.slice31 T.size36, rfl⟩),
      gx_val  rfl rfl rfl M (fun x w' M' => ⟨_, rfl, rfl, rfl, run_fieldAddrR rfl (M'.reads 3 rfl) rfl T.fld36_1 (by rw [hW.fl]; omega), rfl⟩),
      gx_val  rfl rfl rfl M (fun x w' M' => ⟨_, rfl, rfl, rfl, run_loadRN (k := i * 34 + 2) rfl (M'.reads 3 rfl) rfl T.agg28 (by rw [hW.fl]; omega) (by decide) (ask_pv hW hf), rfl⟩),
      gx_call  rfl rfl rfl M (fun x w' M' H' => ⟨_, _, rfl, rfl, rfl, run_call rfl rfl T.fn7, nextN (sg := ((2 + j / 32 : Nat) : Int)) (sl0 := ((j % 32 : Nat) : Int)) (prev := prevOf j) H' hRd hI hrl (by omega) hPB.1 (by omega) (by omega) (prevOf_len _) hE⟩),
      gx_mv  rfl rfl rfl hBx (fun x w' => ⟨rfl, rfl, rfl, fun y hy => run_moveV rfl hy⟩),
      gx_fst  rfl rfl rfl hBx (fun x w' y hy => ⟨rfl, rfl, rfl, run_extractV rfl hy rfl⟩),
      gx_snd  rfl rfl rfl hBs (fun x w' y hy => ⟨rfl, rfl, rfl, run_extractV rfl hy rfl⟩),
      gx_alloc  rfl rfl rfl rfl (fun x w' => ⟨rfl, rfl, rfl, run_allocN rfl T.zero41⟩),
      gx_set  rfl rfl rfl hBx (fun x w' g y ha hx H' hg => ⟨rfl, rfl, rfl, run_storeAll rfl ha hx T.size41 (rfl) hg rfl (fun u hu => bx0_one u (by simpa using hu))⟩),
      gx_val  rfl rfl rfl M (fun x w' M' => ⟨_, rfl, rfl, rfl, run_assign rfl rfl, rfl⟩), trivial⟩ ?_)
                    · exact callX_ok hBx (fun q hq => Mem.old M q hq) ⟨fun _ _ => trivial, fun _ _ => trivial, fun _ _ => trivial, fun _ _ => trivial, trivial⟩
                    intro x fr w ⟨bb, hb2, hI2⟩ hk E
                    obtain ⟨⟨D, N⟩, b1, hgx, hRd, M⟩ := Mem.behindX (K := nxN 26 D N g a L A z') M hI2 (hb2 26 (by decide)) (hb2 30 (by decide)) (hb2 31 (by decide))
                    have E := Env.say (t := 24) E rfl hgx
                    have M := Mem.take (L := [dkE D, nmE N, .blk b1 (.cells bx0.toArray 41), .row 54 1 ov os.length (os.map (·.1)), .pool os.reverse, .blk gl (.cells (lgc g a L.sg L.sl L.prev lf lsm L.n).toArray 34), .row 36 34 lf L.froms.length (askC L.froms), .row 39 35 lsm qs.length (smC qs), .rows 35 (qs.map rowQ).reverse]) M
                    refine then_normal ?_
                    refine wp_seq (free_reg (B := T.tab4_36_b) (Vs := (.exact (.int .i64 20) :: .exact (.bool false) :: .exact _ :: .exact (.bool false) :: .exact (.bool false) :: .exact (.int .i64 20) :: .exact (.bool false) :: .exact (.bool false) :: .exact undef :: .exact undef :: .exact undef :: .exact undef :: .exact undef :: .exact undef :: .exact undef :: .exact undef :: .exact undef :: .exact undef :: .exact undef :: .exact (.bool false) :: .exact (.bool false) :: [])) T.tab4_36_i E T.mixed T.tab4_36 rfl (AllS.lasts ⟨trivial, trivial, trivial, trivial, trivial, trivial, trivial, trivial, trivial, trivial, trivial, trivial, trivial, trivial, trivial, trivial, trivial, trivial, trivial, trivial, trivial, trivial⟩) ⟨fv rfl rfl (fun x w hx hk => run_move rfl rfl),
      fv rfl rfl (fun x w hx hk => tst rfl (rfl)),
      fv rfl rfl (fun x w hx hk => run_move rfl rfl),
      fv rfl rfl (fun x w hx hk => tst rfl (rfl)),
      fv rfl rfl (fun x w hx hk => run_move rfl rfl),
      fv rfl rfl (fun x w hx hk => run_move rfl rfl),
      fv rfl rfl (fun x w hx hk => tst rfl (rfl)),
      fv rfl rfl (fun x w hx hk => run_move rfl rfl),
      fs_no rfl rfl (fun x => ⟨rfl, rfl⟩),
      fs_no rfl rfl (fun x => ⟨rfl, rfl⟩),
      fs_no rfl rfl (fun x => ⟨rfl, rfl⟩),
      fs_no rfl rfl (fun x => ⟨rfl, rfl⟩),
      fs_no rfl rfl (fun x => ⟨rfl, rfl⟩),
      fs_no rfl rfl (fun x => ⟨rfl, rfl⟩),
      fs_no rfl rfl (fun x => ⟨rfl, rfl⟩),
      fs_no rfl rfl (fun x => ⟨rfl, rfl⟩),
      fs_no rfl rfl (fun x => ⟨rfl, rfl⟩),
      fs_no rfl rfl (fun x => ⟨rfl, rfl⟩),
      fs_no rfl rfl (fun x => ⟨rfl, rfl⟩),
      fv rfl rfl (fun x w hx hk => rfl),
      fv rfl rfl (fun x w hx hk => rfl), trivial⟩ ?_)
                    intro x fr w hx hk E
                    have M := M.ext hx
                    refine then_normal ?_
                    refine cond_false E rfl (rfl) ?_
                    refine wp_skip ?_
                    refine block_normal ?_
                    refine then_normal ?_
                    refine code_last ?_
                    refine mv E fun fr E => ?_
                    refine sw (v := .int _ (((i + 1 : Nat) : Int))) E (num rfl ((i64_id (by omega) (by omega)).trans (by omega))) fun fr E => ?_
                    refine ma E fun fr E => ?_
                    refine seq_nil ?_
                    refine then_any ?_
                    have M := M.pull 8 rfl
                    have M := M.pull 8 rfl
                    have M := M.pull 8 rfl
                    have M := M.pull 4 rfl
                    have M := M.pull 4 rfl
                    have M := M.pull 8 rfl
                    have M := M.pull 8 rfl
                    have M := M.pull 8 rfl
                    exact ⟨Ds.length - (i + 1), by omega, i + 1, D, N, _, rfl, by omega, hz2, hRd, (((((((Env.nil E).add E (t := 1) rfl).add E (t := 2) rfl).add E (t := 7) rfl).add E (t := 8) rfl).add E (t := 9) rfl).add E (t := 10) rfl).add E (t := 17) rfl, Mem.take (L := [.row 54 1 ov os.length (os.map (·.1)), .pool os.reverse, .blk gl (.cells (lgc g a L.sg L.sl L.prev lf lsm L.n).toArray 34), dkE D, nmE N, .row 36 34 lf L.froms.length (askC L.froms), .row 39 35 lsm qs.length (smC qs), .rows 35 (qs.map rowQ).reverse]) M⟩
          · obtain rfl : i = Ds.length := by omega
            refine wp_seq ?_
            refine code_region ?_
            refine mv E fun fr E => ?_
            refine mv E fun fr E => ?_
            refine sw E (run_nilCheck rfl rfl) fun fr E => ?_
            refine sw (v := .pointer (some ⟨_, 36, none⟩)) E (run_fieldAddr rfl rfl T.fld34_4) fun fr E => ?_
            refine sw (v := lf) E (run_loadB rfl rfl T.one31 (M.row (i := 2) rfl) (lgc_lf hp)) fun fr E => ?_
            refine sw (v := .int .i64 _) E (run_lenR rfl rfl rfl rfl T.slice31 (M.reads 5 rfl)) fun fr E => ?_
            refine sw (v := .bool false) E (tst rfl (decide_eq_false (by rw [hW.fl]; omega))) fun fr E => ?_
            refine seq_nil' ?_
            refine cond_false E rfl (rfl) ?_
            refine wp_exit ?_
            refine then_exit ?_
            refine then_exit ?_
            refine block_exit ?_
            refine then_normal ?_
            refine code_region ?_
            refine sgive E M rfl rfl rfl rfl rfl (run_call rfl rfl T.fn10) (knownR_x _) fun fr w M E => ?_
            refine ma E fun fr E => ?_
            refine seq_nil' ?_
            refine wp_ret ?_
            refine ret1 E rfl rfl ?_
            exact given M
end Go.Proofs.Ytnebjbgcibjohaa.K
