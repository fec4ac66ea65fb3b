/- Contracts: the law's log: batch. -/
import Derived.Test.YtnebjbgcibjohaaKK
import Derived.Test.YtnebjbgcibjohaaKK2
import Derived.Test.YtnebjbgcibjohaaRR1
section
namespace Go.Proofs.Ytnebjbgcibjohaa.K
open Go.RowKit Go.Rill Go.Proofs
set_option linter.unusedVariables false
set_option linter.unusedSimpArgs false
def LgIs (D : DV) (N : NV) (g a : Nat) (L : Lg) : Prop := D.is g L.A ∧ N.gn = a ∧ N.ks = L.ks ∧ N.ts = L.ts
/-- What a log's lists have: their values, the summaries with their entries' slices; its disk, its names. -/
structure LX where
  lf : Value
  lsm : Value
  qs : List (Smy × Value)
  D : DV
  N : NV
def askV (f : Int × Int × List UInt8) : List Value := iv f.1 :: iv f.2.1 :: bc f.2.2
def askC (l : List (Int × Int × List UInt8)) : List Value := (l.map askV).flatten
def smC (qs : List (Smy × Value)) : List Value := (qs.map fun q => q.1.cells q.2).flatten
def rowQ (q : Smy × Value) : Value × List Value := (q.2, ecs q.1.es)
theorem ask_snoc (l : List (Int × Int × List UInt8)) (f : Int × Int × List UInt8) : askC (l ++ [f]) = askC l ++ askV f := by simp [askC]
theorem sm_snoc (l : List (Smy × Value)) (q : Smy × Value) : smC (l ++ [q]) = smC l ++ q.1.cells q.2 := by simp [smC]
theorem askV_one {f : Int × Int × List UInt8} : ∀ u ∈ askV f, u.oneCell' = true := by
  intro u hu
  unfold askV at hu
  simp only [List.mem_cons] at hu
  rcases hu with rfl | rfl | hu
  · rfl
  · rfl
  · exact bc_one u hu
section
variable {d a : Nat} {sg sl n : Int} {prev : List UInt8} {lf lsm : Value}
theorem lgc_lf (h : prev.length = 32) : (lgc d a sg sl prev lf lsm n).toArray[36]? = some lf := by
  simp only [List.getElem?_toArray, lgc, List.getElem?_cons_succ]
  rw [List.getElem?_append_right (by simp [h])]
  simp [h]
theorem lgc_lsm (h : prev.length = 32) : (lgc d a sg sl prev lf lsm n).toArray[37]? = some lsm := by
  simp only [List.getElem?_toArray, lgc, List.getElem?_cons_succ]
  rw [List.getElem?_append_right (by simp [h])]
  simp [h]
theorem lgc_prev (h : prev.length = 32) : ((lgc d a sg sl prev lf lsm n).drop 4).take 32 = bc prev := List.take_left' (by simp [h])
theorem lgc_setlf (h : prev.length = 32) (v : Value) : (lgc d a sg sl prev lf lsm n).set 36 v = lgc d a sg sl prev v lsm n := by
  unfold lgc
  have e : (bc prev ++ [lf, lsm, (.int .i64 n : Value)]).set 32 v = bc prev ++ [v, lsm, .int .i64 n] := by
    rw [List.set_append_right _ _ (by simp [h])]
    simp [h]
  exact congrArg (fun t => (.pointer (some ⟨d, 0, none⟩) : Value) :: .pointer (some ⟨a, 0, none⟩) :: .int .i64 sg :: .int .i64 sl :: t) e
theorem lgc_setlsm (h : prev.length = 32) (v : Value) : (lgc d a sg sl prev lf lsm n).set 37 v = lgc d a sg sl prev lf v n := by
  unfold lgc
  have e : (bc prev ++ [lf, lsm, (.int .i64 n : Value)]).set 33 v = bc prev ++ [lf, v, .int .i64 n] := by
    rw [List.set_append_right _ _ (by simp [h])]
    simp [h]
  exact congrArg (fun t => (.pointer (some ⟨d, 0, none⟩) : Value) :: .pointer (some ⟨a, 0, none⟩) :: .int .i64 sg :: .int .i64 sl :: t) e
theorem lgc_setp {p2 : List UInt8} (h : prev.length = 32) (h2 : p2.length = 32) : (lgc d a sg sl prev lf lsm n).take 4 ++ bc p2 ++ (lgc d a sg sl prev lf lsm n).drop (4 + 32) = lgc d a sg sl p2 lf lsm n := by
  unfold lgc
  have e : (bc prev ++ [lf, lsm, (.int .i64 n : Value)]).drop 32 = [lf, lsm, .int .i64 n] := List.drop_left' (by simp [h])
  show [_, _, _, _] ++ bc p2 ++ (bc prev ++ [lf, lsm, (.int .i64 n : Value)]).drop 32 = _
  rw [e]
  simp
theorem lgc_setat (h : prev.length = 32) {s2 l2 : Int} : (lgc d a sg sl prev lf lsm n).take 2 ++ [.int .i64 s2, .int .i64 l2] ++ (lgc d a sg sl prev lf lsm n).drop (2 + 2) = lgc d a s2 l2 prev lf lsm n := rfl
end
section
variable {p : List UInt8} {nx : Int} {v u : Value}
theorem smc_size (h : p.length = 32) : (Smy.cells ⟨0, p, nx, []⟩ v).toArray.size = 35 := by simp [Smy.cells, h]
theorem smc_v (h : p.length = 32) : (Smy.cells ⟨0, p, nx, []⟩ v).toArray[34]? = some v := by
  simp only [List.getElem?_toArray, Smy.cells, List.getElem?_cons_succ]
  rw [List.getElem?_append_right (by simp [h])]
  simp [h]
theorem smc_es (h : p.length = 32) : (Smy.cells ⟨0, p, nx, []⟩ v).set 34 u = Smy.cells ⟨0, p, nx, []⟩ u := by
  unfold Smy.cells
  have e : (bc p ++ [iv nx, v]).set 33 u = bc p ++ [iv nx, u] := by
    rw [List.set_append_right _ _ (by simp [h])]
    simp [h]
  exact congrArg (fun t => iv 0 :: t) e
theorem smc_nx (h : p.length = 32) {n2 : Int} : (Smy.cells ⟨0, p, nx, []⟩ v).set 33 (.int .i64 n2) = Smy.cells ⟨0, p, n2, []⟩ v := by
  unfold Smy.cells
  have e : (bc p ++ [iv nx, v]).set 32 (.int .i64 n2) = bc p ++ [iv n2, v] := by
    rw [List.set_append_right _ _ (by simp [h])]
    simp [h, iv]
  exact congrArg (fun t => iv 0 :: t) e
theorem smc_n (h : p.length = 32) : (Smy.cells ⟨0, p, nx, []⟩ v).toArray[33]? = some (.int .i64 nx) := by
  simp only [List.getElem?_toArray, Smy.cells, List.getElem?_cons_succ]
  rw [List.getElem?_append_right (by simp [h])]
  simp [h, iv]
theorem smc_one (hv : v.oneCell' = true) : ∀ u ∈ Smy.cells ⟨0, p, nx, []⟩ v, u.oneCell' = true := Smy.ones hv
end
theorem run_buildG {P : Program} {ρ : Operand → Value} {o : Oper} {w : World} {t : TypeId} {ps : List (Nat × Operand)} {vs pre : List Value} {s0 : Nat} {szs : List Nat} {z : List Value} {us : List Value} (ho : o.op = .build t ps.toArray) (hv : ps.map (fun p => (p.1, ρ p.2)) = (vs.zipIdx 1).map fun x => (x.2, x.1))
    (ht : tyStruct P t (s0 :: szs) (pre ++ z) = true) (hz : zeroOf P t = some (.agg (pre ++ z).toArray)) (hpre : pre.length = s0) (hs : vs.map (·.cells.size) = szs.take vs.length) (hl : Nat.ble vs.length szs.length = true) (hsum : Nat.ble szs.sum z.length = true) (hu : pre ++ (vs.map (·.cells.toList)).flatten ++ z.drop (szs.take vs.length).sum = us) :
    (execOp ρ o).run P w = .ok (.value (.agg us.toArray)) w := by
  subst hu
  unfold tyStruct at ht
  cases hun : P.underlying t with
  | none => rw [hun] at ht; cases ht
  | some d =>
    rw [hun] at ht
    cases d with
    | struct fs =>
      simp only [Bool.and_eq_true, beq_iff_eq, List.all_eq_true] at ht
      obtain ⟨⟨h1, h2⟩, _⟩ := ht
      have hzv : (zeroValue t).run P w = .ok (.agg (pre ++ z).toArray) w := by
        unfold zeroOf at hz
        cases hi : P.info? t with
        | none => rw [hi] at hz; cases hz
        | some i => rw [hi] at hz; simp only [Option.bind_some] at hz; simp [zeroValue, typeInfo, hi, hz]
      have hplaces : (fs.mapM (m := Sem) fun f => do pure (f.offset, ← sizeOf f.type)).run P w = .ok (pieces 0 (s0 :: szs) 0).toArray w := by
        have key := run_mapM (P := P) (w := w) (fun f : Field => (do pure (f.offset, ← sizeOf f.type) : Sem (Nat × Nat))) (fun f => (f.offset, (match P.info? f.type with | some i => i.size | none => 0))) fs.toList (fun f hf => by
          obtain ⟨i, hi⟩ := Option.isSome_iff_exists.1 (h2 f hf)
          simp [sizeOf, typeInfo, hi])
        have h1' : (fs.toList.map fun f => (f.offset, (match P.info? f.type with | some i => i.size | none => 0))) = pieces 0 (s0 :: szs) 0 := h1
        rw [h1'] at key
        rw [Array.mapM_eq_mapM_toList, map_eq_pure_bind, Sem.run_bind, key, Result.andThen_ok, Sem.run_pure]
      have hfill := fill_prefix (fun i => (pieces 0 (s0 :: szs) 0).toArray[i]?) vs szs 1 s0 pre z hpre hs (by simpa using hl) (fun j _ => by
        simp only [List.getElem?_toArray, pieces, Nat.add_comm 1 j, List.getElem?_cons_succ, Nat.zero_add]) (by simpa using hsum)
      rw [hs] at hfill
      have hps : (ps.toArray.map fun x => (x.1, ρ x.2)).toList = (vs.zipIdx 1).map fun x => (x.2, x.1) := by simpa using hv
      simp only [execOp, ho, Instr.build, Sem.run_bind, hzv, Result.andThen_ok, run_underlying hun, hplaces, hps, Value.cells]
      simp only [hfill]
      rfl
    | _ => cases ht
theorem _root_.Go.Rill.Mem.off3 {w0 w : World} {O : Nat → Prop} {L : List Ent} {Φ : World → Prop} {a b c : Ent} {j sz n : Nat} {t : TypeId} {v : Value} {xs : List Value} (M : Mem w0 O (a :: b :: c :: L) Φ w) (hj : (a :: b :: c :: L)[j]? = some (.row t sz v n xs)) (h3 : Nat.ble 3 j = true) : ∀ q, v.ownBlock = some q → ¬ feet [a, b, c] q := by
  rintro q hq ⟨e, he, hg⟩
  have h3 := Nat.le_of_ble_eq_true h3
  have nb : ∀ k, k < 3 → Nat.beq k j = false := fun k hk => by
    cases hb : Nat.beq k j with
    | false => rfl
    | true => have := Nat.eq_of_beq_eq_true hb; omega
  simp only [List.mem_cons, List.not_mem_nil, or_false] at he
  rcases he with rfl | rfl | rfl
  · exact M.off (i := 0) (j := j) rfl hj (nb 0 (by decide)) q hq hg
  · exact M.off (i := 1) (j := j) rfl hj (nb 1 (by decide)) q hq hg
  · exact M.off (i := 2) (j := j) rfl hj (nb 2 (by decide)) q hq hg
theorem sealS_len (ks : List NKey) (e n : Int) (h p : List UInt8) : (sealS ks e n h p).length ≤ ks.length + 1 := by
  unfold sealS
  split
  · exact sealKs_len _ _
  · omega
theorem data_step {m : Int} {k i : Nat} {L : Lg} {es : List Ety} (h : L.sl < 31) : Lg.data m (k + 1) i L es = Lg.data m k (i + 1) (L.put 4 (dataB m i)) (es ++ [⟨1, (i : Int), L.sl, L.sum 4 (dataB m i)⟩]) := by simp only [Lg.data, if_pos h]
theorem data_stop {m : Int} {k i : Nat} {L : Lg} {es : List Ety} (h : ¬ L.sl < 31) : Lg.data m (k + 1) i L es = (L, es) := by simp only [Lg.data, if_neg h]
theorem smyB_len {s : Smy} (h1 : s.Ok) (h2 : checkS s = 0) : (smyB s).length ≤ 975 := by
  obtain ⟨h16, _⟩ := checkS_in h2
  have := entB_len h1.2
  rw [smyB_eq]
  simp [be8_len, h1.1]
  omega
theorem begun_row {L : Lg} {e : TypeId} {v' : Value} : [Ent.row e 34 v' (L.froms.length + 1) (askC L.froms ++ askV (L.sg, L.sl, L.prev))] = [Ent.row e 34 v' L.begun.froms.length (askC L.begun.froms)] := by
  rw [show L.begun.froms = L.froms ++ [(L.sg, L.sl, L.prev)] from rfl, ask_snoc, List.length_append]
  rfl
theorem sz39 {n k : Nat} (h : n = 39) (hk : Nat.ble k 39 = true) : Nat.ble k n = true := h ▸ hk
theorem sz39b {n k : Nat} (h : n = 39) (hk : Nat.blt k 39 = true) : Nat.blt k n = true := h ▸ hk
theorem _root_.Go.Rill.Reads.ecs1 {w : World} {v : Value} {es : List Ety} {e : Ety} (h : Reads 35 w v (es.length + 1) (ecs es ++ e.cells)) : Reads 35 w v (es ++ [e]).length (ecs (es ++ [e])) := by
  rw [ecs_append, ecs_one, List.length_append]
  exact h
theorem logPut_l {D : DV} {N : NV} {g a gl : Nat} {L : Lg} {kd : Int} {lf lsm pv : Value} {pl : List UInt8} {w0 : World} (H : Has w0 [.blk gl (.cells (lgc g a L.sg L.sl L.prev lf lsm L.n).toArray 34), dkE D, nmE N]) (hLg : LgIs D N g a L) (hp : L.prev.length = 32) (hsg : 0 ≤ L.sg ∧ L.sg ≤ 19) (hsl : 0 ≤ L.sl ∧ L.sl ≤ 31) (hn : 0 ≤ L.n ∧ L.n ≤ 1000) (hkd : 1 ≤ kd ∧ kd ≤ 5) (hb : Bytes w0 pv pl) (hf : ∀ q, pv.ownBlock = some q → ¬ feet [.blk gl (.cells (lgc g a L.sg L.sl L.prev lf lsm L.n).toArray 34), dkE D, nmE N] q) (hpl : pl.length ≤ 975) (hkz : L.ks.length ≤ 100000) (htz : L.ts.length ≤ 100000) :
    Does Try.prog 34 [.pointer (some ⟨gl, 0, none⟩), .int .i64 kd, pv] w0 [.blk gl (.cells (lgc g a L.sg L.sl L.prev lf lsm L.n).toArray 34), dkE D, nmE N] (fun _ : DV × NV => .agg (bc (L.sum kd pl)).toArray) (fun x => [.blk gl (.cells (lgc g a (L.put kd pl).sg (L.put kd pl).sl (L.put kd pl).prev lf lsm (L.put kd pl).n).toArray 34), dkE x.1, nmE x.2]) (fun x => LgIs x.1 x.2 g a (L.put kd pl)) := by
  obtain ⟨A, ks, ts, sg, sl, prev, n, froms, sums⟩ := L
  obtain ⟨hD, rfl, hk, ht⟩ := hLg
  have hk : N.ks = ks := hk
  have ht : N.ts = ts := ht
  subst hk
  subst ht
  exact (logPut_x (D := D) (N := N) (g := g) (A := A) H hD hp hsg hsl hn hkd hb hf hpl (by have := hkz; simp only at this; omega) (by have := htz; simp only at this; omega))

abbrev lgE (gl g a : Nat) (L : Lg) (X0 : LX) : List Ent := [.blk gl (.cells (lgc g a L.sg L.sl L.prev X0.lf X0.lsm L.n).toArray 34), dkE X0.D, nmE X0.N, .row 36 34 X0.lf L.froms.length (askC L.froms), .row 39 35 X0.lsm X0.qs.length (smC X0.qs), .rows 35 (X0.qs.map rowQ).reverse]
theorem close_row {gl g a : Nat} {L : Lg} {s : Smy} {lf lsm ev : Value} {qs : List (Smy × Value)} {D : DV} {N : NV} : lgE gl g a (L.close s) ⟨lf, lsm, qs ++ [(s, ev)], D, N⟩ = [.blk gl (.cells (lgc g a (if 0 ≤ s.next then s.next else L.sg) (if 0 ≤ s.next then 0 else L.sl + 1) (L.sum 3 (smyB s)) lf lsm (L.put 3 (smyB s)).n).toArray 34), dkE D, nmE N, .row 36 34 lf L.froms.length (askC L.froms), .row 39 35 lsm (qs.length + 1) (smC qs ++ s.cells ev), .rows 35 ((ev, ecs s.es) :: (qs.map rowQ).reverse)] := by
  simp [lgE, Lg.close, Lg.put, sm_snoc, rowQ]

set_option maxHeartbeats 1000000 in
set_option maxRecDepth 100000 in
theorem batch_t {gl g a m : Nat} {L : Lg} {X0 : LX} {w0 : World} (H : Has w0 (lgE gl g a L X0)) (hLg : LgIs X0.D X0.N g a L) (hqs : X0.qs.map (·.1) = L.sums) (hm : m ≤ 15) (hp : L.prev.length = 32) (hsg : 0 ≤ L.sg ∧ L.sg ≤ 18) (hsl : 0 ≤ L.sl ∧ L.sl ≤ 31) (hn : 0 ≤ L.n ∧ L.n ≤ 900) (hkz : L.ks.length ≤ 50000) (htz : L.ts.length ≤ 50000) (hfz : L.froms.length ≤ 100) (hqz : X0.qs.length ≤ 100) (hchk : checkS (Lg.smy L.prev true (Lg.data m m 0 L.begun [])) = 0) : Does Try.prog 22 [.pointer (some ⟨gl, 0, none⟩), .int .i64 (m : Int), .bool true] w0 (lgE gl g a L X0) (fun _ : LX => .tuple #[]) (fun y => lgE gl g a (L.batch m true) y) (fun y => LgIs y.D y.N g a (L.batch m true) ∧ y.qs.map (·.1) = (L.batch m true).sums) := by
  refine enter (n := 119) Try.func22 rfl rfl rfl ?_
  intro fr E
  obtain ⟨R, hRd⟩ : ∃ R, Lg.data m m 0 L.begun [] = R := ⟨_, rfl⟩
  rw [hRd] at hchk
  have M : Mem w0 (feet (lgE gl g a L X0)) [.blk gl (.cells (lgc g a L.sg L.sl L.prev X0.lf X0.lsm L.n).toArray 34), dkE X0.D, nmE X0.N, .row 36 34 X0.lf L.froms.length (askC L.froms), .row 39 35 X0.lsm X0.qs.length (smC X0.qs), .rows 35 (X0.qs.map rowQ).reverse] (fun _ => True) w0 := Mem.begin H (fun _ _ => trivial)
  refine code_region ?_
  refine mv E fun fr E => ?_
  refine sw E (run_nilCheck rfl rfl) fun fr E => ?_
  refine sw (v := .pointer (some ⟨_, 4, none⟩)) E (run_fieldAddr rfl rfl T.fld34_3) fun fr E => ?_
  refine sw (v := .agg (bc L.prev).toArray) E (run_loadN' (vs := (bc L.prev).toArray) rfl rfl T.agg28 (M.row (i := 0) rfl) (sz39 (lgc_size hp) rfl) (congrArg List.toArray (lgc_prev hp))) fun fr E => ?_
  refine sw (v := .agg (Smy.cells ⟨0, L.prev, (-1), []⟩ (.slice none 0 0)).toArray) E (run_buildG (s0 := 1) (pre := [.int .i64 0]) (vs := [.agg (bc L.prev).toArray, .int .i64 (-1)]) (us := (Smy.cells ⟨0, L.prev, (-1), []⟩ (.slice none 0 0))) rfl rfl T.ts39 T.zeroL39 rfl (by simp [Value.cells, hp]) rfl rfl (by simp [Value.cells, Smy.cells, iv])) fun fr E => ?_
  refine snew (ob := .cells _ 39) (fun g => .pointer (some ⟨g, 0, none⟩)) E M rfl rfl rfl rfl rfl (run_allocN rfl T.zero39) fun g0 fr w M E => ?_
  refine sset (i := 0) (cs' := (Smy.cells ⟨0, L.prev, (-1), []⟩ (.slice none 0 0)).toArray) E M rfl rfl rfl rfl rfl (run_storeAll (vs := (Smy.cells ⟨0, L.prev, (-1), []⟩ (.slice none 0 0)).toArray) rfl rfl rfl T.size39 (smc_size hp) (M.row (i := 0) rfl) rfl (fun u hu => smc_one rfl u (by simpa using hu))) rfl fun fr w M E => ?_
  refine seq_nil' ?_
  have M := M.pull 4 rfl
  have M : Mem _ _ ([.row 36 34 X0.lf L.froms.length (askC L.froms)] ++ _) _ _ := M
  refine wp_seq (free_lastR (B := T.tab22_1_b) (Vs := (.exact _ :: .exact _ :: .exact _ :: .exact (.pointer (some ⟨_, 36, none⟩)) :: .exact (X0.lf) :: .exact _ :: .exact _ :: .exact (.pointer (some ⟨_, 2, none⟩)) :: .exact (.agg #[.int .i64 L.sg, .int .i64 L.sl]) :: .exact _ :: .exact _ :: .exact (.pointer (some ⟨_, 4, none⟩)) :: .exact (.agg (bc L.prev).toArray) :: .exact (.agg ((askV (L.sg, L.sl, L.prev))).toArray) :: NewR w.heap.size 34 1 (askV (L.sg, L.sl, L.prev)) :: CameI w.heap.size ([.row 36 34 X0.lf L.froms.length (askC L.froms)]) (fun v : Value => v) ((fun v' : Value => [Ent.row 36 34 v' L.begun.froms.length (askC L.begun.froms)])) (fun _ => True) :: .exact _ :: .exact (.pointer (some ⟨_, 36, none⟩)) :: [])) (ownRoad (oneFs 15 ([.row 36 34 X0.lf L.froms.length (askC L.froms)])) w.drew) T.tab22_1_j 18 E T.mixed T.tab22_1 rfl rfl rfl ?_ ⟨fr_val rfl rfl M (fun i g h => h.2) (fun x w' M' hB hk => ⟨_, _, rfl, rfl, rfl, run_move rfl rfl, Ext.refl _, rfl⟩),
      fr_val rfl rfl M (fun i g h => h.2) (fun x w' M' hB hk => ⟨_, _, rfl, rfl, rfl, run_move rfl rfl, Ext.refl _, rfl⟩),
      fr_val rfl rfl M (fun i g h => h.2) (fun x w' M' hB hk => ⟨_, _, rfl, rfl, rfl, run_nilCheck rfl rfl, Ext.refl _, rfl⟩),
      fr_val rfl rfl M (fun i g h => h.2) (fun x w' M' hB hk => ⟨_, _, rfl, rfl, rfl, run_fieldAddr rfl rfl T.fld34_4, Ext.refl _, rfl⟩),
      fr_val rfl rfl M (fun i g h => h.2) (fun x w' M' hB hk => ⟨_, _, rfl, rfl, rfl, run_loadB rfl rfl T.one31 (M'.row (i := 1) rfl) (lgc_lf hp), Ext.refl _, rfl⟩),
      fr_val rfl rfl M (fun i g h => h.2) (fun x w' M' hB hk => ⟨_, _, rfl, rfl, rfl, run_move rfl rfl, Ext.refl _, rfl⟩),
      fr_val rfl rfl M (fun i g h => h.2) (fun x w' M' hB hk => ⟨_, _, rfl, rfl, rfl, run_nilCheck rfl rfl, Ext.refl _, rfl⟩),
      fr_val rfl rfl M (fun i g h => h.2) (fun x w' M' hB hk => ⟨_, _, rfl, rfl, rfl, run_fieldAddr rfl rfl T.fld34_2, Ext.refl _, rfl⟩),
      fr_val rfl rfl M (fun i g h => h.2) (fun x w' M' hB hk => ⟨_, _, rfl, rfl, rfl, run_loadN' (vs := #[.int .i64 L.sg, .int .i64 L.sl]) rfl rfl T.agg26 (M'.row (i := 1) rfl) (sz39 (lgc_size hp) rfl) rfl, Ext.refl _, rfl⟩),
      fr_val rfl rfl M (fun i g h => h.2) (fun x w' M' hB hk => ⟨_, _, rfl, rfl, rfl, run_move rfl rfl, Ext.refl _, rfl⟩),
      fr_val rfl rfl M (fun i g h => h.2) (fun x w' M' hB hk => ⟨_, _, rfl, rfl, rfl, run_nilCheck rfl rfl, Ext.refl _, rfl⟩),
      fr_val rfl rfl M (fun i g h => h.2) (fun x w' M' hB hk => ⟨_, _, rfl, rfl, rfl, run_fieldAddr rfl rfl T.fld34_3, Ext.refl _, rfl⟩),
      fr_val rfl rfl M (fun i g h => h.2) (fun x w' M' hB hk => ⟨_, _, rfl, rfl, rfl, run_loadN' (vs := (bc L.prev).toArray) rfl rfl T.agg28 (M'.row (i := 1) rfl) (sz39 (lgc_size hp) rfl) (congrArg List.toArray (lgc_prev hp)), Ext.refl _, rfl⟩),
      fr_val rfl rfl M (fun i g h => h.2) (fun x w' M' hB hk => ⟨_, _, rfl, rfl, rfl, run_buildP (vs := [.agg #[.int .i64 L.sg, .int .i64 L.sl], .agg (bc L.prev).toArray]) (us := (askV (L.sg, L.sl, L.prev))) rfl rfl T.ts36 T.zeroL36 (by simp [Value.cells, hp]) rfl rfl (by simp [Value.cells, askV, iv]), Ext.refl _, rfl⟩),
      fr_rel rfl rfl M (fun i g h => h.2) (fun x w' M' hB hk => ⟨rfl, rfl, rfl, built1_fs (cs := (askV (L.sg, L.sl, L.prev))) hB rfl rfl (by simp [askV, hp]) T.slice31 T.size36 T.zl36 rfl rfl rfl⟩),
      fr_app (y := undef) rfl (by rw [show (fun v' : Value => [Ent.row 36 34 v' (L.froms.length + 1) (askC L.froms ++ (askV (L.sg, L.sl, L.prev)))]) = (fun v' : Value => [Ent.row 36 34 v' L.begun.froms.length (askC L.begun.froms)]) from funext fun v' => begun_row]; rfl) M rfl rfl rfl T.slice31 T.slice31 T.zt36 T.by36 (by decide) askV_one (by omega) (fun x w' hk => ⟨rfl, rfl, rfl, rfl, _, rfl, (hk 14 rfl).1⟩),
      fr_val rfl rfl M (fun i g h => h.2) (fun x w' M' hB hk => ⟨_, _, rfl, rfl, rfl, run_nilCheck rfl rfl, Ext.refl _, rfl⟩),
      fr_val rfl rfl M (fun i g h => h.2) (fun x w' M' hB hk => ⟨_, _, rfl, rfl, rfl, run_fieldAddr rfl rfl T.fld34_4, Ext.refl _, rfl⟩), trivial⟩ ?_)
  · exact one_okW rfl ((allY_ex (allY_ex (allY_ex (allY_ex (allY_ex (allY_ex (allY_ex (allY_ex (allY_ex (allY_ex (allY_ex (allY_ex (allY_ex (allY_ex (allY_any (LastsR.newR (fun g h => M.old g h)) (allY_in rfl LastsR.came1 (allY_ex (allY_ex allY_nil)))))))))))))))))))
  intro x fr w ⟨b, hb, hI⟩ hk E
  obtain ⟨lf', hy, -, M⟩ := M.behind (val := fun v : Value => v) (outs := (fun v' : Value => [Ent.row 36 34 v' L.begun.froms.length (askC L.begun.froms)])) (p := fun _ => True) hI (hk 15 (by decide))
  have E := Env.say (t := 32) E rfl hy
  refine last_set (i := 2) (cs' := (lgc g a L.sg L.sl L.prev lf' X0.lsm L.n).toArray) E M rfl rfl rfl rfl rfl rfl (run_store1' (v := _) rfl rfl rfl T.size31 (M.row (i := 2) rfl) (sz39b (lgc_size hp) rfl) (Reads.oneR (M.reads 0 rfl)) (congrArg List.toArray (lgc_setlf hp lf'))) rfl fun fr w M E => ?_
  refine then_normal ?_
  refine code_cut (fun fr w => ∃ (L' : Lg) (es : List Ety) (ev : Value) (D : DV) (N : NV), LgIs D N g a L' ∧ (EOk es ∧ es.length ≤ m) ∧ (L'.prev = L.prev ∧ L'.sg = L.sg ∧ L'.froms = L.begun.froms ∧ L'.sums = L.sums) ∧ (0 ≤ L'.sl ∧ L'.sl ≤ 31) ∧ (0 ≤ L'.n ∧ L'.n ≤ L.n + 15) ∧ L'.ks.length ≤ L.ks.length + 15 ∧ L'.ts.length ≤ L.ts.length + 15 ∧ R = (L', es) ∧ Env [(6, .pointer (some ⟨g0, 0, none⟩)), (2, .bool true), (0, .pointer (some ⟨gl, 0, none⟩))] 119 fr ∧ Mem w0 (feet (lgE gl g a L X0)) [.row 83 35 ev es.length (ecs es), .blk gl (.cells (lgc g a L'.sg L'.sl L'.prev lf' X0.lsm L'.n).toArray 34), dkE D, nmE N, .row 36 34 lf' L.begun.froms.length (askC L.begun.froms), .row 39 35 X0.lsm X0.qs.length (smC X0.qs), .rows 35 (X0.qs.map rowQ).reverse, .blk g0 (.cells (Smy.cells ⟨0, L.prev, (-1), []⟩ ev).toArray 39)] (fun _ => True) w) ?_ ?_
  · refine code_region ?_
    refine sw E (run_assignC rfl) fun fr E => ?_
    refine seq_nil' ?_
    refine wp_block ?_
    refine loop_dec (fun d fr w => ∃ (i : Nat) (L' : Lg) (es : List Ety) (ev : Value) (D : DV) (N : NV), d = m - i ∧ i ≤ m ∧ LgIs D N g a L' ∧ (EOk es ∧ es.length ≤ i) ∧ (L'.prev = L.prev ∧ L'.sg = L.sg ∧ L'.froms = L.begun.froms ∧ L'.sums = L.sums) ∧ (0 ≤ L'.sl ∧ L'.sl ≤ 31) ∧ (0 ≤ L'.n ∧ L'.n ≤ L.n + i) ∧ L'.ks.length ≤ L.ks.length + i ∧ L'.ts.length ≤ L.ts.length + i ∧ Lg.data m (m - i) i L' es = R ∧ Env [(7, .int .i64 (i : Int)), (6, .pointer (some ⟨g0, 0, none⟩)), (2, .bool true), (1, .int .i64 (m : Int)), (0, .pointer (some ⟨gl, 0, none⟩))] 119 fr ∧ Mem w0 (feet (lgE gl g a L X0)) [.row 83 35 ev es.length (ecs es), .blk gl (.cells (lgc g a L'.sg L'.sl L'.prev lf' X0.lsm L'.n).toArray 34), dkE D, nmE N, .row 36 34 lf' L.begun.froms.length (askC L.begun.froms), .row 39 35 X0.lsm X0.qs.length (smC X0.qs), .rows 35 (X0.qs.map rowQ).reverse, .blk g0 (.cells (Smy.cells ⟨0, L.prev, (-1), []⟩ ev).toArray 39)] (fun _ => True) w) (m) ?_ ?_
    · have M := M.pull 1 rfl
      have M := M.pull 6 rfl
      have M := M.pull 6 rfl
      have M := M.pull 3 rfl
      have M := M.pull 6 rfl
      have M := M.pull 6 rfl
      have M := M.pull 6 rfl
      have M := M.nilRowF 83 35
      exact ⟨0, L.begun, [], _, X0.D, X0.N, rfl, Nat.zero_le _, hLg, ⟨fun e he => (nomatch he), Nat.le_refl _⟩, ⟨rfl, rfl, rfl, rfl⟩, hsl, ⟨hn.1, by show L.n ≤ _; omega⟩, Nat.le_refl _, Nat.le_refl _, hRd, (((((Env.nil E).add E (t := 0) rfl).add E (t := 1) rfl).add E (t := 2) rfl).add E (t := 6) rfl).add E (t := 7) rfl, Mem.take (L := [.row 83 35 _ ([] : List Ety).length (ecs ([] : List Ety)), .blk gl (.cells (lgc g a L.begun.sg L.begun.sl L.begun.prev lf' X0.lsm L.begun.n).toArray 34), dkE X0.D, nmE X0.N, .row 36 34 lf' L.begun.froms.length (askC L.begun.froms), .row 39 35 X0.lsm X0.qs.length (smC X0.qs), .rows 35 (X0.qs.map rowQ).reverse, .blk g0 (.cells (Smy.cells ⟨0, L.prev, (-1), []⟩ _).toArray 39)]) M⟩
    · clear E M
      rintro d fr w ⟨i, L', es, ev, D, N, rfl, hle, hLg, ⟨heso, hel⟩, ⟨hpv, hsgv, hfv, hsmv⟩, hsl', hnn, hkz', htz', hR, E, M⟩
      by_cases hi : i < m
      · by_cases h31 : L'.sl < 31
        · have hp' : L'.prev.length = 32 := by rw [hpv]; exact hp
          have hfu : m - i = (m - (i + 1)) + 1 := by omega
          rw [hfu] at hR
          have hsb := textKs_len1 L'.ts (L'.b 4 (dataB m i))
          have hkb := sealS_len L'.ks 7 (L'.n + 1) (hdB 4 (3 + L'.sg * 32 + L'.sl)) (dataB m i)
          have heo : (⟨1, (i : Int), L'.sl, L'.sum 4 (dataB m i)⟩ : Ety).Ok := sumOf_len _
          refine wp_seq ?_
          refine code_region ?_
          refine mv E fun fr E => ?_
          refine mv E fun fr E => ?_
          refine sw (v := .bool true) E (tst rfl (decide_eq_true (by omega))) fun fr E => ?_
          refine mv E fun fr E => ?_
          refine mv E fun fr E => ?_
          refine sw E (run_nilCheck rfl rfl) fun fr E => ?_
          refine sw (v := .pointer (some ⟨_, 2, none⟩)) E (run_fieldAddr rfl rfl T.fld34_2) fun fr E => ?_
          refine sw (v := .pointer (some ⟨_, 3, none⟩)) E (run_fieldAddr rfl rfl T.fld26_1) fun fr E => ?_
          refine sw (v := .int .i64 L'.sl) E (run_loadB rfl rfl T.one3 (M.row (i := 1) rfl) rfl) fun fr E => ?_
          refine sw (v := .bool true) E (tst rfl (decide_eq_true h31)) fun fr E => ?_
          refine sw (v := .bool _) E (rfl) fun fr E => ?_
          refine seq_nil' ?_
          refine cond_true E rfl (rfl) ?_
          refine wp_skip ?_
          refine then_normal ?_
          refine wp_seq ?_
          refine wp_block ?_
          refine code_region ?_
          refine mv E fun fr E => ?_
          refine sw E (run_nilCheck rfl rfl) fun fr E => ?_
          refine sw (v := .pointer (some ⟨_, 2, none⟩)) E (run_fieldAddr rfl rfl T.fld34_2) fun fr E => ?_
          refine sw (v := .pointer (some ⟨_, 3, none⟩)) E (run_fieldAddr rfl rfl T.fld26_1) fun fr E => ?_
          refine sw (v := .int .i64 L'.sl) E (run_loadB rfl rfl T.one3 (M.row (i := 1) rfl) rfl) fun fr E => ?_
          refine ma E fun fr E => ?_
          refine seq_nil' ?_
          refine code_region ?_
          refine mv E fun fr E => ?_
          refine mv E fun fr E => ?_
          refine sw (v := .int _ (((UInt8.ofInt (i : Int)).toNat : Int))) E (num rfl ((ofInt_toNat _).symm)) fun fr E => ?_
          refine mv E fun fr E => ?_
          refine sw (v := .int _ (((UInt8.ofInt (m : Int)).toNat : Int))) E (num rfl ((ofInt_toNat _).symm)) fun fr E => ?_
          refine srow (sz := 1) (xs := (bc (dataB (m : Int) i))) E M rfl rfl rfl rfl rfl (run_buildSliceA (us := (bc (dataB (m : Int) i))) (vs := [_, _]) rfl rfl rfl T.slice54 T.size5 T.zl5 rfl rfl rfl rfl rfl) (rfl) (Nat.le_refl _) (by decide) (rfl) fun pl fr w M E => ?_
          have M := M.pull 4 rfl
          have M := M.pull 4 rfl
          have M := M.pull 4 rfl
          refine scallI ([.blk gl (.cells (lgc g a L'.sg L'.sl L'.prev lf' X0.lsm L'.n).toArray 34), dkE D, nmE N]) E M rfl rfl rfl rfl rfl (run_call rfl rfl T.fn34) rfl (fun H => logPut_l (L := L') H hLg hp' ⟨by omega, by omega⟩ hsl' ⟨by omega, by omega⟩ (by decide) (M.bytes (l := dataB m i) 3 rfl) (Mem.off3 (L := _) M (j := 3) rfl rfl) (show 2 ≤ 975 by decide) (by omega) (by omega)) ?_
          rintro ⟨D2, N2⟩ fr w hI2 M E
          refine snew (ob := .cells _ 28) (fun g => .pointer (some ⟨g, 0, none⟩)) E M rfl rfl rfl rfl rfl (run_allocN rfl T.zero28) fun g20 fr w M E => ?_
          refine sset (i := 0) (cs' := (bc (L'.sum 4 (dataB m i))).toArray) E M rfl rfl rfl rfl rfl (run_storeAll (vs := (bc (L'.sum 4 (dataB m i))).toArray) rfl rfl rfl T.size28 (by simp [Lg.sum, sumOf_len]) (M.row (i := 0) rfl) rfl (fun v hv => bc_one v (by simpa using hv))) rfl fun fr w M E => ?_
          refine seq_nil' ?_
          refine code_last ?_
          refine sw (v := .pointer (some ⟨_, 34, none⟩)) E (run_fieldAddr rfl rfl T.fld39_3) fun fr E => ?_
          refine sw (v := ev) E (run_loadB rfl rfl T.one37 (M.row (i := 9) rfl) (smc_v hp)) fun fr E => ?_
          refine mv E fun fr E => ?_
          refine mv E fun fr E => ?_
          refine sw (v := .agg (bc (L'.sum 4 (dataB m i))).toArray) E (run_loadAll rfl rfl T.agg28 (M.row (i := 0) rfl) (by simp [Lg.sum, sumOf_len])) fun fr E => ?_
          refine sw (v := .agg ((⟨1, (i : Int), L'.sl, L'.sum 4 (dataB m i)⟩ : Ety).cells).toArray) E (run_buildP (vs := [.int .i64 1, .int .i64 (i : Int), .int .i64 L'.sl, .agg (bc (L'.sum 4 (dataB m i))).toArray]) (us := (⟨1, (i : Int), L'.sl, L'.sum 4 (dataB m i)⟩ : Ety).cells) rfl rfl T.ts83 T.zeroL83 (by simp [Value.cells, Lg.sum, sumOf_len]) rfl rfl (by simp [Ety.cells, Value.cells, iv])) fun fr E => ?_
          refine srow (sz := 35) (xs := (⟨1, (i : Int), L'.sl, L'.sum 4 (dataB m i)⟩ : Ety).cells) E M rfl rfl rfl rfl rfl (run_buildSliceA (us := (⟨1, (i : Int), L'.sl, L'.sum 4 (dataB m i)⟩ : Ety).cells) (vs := [.agg (⟨1, (i : Int), L'.sl, L'.sum 4 (dataB m i)⟩ : Ety).cells.toArray]) rfl rfl rfl T.slice37 T.size83 T.zl83 rfl (by simp [Value.cells, Ety.len heo]) rfl rfl (by simp [Value.cells])) (by simp [Ety.len heo]) (Nat.le_refl _) (by decide) (rfl) fun nr fr w M E => ?_
          refine sapp (i := 6) E M rfl rfl rfl rfl rfl rfl rfl rfl rfl rfl rfl T.slice37 T.slice37 T.zt83 T.by83 (by decide) (M.reads 0 rfl) (fun u hu => Ety.ones _ u (by simpa using hu)) (by omega) fun ev fr w M E => ?_
          refine sw (v := .pointer (some ⟨_, 34, none⟩)) E (run_fieldAddr rfl rfl T.fld39_3) fun fr E => ?_
          refine sset (i := 10) (cs' := (Smy.cells ⟨0, L.prev, (-1), []⟩ ev).toArray) E M rfl rfl rfl rfl rfl (run_store1' (v := _) rfl rfl rfl T.size37 (M.row (i := 10) rfl) (by rw [smc_size hp]; rfl) (Reads.oneR (M.reads 6 rfl)) (congrArg List.toArray (smc_es hp))) rfl fun fr w M E => ?_
          refine seq_nil ?_
          refine block_normal ?_
          refine then_normal ?_
          refine code_last ?_
          refine mv E fun fr E => ?_
          refine sw (v := .int _ (((i + 1 : Nat) : Int))) E (num rfl ((i64_id (by omega) (by omega)).trans (by omega))) fun fr E => ?_
          refine ma E fun fr E => ?_
          refine seq_nil ?_
          refine then_any ?_
          have M := M.pull 10 rfl
          have M := M.pull 10 rfl
          have M := M.pull 10 rfl
          have M := M.pull 10 rfl
          have M := M.pull 8 rfl
          have M := M.pull 8 rfl
          have M := M.pull 8 rfl
          have M := M.pull 10 rfl
          exact ⟨m - (i + 1), by omega, i + 1, (L'.put 4 (dataB m i)), es ++ [(⟨1, (i : Int), L'.sl, L'.sum 4 (dataB m i)⟩ : Ety)], ev, D2, N2, rfl, by omega, hI2, ⟨heso.snoc heo, by simp; omega⟩, ⟨hpv, hsgv, hfv, hsmv⟩, ⟨by show 0 ≤ L'.sl + 1; omega, by show L'.sl + 1 ≤ 31; omega⟩, ⟨by show 0 ≤ L'.n + 1; omega, by show L'.n + 1 ≤ _; omega⟩, Nat.le_trans hkb (by omega), Nat.le_trans hsb (by omega), by rw [← hR, data_step h31], (((((Env.nil E).add E (t := 0) rfl).add E (t := 1) rfl).add E (t := 2) rfl).add E (t := 6) rfl).add E (t := 7) rfl, (Mem.take (L := [.row 83 35 ev (es.length + 1) (ecs es ++ (⟨1, (i : Int), L'.sl, L'.sum 4 (dataB m i)⟩ : Ety).cells), .blk gl (.cells (lgc g a (L'.put 4 (dataB m i)).sg (L'.put 4 (dataB m i)).sl (L'.put 4 (dataB m i)).prev lf' X0.lsm (L'.put 4 (dataB m i)).n).toArray 34), dkE D2, nmE N2, .row 36 34 lf' L.begun.froms.length (askC L.begun.froms), .row 39 35 X0.lsm X0.qs.length (smC X0.qs), .rows 35 (X0.qs.map rowQ).reverse, .blk g0 (.cells (Smy.cells ⟨0, L.prev, (-1), []⟩ ev).toArray 39)]) M).as (by simp [ecs_append, ecs_one])⟩
        · have hfu : m - i = (m - (i + 1)) + 1 := by omega
          have hRe : R = (L', es) := by rw [← hR, hfu, data_stop h31]
          have hp' : L'.prev.length = 32 := by rw [hpv]; exact hp
          refine wp_seq ?_
          refine code_region ?_
          refine mv E fun fr E => ?_
          refine mv E fun fr E => ?_
          refine sw (v := .bool true) E (tst rfl (decide_eq_true (by omega))) fun fr E => ?_
          refine mv E fun fr E => ?_
          refine mv E fun fr E => ?_
          refine sw E (run_nilCheck rfl rfl) fun fr E => ?_
          refine sw (v := .pointer (some ⟨_, 2, none⟩)) E (run_fieldAddr rfl rfl T.fld34_2) fun fr E => ?_
          refine sw (v := .pointer (some ⟨_, 3, none⟩)) E (run_fieldAddr rfl rfl T.fld26_1) fun fr E => ?_
          refine sw (v := .int .i64 L'.sl) E (run_loadB rfl rfl T.one3 (M.row (i := 1) rfl) rfl) fun fr E => ?_
          refine sw (v := .bool false) E (tst rfl (decide_eq_false h31)) fun fr E => ?_
          refine sw (v := .bool _) E (rfl) fun fr E => ?_
          refine seq_nil' ?_
          refine cond_false E rfl (rfl) ?_
          refine wp_exit ?_
          refine then_exit ?_
          refine then_exit ?_
          refine block_exit ?_
          refine then_any ?_
          have M := M.pull 7 rfl
          have M := M.pull 7 rfl
          have M := M.pull 7 rfl
          have M := M.pull 7 rfl
          have M := M.pull 7 rfl
          have M := M.pull 7 rfl
          have M := M.pull 7 rfl
          have M := M.pull 7 rfl
          exact ⟨L', es, ev, D, N, hLg, ⟨heso, by omega⟩, ⟨hpv, hsgv, hfv, hsmv⟩, hsl', ⟨hnn.1, by omega⟩, by omega, by omega, hRe, (((Env.nil E).add E (t := 0) rfl).add E (t := 2) rfl).add E (t := 6) rfl, Mem.take (L := [.row 83 35 ev es.length (ecs es), .blk gl (.cells (lgc g a L'.sg L'.sl L'.prev lf' X0.lsm L'.n).toArray 34), dkE D, nmE N, .row 36 34 lf' L.begun.froms.length (askC L.begun.froms), .row 39 35 X0.lsm X0.qs.length (smC X0.qs), .rows 35 (X0.qs.map rowQ).reverse, .blk g0 (.cells (Smy.cells ⟨0, L.prev, (-1), []⟩ ev).toArray 39)]) M⟩
      · obtain rfl : i = m := by omega
        have hRe : R = (L', es) := by rw [← hR, Nat.sub_self]; rfl
        have hp' : L'.prev.length = 32 := by rw [hpv]; exact hp
        refine wp_seq ?_
        refine code_region ?_
        refine mv E fun fr E => ?_
        refine mv E fun fr E => ?_
        refine sw (v := .bool false) E (tst rfl (decide_eq_false (by omega))) fun fr E => ?_
        refine mv E fun fr E => ?_
        refine sno E rfl rfl rfl rfl fun fr E => ?_
        refine sno E rfl rfl rfl rfl fun fr E => ?_
        refine sno E rfl rfl rfl rfl fun fr E => ?_
        refine sno E rfl rfl rfl rfl fun fr E => ?_
        refine sno E rfl rfl rfl rfl fun fr E => ?_
        refine sno E rfl rfl rfl rfl fun fr E => ?_
        refine sw (v := .bool _) E (rfl) fun fr E => ?_
        refine seq_nil' ?_
        refine cond_false E rfl (rfl) ?_
        refine wp_exit ?_
        refine then_exit ?_
        refine then_exit ?_
        refine block_exit ?_
        refine then_any ?_
        have M := M.pull 7 rfl
        have M := M.pull 7 rfl
        have M := M.pull 7 rfl
        have M := M.pull 7 rfl
        have M := M.pull 7 rfl
        have M := M.pull 7 rfl
        have M := M.pull 7 rfl
        have M := M.pull 7 rfl
        exact ⟨L', es, ev, D, N, hLg, ⟨heso, by omega⟩, ⟨hpv, hsgv, hfv, hsmv⟩, hsl', ⟨hnn.1, by omega⟩, by omega, by omega, hRe, (((Env.nil E).add E (t := 0) rfl).add E (t := 2) rfl).add E (t := 6) rfl, Mem.take (L := [.row 83 35 ev es.length (ecs es), .blk gl (.cells (lgc g a L'.sg L'.sl L'.prev lf' X0.lsm L'.n).toArray 34), dkE D, nmE N, .row 36 34 lf' L.begun.froms.length (askC L.begun.froms), .row 39 35 X0.lsm X0.qs.length (smC X0.qs), .rows 35 (X0.qs.map rowQ).reverse, .blk g0 (.cells (Smy.cells ⟨0, L.prev, (-1), []⟩ ev).toArray 39)]) M⟩
  · rintro fr w ⟨L', es, ev, D, N, hLg, ⟨heso, hel⟩, ⟨hpv, hsgv, hfv, hsmv⟩, hsl', hnn, hkz', htz', hRe, E, M⟩
    have hp' : L'.prev.length = 32 := by rw [hpv]; exact hp
    by_cases h31 : L'.sl = 31
    · have hsx : Lg.smy L.prev true R = (⟨0, L.prev, (L'.sg + 1), (es ++ [trimE])⟩ : Smy) := by rw [hRe]; simp [Lg.smy, h31]
      have hck : checkS (⟨0, L.prev, (L'.sg + 1), (es ++ [trimE])⟩ : Smy) = 0 := by rw [← hsx]; exact hchk
      have hbt : L.batch m true = L'.close (⟨0, L.prev, (L'.sg + 1), (es ++ [trimE])⟩ : Smy) := by unfold Lg.batch; rw [hRd, hsx, hRe]
      have hso : Smy.Ok (⟨0, L.prev, (L'.sg + 1), (es ++ [trimE])⟩ : Smy) := ⟨hp, heso.snoc (by simp [trimE, Ety.Ok])⟩
      obtain ⟨h16, -⟩ := checkS_in hck
      have hsb := textKs_len1 L'.ts (L'.b 3 (smyB (⟨0, L.prev, (L'.sg + 1), (es ++ [trimE])⟩ : Smy)))
      have hpl : (smyB (⟨0, L.prev, (L'.sg + 1), (es ++ [trimE])⟩ : Smy)).length ≤ 975 := smyB_len hso hck
      refine wp_seq ?_
      refine code_region ?_
      refine mv E fun fr E => ?_
      refine seq_nil' ?_
      refine cond_true E rfl (rfl) ?_
      refine code_last ?_
      refine sw (v := .pointer (some ⟨_, 34, none⟩)) E (run_fieldAddr rfl rfl T.fld39_3) fun fr E => ?_
      refine sw (v := ev) E (run_loadB rfl rfl T.one37 (M.row (i := 7) rfl) (smc_v hp)) fun fr E => ?_
      refine sw (v := .agg (trimE.cells).toArray) E (run_buildP (vs := [.int .i64 2, .int .i64 3]) (us := trimE.cells) rfl rfl T.ts83 T.zeroL83 (rfl) rfl rfl (rfl)) fun fr E => ?_
      refine srow (sz := 35) (xs := trimE.cells) E M rfl rfl rfl rfl rfl (run_buildSliceA (us := trimE.cells) (vs := [.agg trimE.cells.toArray]) rfl rfl rfl T.slice37 T.size83 T.zl83 rfl rfl rfl rfl rfl) (rfl) (Nat.le_refl _) (by decide) (rfl) fun nr fr w M E => ?_
      refine sapp (i := 1) E M rfl rfl rfl rfl rfl rfl rfl rfl rfl rfl rfl T.slice37 T.slice37 T.zt83 T.by83 (by decide) (M.reads 0 rfl) (fun u hu => Ety.ones _ u (by simpa using hu)) (by omega) fun ev fr w M E => ?_
      refine sw (v := .pointer (some ⟨_, 34, none⟩)) E (run_fieldAddr rfl rfl T.fld39_3) fun fr E => ?_
      refine sset (i := 8) (cs' := (Smy.cells ⟨0, L.prev, (-1), []⟩ ev).toArray) E M rfl rfl rfl rfl rfl (run_store1' (v := _) rfl rfl rfl T.size37 (M.row (i := 8) rfl) (by rw [smc_size hp]; rfl) (Reads.oneR (M.reads 1 rfl)) (congrArg List.toArray (smc_es hp))) rfl fun fr w M E => ?_
      refine seq_nil ?_
      refine then_normal ?_
      refine wp_seq ?_
      refine code_region ?_
      refine mv E fun fr E => ?_
      refine sw E (run_nilCheck rfl rfl) fun fr E => ?_
      refine sw (v := .pointer (some ⟨_, 2, none⟩)) E (run_fieldAddr rfl rfl T.fld34_2) fun fr E => ?_
      refine sw (v := .pointer (some ⟨_, 3, none⟩)) E (run_fieldAddr rfl rfl T.fld26_1) fun fr E => ?_
      refine sw (v := .int .i64 L'.sl) E (run_loadB rfl rfl T.one3 (M.row (i := 2) rfl) rfl) fun fr E => ?_
      refine sw (v := .bool true) E (tst rfl (decide_eq_true h31)) fun fr E => ?_
      refine seq_nil' ?_
      refine cond_true E rfl (rfl) ?_
      refine code_last ?_
      refine mv E fun fr E => ?_
      refine sw E (run_nilCheck rfl rfl) fun fr E => ?_
      refine sw (v := .pointer (some ⟨_, 2, none⟩)) E (run_fieldAddr rfl rfl T.fld34_2) fun fr E => ?_
      refine sw (v := .pointer (some ⟨_, 2, none⟩)) E (run_fieldAddr rfl rfl T.fld26_0) fun fr E => ?_
      refine sw (v := .int .i64 L'.sg) E (run_loadB rfl rfl T.one3 (M.row (i := 2) rfl) rfl) fun fr E => ?_
      refine sw (v := .int _ (L'.sg + 1)) E (num rfl (i64_id (by omega) (by omega))) fun fr E => ?_
      refine sw (v := .pointer (some ⟨_, 33, none⟩)) E (run_fieldAddr rfl rfl T.fld39_2) fun fr E => ?_
      refine sset (i := 8) (cs' := (Smy.cells ⟨0, L.prev, (L'.sg + 1), []⟩ ev).toArray) E M rfl rfl rfl rfl rfl (run_store1' (v := _) rfl rfl rfl T.size3 (M.row (i := 8) rfl) (by rw [smc_size hp]; rfl) (rfl) (congrArg List.toArray (smc_nx hp))) rfl fun fr w M E => ?_
      refine seq_nil ?_
      refine then_normal ?_
      refine code_region ?_
      refine sw (v := .agg ((⟨0, L.prev, (L'.sg + 1), (es ++ [trimE])⟩ : Smy).cells ev).toArray) E (run_loadAll rfl rfl T.agg39 (M.row (i := 8) rfl) (smc_size hp)) fun fr E => ?_
      refine scall E M rfl rfl rfl rfl rfl (run_call rfl rfl T.fn35) (bPut_ok (s := (⟨0, L.prev, (L'.sg + 1), (es ++ [trimE])⟩ : Smy)) (v := ev) hso (Reads.ecs1 (M.reads 1 rfl)) hck h16) rfl ?_
      rintro pv fr w - M E
      refine mv E fun fr E => ?_
      refine sw E (run_extract rfl rfl rfl) fun fr E => ?_
      refine sw E (run_extract rfl rfl rfl) fun fr E => ?_
      refine ma E fun fr E => ?_
      refine ma E fun fr E => ?_
      refine seq_nil' ?_
      refine code_region ?_
      refine mv E fun fr E => ?_
      refine mv E fun fr E => ?_
      refine mv E fun fr E => ?_
      have M := M.pull 5 rfl
      have M := M.pull 5 rfl
      have M := M.pull 5 rfl
      refine scallI ([.blk gl (.cells (lgc g a L'.sg L'.sl L'.prev lf' X0.lsm L'.n).toArray 34), dkE D, nmE N]) E M rfl rfl rfl rfl rfl (run_call rfl rfl T.fn34) rfl (fun H => logPut_l (L := L') H hLg hp' ⟨by omega, by omega⟩ hsl' ⟨by omega, by omega⟩ (by decide) (M.bytes (l := smyB (⟨0, L.prev, (L'.sg + 1), (es ++ [trimE])⟩ : Smy)) 3 rfl) (Mem.off3 (L := _) M (j := 3) rfl rfl) hpl (by omega) (by omega)) ?_
      rintro ⟨D2, N2⟩ fr w hI2 M E
      refine sw E (run_nilCheck rfl rfl) fun fr E => ?_
      refine sw (v := .pointer (some ⟨_, 4, none⟩)) E (run_fieldAddr rfl rfl T.fld34_3) fun fr E => ?_
      refine sset (i := 0) (cs' := (lgc g a (L'.put 3 (smyB (⟨0, L.prev, (L'.sg + 1), (es ++ [trimE])⟩ : Smy))).sg (L'.put 3 (smyB (⟨0, L.prev, (L'.sg + 1), (es ++ [trimE])⟩ : Smy))).sl (L'.sum 3 (smyB (⟨0, L.prev, (L'.sg + 1), (es ++ [trimE])⟩ : Smy))) lf' X0.lsm (L'.put 3 (smyB (⟨0, L.prev, (L'.sg + 1), (es ++ [trimE])⟩ : Smy))).n).toArray) E M rfl rfl rfl rfl rfl (run_storeN' (vs := (bc (L'.sum 3 (smyB (⟨0, L.prev, (L'.sg + 1), (es ++ [trimE])⟩ : Smy)))).toArray) rfl rfl rfl T.size28 (by simp [Lg.sum, sumOf_len]) (M.row (i := 0) rfl) (sz39 (lgc_size hp') rfl) (by simp only [List.all_eq_true]; exact fun v hv => bc_one v (by simpa using hv)) (congrArg List.toArray (lgc_setp hp' (sumOf_len _)))) rfl fun fr w M E => ?_
      refine seq_nil' ?_
      have hev1 : ev.oneCell' = true := Reads.oneR (M.reads 5 rfl)
      have M := M.pull 7 rfl
      have M : Mem _ _ ([.row 39 35 X0.lsm X0.qs.length (smC X0.qs)] ++ _) _ _ := M
      refine wp_seq (free_lastR (B := T.tab22_14_b) (Vs := (.exact _ :: .exact _ :: .exact _ :: .exact (.pointer (some ⟨_, 37, none⟩)) :: .exact (X0.lsm) :: .exact (.agg ((⟨0, L.prev, (L'.sg + 1), (es ++ [trimE])⟩ : Smy).cells ev).toArray) :: NewR w.heap.size 35 1 ((⟨0, L.prev, (L'.sg + 1), (es ++ [trimE])⟩ : Smy).cells ev) :: CameI w.heap.size ([.row 39 35 X0.lsm X0.qs.length (smC X0.qs)]) (fun v : Value => v) ((fun v' : Value => [Ent.row 39 35 v' (X0.qs.length + 1) (smC X0.qs ++ (⟨0, L.prev, (L'.sg + 1), (es ++ [trimE])⟩ : Smy).cells ev)])) (fun _ => True) :: .exact _ :: .exact (.pointer (some ⟨_, 37, none⟩)) :: [])) (ownRoad (oneFs 7 ([.row 39 35 X0.lsm X0.qs.length (smC X0.qs)])) w.drew) T.tab22_14_j 10 E T.mixed T.tab22_14 rfl rfl rfl ?_ ⟨fr_val rfl rfl M (fun i g h => h.2) (fun x w' M' hB hk => ⟨_, _, rfl, rfl, rfl, run_move rfl rfl, Ext.refl _, rfl⟩),
      fr_val rfl rfl M (fun i g h => h.2) (fun x w' M' hB hk => ⟨_, _, rfl, rfl, rfl, run_move rfl rfl, Ext.refl _, rfl⟩),
      fr_val rfl rfl M (fun i g h => h.2) (fun x w' M' hB hk => ⟨_, _, rfl, rfl, rfl, run_nilCheck rfl rfl, Ext.refl _, rfl⟩),
      fr_val rfl rfl M (fun i g h => h.2) (fun x w' M' hB hk => ⟨_, _, rfl, rfl, rfl, run_fieldAddr rfl rfl T.fld34_5, Ext.refl _, rfl⟩),
      fr_val rfl rfl M (fun i g h => h.2) (fun x w' M' hB hk => ⟨_, _, rfl, rfl, rfl, run_loadB rfl rfl T.one32 (M'.row (i := 0) rfl) (lgc_lsm (sumOf_len _)), Ext.refl _, rfl⟩),
      fr_val rfl rfl M (fun i g h => h.2) (fun x w' M' hB hk => ⟨_, _, rfl, rfl, rfl, run_loadAll rfl rfl T.agg39 (M'.row (i := 8) rfl) (smc_size hp), Ext.refl _, rfl⟩),
      fr_rel rfl rfl M (fun i g h => h.2) (fun x w' M' hB hk => ⟨rfl, rfl, rfl, built1_fs (cs := (⟨0, L.prev, (L'.sg + 1), (es ++ [trimE])⟩ : Smy).cells ev) hB rfl rfl (Smy.len hso) T.slice32 T.size39 T.zl39 rfl rfl rfl⟩),
      fr_app (y := undef) rfl rfl M rfl rfl rfl T.slice32 T.slice32 T.zt39 T.by39 (by decide) (Smy.ones hev1) (by omega) (fun x w' hk => ⟨rfl, rfl, rfl, rfl, _, rfl, (hk 6 rfl).1⟩),
      fr_val rfl rfl M (fun i g h => h.2) (fun x w' M' hB hk => ⟨_, _, rfl, rfl, rfl, run_nilCheck rfl rfl, Ext.refl _, rfl⟩),
      fr_val rfl rfl M (fun i g h => h.2) (fun x w' M' hB hk => ⟨_, _, rfl, rfl, rfl, run_fieldAddr rfl rfl T.fld34_5, Ext.refl _, rfl⟩), trivial⟩ ?_)
      · exact one_okW rfl ((allY_ex (allY_ex (allY_ex (allY_ex (allY_ex (allY_ex (allY_any (LastsR.newR (fun g h => M.old g h)) (allY_in rfl LastsR.came1 (allY_ex (allY_ex allY_nil)))))))))))
      intro x fr w ⟨b, hb, hI⟩ hk E
      obtain ⟨lsm', hy, -, M⟩ := M.behind (val := fun v : Value => v) (outs := (fun v' : Value => [Ent.row 39 35 v' (X0.qs.length + 1) (smC X0.qs ++ (⟨0, L.prev, (L'.sg + 1), (es ++ [trimE])⟩ : Smy).cells ev)])) (p := fun _ => True) hI (hk 7 (by decide))
      have E := Env.say (t := 107) E rfl hy
      refine last_set (i := 1) (cs' := (lgc g a (L'.put 3 (smyB (⟨0, L.prev, (L'.sg + 1), (es ++ [trimE])⟩ : Smy))).sg (L'.put 3 (smyB (⟨0, L.prev, (L'.sg + 1), (es ++ [trimE])⟩ : Smy))).sl (L'.sum 3 (smyB (⟨0, L.prev, (L'.sg + 1), (es ++ [trimE])⟩ : Smy))) lf' lsm' (L'.put 3 (smyB (⟨0, L.prev, (L'.sg + 1), (es ++ [trimE])⟩ : Smy))).n).toArray) E M rfl rfl rfl rfl rfl rfl (run_store1' (v := _) rfl rfl rfl T.size32 (M.row (i := 1) rfl) (sz39b (lgc_size (sumOf_len _)) rfl) (Reads.oneR (M.reads 0 rfl)) (congrArg List.toArray (lgc_setlsm (sumOf_len _) lsm'))) rfl fun fr w M E => ?_
      refine then_normal ?_
      refine code_region ?_
      refine sw (v := .pointer (some ⟨_, 33, none⟩)) E (run_fieldAddr rfl rfl T.fld39_2) fun fr E => ?_
      refine sw (v := .int .i64 (L'.sg + 1)) E (run_loadB rfl rfl T.one3 (M.row (i := 9) rfl) (smc_n hp)) fun fr E => ?_
      refine sw (v := .bool true) E (tst rfl (decide_eq_true (by omega))) fun fr E => ?_
      refine seq_nil' ?_
      refine cond_true E rfl (rfl) ?_
      refine code_last ?_
      refine mv E fun fr E => ?_
      refine sw (v := .pointer (some ⟨_, 33, none⟩)) E (run_fieldAddr rfl rfl T.fld39_2) fun fr E => ?_
      refine sw (v := .int .i64 (L'.sg + 1)) E (run_loadB rfl rfl T.one3 (M.row (i := 9) rfl) (smc_n hp)) fun fr E => ?_
      refine sw (v := .agg (([.int .i64 (L'.sg + 1), .int .i64 0] : List Value)).toArray) E (run_buildP (vs := [.int .i64 (L'.sg + 1)]) (us := ([.int .i64 (L'.sg + 1), .int .i64 0] : List Value)) rfl rfl T.ts26 T.zeroL26 (rfl) rfl rfl (rfl)) fun fr E => ?_
      refine sw E (run_nilCheck rfl rfl) fun fr E => ?_
      refine sw (v := .pointer (some ⟨_, 2, none⟩)) E (run_fieldAddr rfl rfl T.fld34_2) fun fr E => ?_
      refine sset (i := 1) (cs' := (lgc g a (L'.sg + 1) 0 (L'.sum 3 (smyB (⟨0, L.prev, (L'.sg + 1), (es ++ [trimE])⟩ : Smy))) lf' lsm' (L'.put 3 (smyB (⟨0, L.prev, (L'.sg + 1), (es ++ [trimE])⟩ : Smy))).n).toArray) E M rfl rfl rfl rfl rfl (run_storeN' (vs := #[.int .i64 (L'.sg + 1), .int .i64 0]) rfl rfl rfl T.size26 rfl (M.row (i := 1) rfl) (sz39 (lgc_size (sumOf_len _)) rfl) rfl (congrArg List.toArray (lgc_setat (sumOf_len _)))) rfl fun fr w M E => ?_
      refine seq_nil ?_
      refine ret0 E rfl ?_
      have M := M.pull 7 rfl
      have M := M.pull 4 rfl
      have M := M.pull 4 rfl
      have M := M.pull 4 rfl
      have M := M.pull 8 rfl
      have M := M.pull 8 rfl
      have M := Mem.pourR (M.as (L' := Ent.row 83 35 ev (es.length + 1) (ecs (es ++ [trimE])) :: _) (by rw [ecs_append, ecs_one]; rfl)) (by decide)
      have M := (((((M.pull 5 rfl).pull 5 rfl).pull 5 rfl).pull 5 rfl).pull 5 rfl)
      have M := Mem.take (L := [.blk gl (.cells (lgc g a (L'.sg + 1) 0 (L'.sum 3 (smyB (⟨0, L.prev, (L'.sg + 1), (es ++ [trimE])⟩ : Smy))) lf' lsm' (L'.put 3 (smyB (⟨0, L.prev, (L'.sg + 1), (es ++ [trimE])⟩ : Smy))).n).toArray 34), dkE D2, nmE N2, .row 36 34 lf' L.begun.froms.length (askC L.begun.froms), .row 39 35 lsm' (X0.qs.length + 1) (smC X0.qs ++ (⟨0, L.prev, (L'.sg + 1), (es ++ [trimE])⟩ : Smy).cells ev), .rows 35 ((ev, ecs (es ++ [trimE])) :: (X0.qs.map rowQ).reverse)]) M
      rw [hbt]
      refine ⟨⟨lf', lsm', (X0.qs ++ [((⟨0, L.prev, (L'.sg + 1), (es ++ [trimE])⟩ : Smy), ev)]), D2, N2⟩, rfl, Mem.fin (M.as ?_) (.refl _) ⟨hI2, ?_⟩⟩
      · show _ = lgE gl g a (L'.close (⟨0, L.prev, (L'.sg + 1), (es ++ [trimE])⟩ : Smy)) ⟨lf', lsm', (X0.qs ++ [((⟨0, L.prev, (L'.sg + 1), (es ++ [trimE])⟩ : Smy), ev)]), D2, N2⟩; rw [close_row, hfv, if_pos (show (0 : Int) ≤ L'.sg + 1 by omega), if_pos (show (0 : Int) ≤ L'.sg + 1 by omega)]
      · simp [Lg.close, hqs, hsmv]
    · have hsx : Lg.smy L.prev true R = (⟨0, L.prev, (-1), (es ++ [trimE])⟩ : Smy) := by rw [hRe]; simp [Lg.smy, h31]
      have hck : checkS (⟨0, L.prev, (-1), (es ++ [trimE])⟩ : Smy) = 0 := by rw [← hsx]; exact hchk
      have hbt : L.batch m true = L'.close (⟨0, L.prev, (-1), (es ++ [trimE])⟩ : Smy) := by unfold Lg.batch; rw [hRd, hsx, hRe]
      have hso : Smy.Ok (⟨0, L.prev, (-1), (es ++ [trimE])⟩ : Smy) := ⟨hp, heso.snoc (by simp [trimE, Ety.Ok])⟩
      obtain ⟨h16, -⟩ := checkS_in hck
      have hsb := textKs_len1 L'.ts (L'.b 3 (smyB (⟨0, L.prev, (-1), (es ++ [trimE])⟩ : Smy)))
      have hpl : (smyB (⟨0, L.prev, (-1), (es ++ [trimE])⟩ : Smy)).length ≤ 975 := smyB_len hso hck
      refine wp_seq ?_
      refine code_region ?_
      refine mv E fun fr E => ?_
      refine seq_nil' ?_
      refine cond_true E rfl (rfl) ?_
      refine code_last ?_
      refine sw (v := .pointer (some ⟨_, 34, none⟩)) E (run_fieldAddr rfl rfl T.fld39_3) fun fr E => ?_
      refine sw (v := ev) E (run_loadB rfl rfl T.one37 (M.row (i := 7) rfl) (smc_v hp)) fun fr E => ?_
      refine sw (v := .agg (trimE.cells).toArray) E (run_buildP (vs := [.int .i64 2, .int .i64 3]) (us := trimE.cells) rfl rfl T.ts83 T.zeroL83 (rfl) rfl rfl (rfl)) fun fr E => ?_
      refine srow (sz := 35) (xs := trimE.cells) E M rfl rfl rfl rfl rfl (run_buildSliceA (us := trimE.cells) (vs := [.agg trimE.cells.toArray]) rfl rfl rfl T.slice37 T.size83 T.zl83 rfl rfl rfl rfl rfl) (rfl) (Nat.le_refl _) (by decide) (rfl) fun nr fr w M E => ?_
      refine sapp (i := 1) E M rfl rfl rfl rfl rfl rfl rfl rfl rfl rfl rfl T.slice37 T.slice37 T.zt83 T.by83 (by decide) (M.reads 0 rfl) (fun u hu => Ety.ones _ u (by simpa using hu)) (by omega) fun ev fr w M E => ?_
      refine sw (v := .pointer (some ⟨_, 34, none⟩)) E (run_fieldAddr rfl rfl T.fld39_3) fun fr E => ?_
      refine sset (i := 8) (cs' := (Smy.cells ⟨0, L.prev, (-1), []⟩ ev).toArray) E M rfl rfl rfl rfl rfl (run_store1' (v := _) rfl rfl rfl T.size37 (M.row (i := 8) rfl) (by rw [smc_size hp]; rfl) (Reads.oneR (M.reads 1 rfl)) (congrArg List.toArray (smc_es hp))) rfl fun fr w M E => ?_
      refine seq_nil ?_
      refine then_normal ?_
      refine wp_seq ?_
      refine code_region ?_
      refine mv E fun fr E => ?_
      refine sw E (run_nilCheck rfl rfl) fun fr E => ?_
      refine sw (v := .pointer (some ⟨_, 2, none⟩)) E (run_fieldAddr rfl rfl T.fld34_2) fun fr E => ?_
      refine sw (v := .pointer (some ⟨_, 3, none⟩)) E (run_fieldAddr rfl rfl T.fld26_1) fun fr E => ?_
      refine sw (v := .int .i64 L'.sl) E (run_loadB rfl rfl T.one3 (M.row (i := 2) rfl) rfl) fun fr E => ?_
      refine sw (v := .bool false) E (tst rfl (decide_eq_false h31)) fun fr E => ?_
      refine seq_nil' ?_
      refine cond_false E rfl (rfl) ?_
      refine wp_skip ?_
      refine then_normal ?_
      refine code_region ?_
      refine sw (v := .agg ((⟨0, L.prev, (-1), (es ++ [trimE])⟩ : Smy).cells ev).toArray) E (run_loadAll rfl rfl T.agg39 (M.row (i := 8) rfl) (smc_size hp)) fun fr E => ?_
      refine scall E M rfl rfl rfl rfl rfl (run_call rfl rfl T.fn35) (bPut_ok (s := (⟨0, L.prev, (-1), (es ++ [trimE])⟩ : Smy)) (v := ev) hso (Reads.ecs1 (M.reads 1 rfl)) hck h16) rfl ?_
      rintro pv fr w - M E
      refine mv E fun fr E => ?_
      refine sw E (run_extract rfl rfl rfl) fun fr E => ?_
      refine sw E (run_extract rfl rfl rfl) fun fr E => ?_
      refine ma E fun fr E => ?_
      refine ma E fun fr E => ?_
      refine seq_nil' ?_
      refine code_region ?_
      refine mv E fun fr E => ?_
      refine mv E fun fr E => ?_
      refine mv E fun fr E => ?_
      have M := M.pull 5 rfl
      have M := M.pull 5 rfl
      have M := M.pull 5 rfl
      refine scallI ([.blk gl (.cells (lgc g a L'.sg L'.sl L'.prev lf' X0.lsm L'.n).toArray 34), dkE D, nmE N]) E M rfl rfl rfl rfl rfl (run_call rfl rfl T.fn34) rfl (fun H => logPut_l (L := L') H hLg hp' ⟨by omega, by omega⟩ hsl' ⟨by omega, by omega⟩ (by decide) (M.bytes (l := smyB (⟨0, L.prev, (-1), (es ++ [trimE])⟩ : Smy)) 3 rfl) (Mem.off3 (L := _) M (j := 3) rfl rfl) hpl (by omega) (by omega)) ?_
      rintro ⟨D2, N2⟩ fr w hI2 M E
      refine sw E (run_nilCheck rfl rfl) fun fr E => ?_
      refine sw (v := .pointer (some ⟨_, 4, none⟩)) E (run_fieldAddr rfl rfl T.fld34_3) fun fr E => ?_
      refine sset (i := 0) (cs' := (lgc g a (L'.put 3 (smyB (⟨0, L.prev, (-1), (es ++ [trimE])⟩ : Smy))).sg (L'.put 3 (smyB (⟨0, L.prev, (-1), (es ++ [trimE])⟩ : Smy))).sl (L'.sum 3 (smyB (⟨0, L.prev, (-1), (es ++ [trimE])⟩ : Smy))) lf' X0.lsm (L'.put 3 (smyB (⟨0, L.prev, (-1), (es ++ [trimE])⟩ : Smy))).n).toArray) E M rfl rfl rfl rfl rfl (run_storeN' (vs := (bc (L'.sum 3 (smyB (⟨0, L.prev, (-1), (es ++ [trimE])⟩ : Smy)))).toArray) rfl rfl rfl T.size28 (by simp [Lg.sum, sumOf_len]) (M.row (i := 0) rfl) (sz39 (lgc_size hp') rfl) (by simp only [List.all_eq_true]; exact fun v hv => bc_one v (by simpa using hv)) (congrArg List.toArray (lgc_setp hp' (sumOf_len _)))) rfl fun fr w M E => ?_
      refine seq_nil' ?_
      have hev1 : ev.oneCell' = true := Reads.oneR (M.reads 5 rfl)
      have M := M.pull 7 rfl
      have M : Mem _ _ ([.row 39 35 X0.lsm X0.qs.length (smC X0.qs)] ++ _) _ _ := M
      refine wp_seq (free_lastR (B := T.tab22_14_b) (Vs := (.exact _ :: .exact _ :: .exact _ :: .exact (.pointer (some ⟨_, 37, none⟩)) :: .exact (X0.lsm) :: .exact (.agg ((⟨0, L.prev, (-1), (es ++ [trimE])⟩ : Smy).cells ev).toArray) :: NewR w.heap.size 35 1 ((⟨0, L.prev, (-1), (es ++ [trimE])⟩ : Smy).cells ev) :: CameI w.heap.size ([.row 39 35 X0.lsm X0.qs.length (smC X0.qs)]) (fun v : Value => v) ((fun v' : Value => [Ent.row 39 35 v' (X0.qs.length + 1) (smC X0.qs ++ (⟨0, L.prev, (-1), (es ++ [trimE])⟩ : Smy).cells ev)])) (fun _ => True) :: .exact _ :: .exact (.pointer (some ⟨_, 37, none⟩)) :: [])) (ownRoad (oneFs 7 ([.row 39 35 X0.lsm X0.qs.length (smC X0.qs)])) w.drew) T.tab22_14_j 10 E T.mixed T.tab22_14 rfl rfl rfl ?_ ⟨fr_val rfl rfl M (fun i g h => h.2) (fun x w' M' hB hk => ⟨_, _, rfl, rfl, rfl, run_move rfl rfl, Ext.refl _, rfl⟩),
      fr_val rfl rfl M (fun i g h => h.2) (fun x w' M' hB hk => ⟨_, _, rfl, rfl, rfl, run_move rfl rfl, Ext.refl _, rfl⟩),
      fr_val rfl rfl M (fun i g h => h.2) (fun x w' M' hB hk => ⟨_, _, rfl, rfl, rfl, run_nilCheck rfl rfl, Ext.refl _, rfl⟩),
      fr_val rfl rfl M (fun i g h => h.2) (fun x w' M' hB hk => ⟨_, _, rfl, rfl, rfl, run_fieldAddr rfl rfl T.fld34_5, Ext.refl _, rfl⟩),
      fr_val rfl rfl M (fun i g h => h.2) (fun x w' M' hB hk => ⟨_, _, rfl, rfl, rfl, run_loadB rfl rfl T.one32 (M'.row (i := 0) rfl) (lgc_lsm (sumOf_len _)), Ext.refl _, rfl⟩),
      fr_val rfl rfl M (fun i g h => h.2) (fun x w' M' hB hk => ⟨_, _, rfl, rfl, rfl, run_loadAll rfl rfl T.agg39 (M'.row (i := 8) rfl) (smc_size hp), Ext.refl _, rfl⟩),
      fr_rel rfl rfl M (fun i g h => h.2) (fun x w' M' hB hk => ⟨rfl, rfl, rfl, built1_fs (cs := (⟨0, L.prev, (-1), (es ++ [trimE])⟩ : Smy).cells ev) hB rfl rfl (Smy.len hso) T.slice32 T.size39 T.zl39 rfl rfl rfl⟩),
      fr_app (y := undef) rfl rfl M rfl rfl rfl T.slice32 T.slice32 T.zt39 T.by39 (by decide) (Smy.ones hev1) (by omega) (fun x w' hk => ⟨rfl, rfl, rfl, rfl, _, rfl, (hk 6 rfl).1⟩),
      fr_val rfl rfl M (fun i g h => h.2) (fun x w' M' hB hk => ⟨_, _, rfl, rfl, rfl, run_nilCheck rfl rfl, Ext.refl _, rfl⟩),
      fr_val rfl rfl M (fun i g h => h.2) (fun x w' M' hB hk => ⟨_, _, rfl, rfl, rfl, run_fieldAddr rfl rfl T.fld34_5, Ext.refl _, rfl⟩), trivial⟩ ?_)
      · exact one_okW rfl ((allY_ex (allY_ex (allY_ex (allY_ex (allY_ex (allY_ex (allY_any (LastsR.newR (fun g h => M.old g h)) (allY_in rfl LastsR.came1 (allY_ex (allY_ex allY_nil)))))))))))
      intro x fr w ⟨b, hb, hI⟩ hk E
      obtain ⟨lsm', hy, -, M⟩ := M.behind (val := fun v : Value => v) (outs := (fun v' : Value => [Ent.row 39 35 v' (X0.qs.length + 1) (smC X0.qs ++ (⟨0, L.prev, (-1), (es ++ [trimE])⟩ : Smy).cells ev)])) (p := fun _ => True) hI (hk 7 (by decide))
      have E := Env.say (t := 107) E rfl hy
      refine last_set (i := 1) (cs' := (lgc g a (L'.put 3 (smyB (⟨0, L.prev, (-1), (es ++ [trimE])⟩ : Smy))).sg (L'.put 3 (smyB (⟨0, L.prev, (-1), (es ++ [trimE])⟩ : Smy))).sl (L'.sum 3 (smyB (⟨0, L.prev, (-1), (es ++ [trimE])⟩ : Smy))) lf' lsm' (L'.put 3 (smyB (⟨0, L.prev, (-1), (es ++ [trimE])⟩ : Smy))).n).toArray) E M rfl rfl rfl rfl rfl rfl (run_store1' (v := _) rfl rfl rfl T.size32 (M.row (i := 1) rfl) (sz39b (lgc_size (sumOf_len _)) rfl) (Reads.oneR (M.reads 0 rfl)) (congrArg List.toArray (lgc_setlsm (sumOf_len _) lsm'))) rfl fun fr w M E => ?_
      refine then_normal ?_
      refine code_region ?_
      refine sw (v := .pointer (some ⟨_, 33, none⟩)) E (run_fieldAddr rfl rfl T.fld39_2) fun fr E => ?_
      refine sw (v := .int .i64 (-1)) E (run_loadB rfl rfl T.one3 (M.row (i := 9) rfl) (smc_n hp)) fun fr E => ?_
      refine sw (v := .bool false) E (tst rfl (decide_eq_false (by omega))) fun fr E => ?_
      refine seq_nil' ?_
      refine cond_false E rfl (rfl) ?_
      refine wp_skip ?_
      refine ret0 E rfl ?_
      have M := M.pull 7 rfl
      have M := M.pull 4 rfl
      have M := M.pull 4 rfl
      have M := M.pull 4 rfl
      have M := M.pull 8 rfl
      have M := M.pull 8 rfl
      have M := Mem.pourR (M.as (L' := Ent.row 83 35 ev (es.length + 1) (ecs (es ++ [trimE])) :: _) (by rw [ecs_append, ecs_one]; rfl)) (by decide)
      have M := (((((M.pull 5 rfl).pull 5 rfl).pull 5 rfl).pull 5 rfl).pull 5 rfl)
      have M := Mem.take (L := [.blk gl (.cells (lgc g a (L'.put 3 (smyB (⟨0, L.prev, (-1), (es ++ [trimE])⟩ : Smy))).sg (L'.put 3 (smyB (⟨0, L.prev, (-1), (es ++ [trimE])⟩ : Smy))).sl (L'.sum 3 (smyB (⟨0, L.prev, (-1), (es ++ [trimE])⟩ : Smy))) lf' lsm' (L'.put 3 (smyB (⟨0, L.prev, (-1), (es ++ [trimE])⟩ : Smy))).n).toArray 34), dkE D2, nmE N2, .row 36 34 lf' L.begun.froms.length (askC L.begun.froms), .row 39 35 lsm' (X0.qs.length + 1) (smC X0.qs ++ (⟨0, L.prev, (-1), (es ++ [trimE])⟩ : Smy).cells ev), .rows 35 ((ev, ecs (es ++ [trimE])) :: (X0.qs.map rowQ).reverse)]) M
      rw [hbt]
      refine ⟨⟨lf', lsm', (X0.qs ++ [((⟨0, L.prev, (-1), (es ++ [trimE])⟩ : Smy), ev)]), D2, N2⟩, rfl, Mem.fin (M.as ?_) (.refl _) ⟨hI2, ?_⟩⟩
      · show _ = lgE gl g a (L'.close (⟨0, L.prev, (-1), (es ++ [trimE])⟩ : Smy)) ⟨lf', lsm', (X0.qs ++ [((⟨0, L.prev, (-1), (es ++ [trimE])⟩ : Smy), ev)]), D2, N2⟩; rw [close_row, hfv, if_neg (show ¬ (0 : Int) ≤ -1 by decide), if_neg (show ¬ (0 : Int) ≤ -1 by decide)]; rfl
      · simp [Lg.close, hqs, hsmv]

set_option maxHeartbeats 1000000 in
set_option maxRecDepth 100000 in
theorem batch_f {gl g a m : Nat} {L : Lg} {X0 : LX} {w0 : World} (H : Has w0 (lgE gl g a L X0)) (hLg : LgIs X0.D X0.N g a L) (hqs : X0.qs.map (·.1) = L.sums) (hm : m ≤ 15) (hp : L.prev.length = 32) (hsg : 0 ≤ L.sg ∧ L.sg ≤ 18) (hsl : 0 ≤ L.sl ∧ L.sl ≤ 31) (hn : 0 ≤ L.n ∧ L.n ≤ 900) (hkz : L.ks.length ≤ 50000) (htz : L.ts.length ≤ 50000) (hfz : L.froms.length ≤ 100) (hqz : X0.qs.length ≤ 100) (hchk : checkS (Lg.smy L.prev false (Lg.data m m 0 L.begun [])) = 0) : Does Try.prog 22 [.pointer (some ⟨gl, 0, none⟩), .int .i64 (m : Int), .bool false] w0 (lgE gl g a L X0) (fun _ : LX => .tuple #[]) (fun y => lgE gl g a (L.batch m false) y) (fun y => LgIs y.D y.N g a (L.batch m false) ∧ y.qs.map (·.1) = (L.batch m false).sums) := by
  refine enter (n := 119) Try.func22 rfl rfl rfl ?_
  intro fr E
  obtain ⟨R, hRd⟩ : ∃ R, Lg.data m m 0 L.begun [] = R := ⟨_, rfl⟩
  rw [hRd] at hchk
  have M : Mem w0 (feet (lgE gl g a L X0)) [.blk gl (.cells (lgc g a L.sg L.sl L.prev X0.lf X0.lsm L.n).toArray 34), dkE X0.D, nmE X0.N, .row 36 34 X0.lf L.froms.length (askC L.froms), .row 39 35 X0.lsm X0.qs.length (smC X0.qs), .rows 35 (X0.qs.map rowQ).reverse] (fun _ => True) w0 := Mem.begin H (fun _ _ => trivial)
  refine code_region ?_
  refine mv E fun fr E => ?_
  refine sw E (run_nilCheck rfl rfl) fun fr E => ?_
  refine sw (v := .pointer (some ⟨_, 4, none⟩)) E (run_fieldAddr rfl rfl T.fld34_3) fun fr E => ?_
  refine sw (v := .agg (bc L.prev).toArray) E (run_loadN' (vs := (bc L.prev).toArray) rfl rfl T.agg28 (M.row (i := 0) rfl) (sz39 (lgc_size hp) rfl) (congrArg List.toArray (lgc_prev hp))) fun fr E => ?_
  refine sw (v := .agg (Smy.cells ⟨0, L.prev, (-1), []⟩ (.slice none 0 0)).toArray) E (run_buildG (s0 := 1) (pre := [.int .i64 0]) (vs := [.agg (bc L.prev).toArray, .int .i64 (-1)]) (us := (Smy.cells ⟨0, L.prev, (-1), []⟩ (.slice none 0 0))) rfl rfl T.ts39 T.zeroL39 rfl (by simp [Value.cells, hp]) rfl rfl (by simp [Value.cells, Smy.cells, iv])) fun fr E => ?_
  refine snew (ob := .cells _ 39) (fun g => .pointer (some ⟨g, 0, none⟩)) E M rfl rfl rfl rfl rfl (run_allocN rfl T.zero39) fun g0 fr w M E => ?_
  refine sset (i := 0) (cs' := (Smy.cells ⟨0, L.prev, (-1), []⟩ (.slice none 0 0)).toArray) E M rfl rfl rfl rfl rfl (run_storeAll (vs := (Smy.cells ⟨0, L.prev, (-1), []⟩ (.slice none 0 0)).toArray) rfl rfl rfl T.size39 (smc_size hp) (M.row (i := 0) rfl) rfl (fun u hu => smc_one rfl u (by simpa using hu))) rfl fun fr w M E => ?_
  refine seq_nil' ?_
  have M := M.pull 4 rfl
  have M : Mem _ _ ([.row 36 34 X0.lf L.froms.length (askC L.froms)] ++ _) _ _ := M
  refine wp_seq (free_lastR (B := T.tab22_1_b) (Vs := (.exact _ :: .exact _ :: .exact _ :: .exact (.pointer (some ⟨_, 36, none⟩)) :: .exact (X0.lf) :: .exact _ :: .exact _ :: .exact (.pointer (some ⟨_, 2, none⟩)) :: .exact (.agg #[.int .i64 L.sg, .int .i64 L.sl]) :: .exact _ :: .exact _ :: .exact (.pointer (some ⟨_, 4, none⟩)) :: .exact (.agg (bc L.prev).toArray) :: .exact (.agg ((askV (L.sg, L.sl, L.prev))).toArray) :: NewR w.heap.size 34 1 (askV (L.sg, L.sl, L.prev)) :: CameI w.heap.size ([.row 36 34 X0.lf L.froms.length (askC L.froms)]) (fun v : Value => v) ((fun v' : Value => [Ent.row 36 34 v' L.begun.froms.length (askC L.begun.froms)])) (fun _ => True) :: .exact _ :: .exact (.pointer (some ⟨_, 36, none⟩)) :: [])) (ownRoad (oneFs 15 ([.row 36 34 X0.lf L.froms.length (askC L.froms)])) w.drew) T.tab22_1_j 18 E T.mixed T.tab22_1 rfl rfl rfl ?_ ⟨fr_val rfl rfl M (fun i g h => h.2) (fun x w' M' hB hk => ⟨_, _, rfl, rfl, rfl, run_move rfl rfl, Ext.refl _, rfl⟩),
      fr_val rfl rfl M (fun i g h => h.2) (fun x w' M' hB hk => ⟨_, _, rfl, rfl, rfl, run_move rfl rfl, Ext.refl _, rfl⟩),
      fr_val rfl rfl M (fun i g h => h.2) (fun x w' M' hB hk => ⟨_, _, rfl, rfl, rfl, run_nilCheck rfl rfl, Ext.refl _, rfl⟩),
      fr_val rfl rfl M (fun i g h => h.2) (fun x w' M' hB hk => ⟨_, _, rfl, rfl, rfl, run_fieldAddr rfl rfl T.fld34_4, Ext.refl _, rfl⟩),
      fr_val rfl rfl M (fun i g h => h.2) (fun x w' M' hB hk => ⟨_, _, rfl, rfl, rfl, run_loadB rfl rfl T.one31 (M'.row (i := 1) rfl) (lgc_lf hp), Ext.refl _, rfl⟩),
      fr_val rfl rfl M (fun i g h => h.2) (fun x w' M' hB hk => ⟨_, _, rfl, rfl, rfl, run_move rfl rfl, Ext.refl _, rfl⟩),
      fr_val rfl rfl M (fun i g h => h.2) (fun x w' M' hB hk => ⟨_, _, rfl, rfl, rfl, run_nilCheck rfl rfl, Ext.refl _, rfl⟩),
      fr_val rfl rfl M (fun i g h => h.2) (fun x w' M' hB hk => ⟨_, _, rfl, rfl, rfl, run_fieldAddr rfl rfl T.fld34_2, Ext.refl _, rfl⟩),
      fr_val rfl rfl M (fun i g h => h.2) (fun x w' M' hB hk => ⟨_, _, rfl, rfl, rfl, run_loadN' (vs := #[.int .i64 L.sg, .int .i64 L.sl]) rfl rfl T.agg26 (M'.row (i := 1) rfl) (sz39 (lgc_size hp) rfl) rfl, Ext.refl _, rfl⟩),
      fr_val rfl rfl M (fun i g h => h.2) (fun x w' M' hB hk => ⟨_, _, rfl, rfl, rfl, run_move rfl rfl, Ext.refl _, rfl⟩),
      fr_val rfl rfl M (fun i g h => h.2) (fun x w' M' hB hk => ⟨_, _, rfl, rfl, rfl, run_nilCheck rfl rfl, Ext.refl _, rfl⟩),
      fr_val rfl rfl M (fun i g h => h.2) (fun x w' M' hB hk => ⟨_, _, rfl, rfl, rfl, run_fieldAddr rfl rfl T.fld34_3, Ext.refl _, rfl⟩),
      fr_val rfl rfl M (fun i g h => h.2) (fun x w' M' hB hk => ⟨_, _, rfl, rfl, rfl, run_loadN' (vs := (bc L.prev).toArray) rfl rfl T.agg28 (M'.row (i := 1) rfl) (sz39 (lgc_size hp) rfl) (congrArg List.toArray (lgc_prev hp)), Ext.refl _, rfl⟩),
      fr_val rfl rfl M (fun i g h => h.2) (fun x w' M' hB hk => ⟨_, _, rfl, rfl, rfl, run_buildP (vs := [.agg #[.int .i64 L.sg, .int .i64 L.sl], .agg (bc L.prev).toArray]) (us := (askV (L.sg, L.sl, L.prev))) rfl rfl T.ts36 T.zeroL36 (by simp [Value.cells, hp]) rfl rfl (by simp [Value.cells, askV, iv]), Ext.refl _, rfl⟩),
      fr_rel rfl rfl M (fun i g h => h.2) (fun x w' M' hB hk => ⟨rfl, rfl, rfl, built1_fs (cs := (askV (L.sg, L.sl, L.prev))) hB rfl rfl (by simp [askV, hp]) T.slice31 T.size36 T.zl36 rfl rfl rfl⟩),
      fr_app (y := undef) rfl (by rw [show (fun v' : Value => [Ent.row 36 34 v' (L.froms.length + 1) (askC L.froms ++ (askV (L.sg, L.sl, L.prev)))]) = (fun v' : Value => [Ent.row 36 34 v' L.begun.froms.length (askC L.begun.froms)]) from funext fun v' => begun_row]; rfl) M rfl rfl rfl T.slice31 T.slice31 T.zt36 T.by36 (by decide) askV_one (by omega) (fun x w' hk => ⟨rfl, rfl, rfl, rfl, _, rfl, (hk 14 rfl).1⟩),
      fr_val rfl rfl M (fun i g h => h.2) (fun x w' M' hB hk => ⟨_, _, rfl, rfl, rfl, run_nilCheck rfl rfl, Ext.refl _, rfl⟩),
      fr_val rfl rfl M (fun i g h => h.2) (fun x w' M' hB hk => ⟨_, _, rfl, rfl, rfl, run_fieldAddr rfl rfl T.fld34_4, Ext.refl _, rfl⟩), trivial⟩ ?_)
  · exact one_okW rfl ((allY_ex (allY_ex (allY_ex (allY_ex (allY_ex (allY_ex (allY_ex (allY_ex (allY_ex (allY_ex (allY_ex (allY_ex (allY_ex (allY_ex (allY_any (LastsR.newR (fun g h => M.old g h)) (allY_in rfl LastsR.came1 (allY_ex (allY_ex allY_nil)))))))))))))))))))
  intro x fr w ⟨b, hb, hI⟩ hk E
  obtain ⟨lf', hy, -, M⟩ := M.behind (val := fun v : Value => v) (outs := (fun v' : Value => [Ent.row 36 34 v' L.begun.froms.length (askC L.begun.froms)])) (p := fun _ => True) hI (hk 15 (by decide))
  have E := Env.say (t := 32) E rfl hy
  refine last_set (i := 2) (cs' := (lgc g a L.sg L.sl L.prev lf' X0.lsm L.n).toArray) E M rfl rfl rfl rfl rfl rfl (run_store1' (v := _) rfl rfl rfl T.size31 (M.row (i := 2) rfl) (sz39b (lgc_size hp) rfl) (Reads.oneR (M.reads 0 rfl)) (congrArg List.toArray (lgc_setlf hp lf'))) rfl fun fr w M E => ?_
  refine then_normal ?_
  refine code_cut (fun fr w => ∃ (L' : Lg) (es : List Ety) (ev : Value) (D : DV) (N : NV), LgIs D N g a L' ∧ (EOk es ∧ es.length ≤ m) ∧ (L'.prev = L.prev ∧ L'.sg = L.sg ∧ L'.froms = L.begun.froms ∧ L'.sums = L.sums) ∧ (0 ≤ L'.sl ∧ L'.sl ≤ 31) ∧ (0 ≤ L'.n ∧ L'.n ≤ L.n + 15) ∧ L'.ks.length ≤ L.ks.length + 15 ∧ L'.ts.length ≤ L.ts.length + 15 ∧ R = (L', es) ∧ Env [(6, .pointer (some ⟨g0, 0, none⟩)), (2, .bool false), (0, .pointer (some ⟨gl, 0, none⟩))] 119 fr ∧ Mem w0 (feet (lgE gl g a L X0)) [.row 83 35 ev es.length (ecs es), .blk gl (.cells (lgc g a L'.sg L'.sl L'.prev lf' X0.lsm L'.n).toArray 34), dkE D, nmE N, .row 36 34 lf' L.begun.froms.length (askC L.begun.froms), .row 39 35 X0.lsm X0.qs.length (smC X0.qs), .rows 35 (X0.qs.map rowQ).reverse, .blk g0 (.cells (Smy.cells ⟨0, L.prev, (-1), []⟩ ev).toArray 39)] (fun _ => True) w) ?_ ?_
  · refine code_region ?_
    refine sw E (run_assignC rfl) fun fr E => ?_
    refine seq_nil' ?_
    refine wp_block ?_
    refine loop_dec (fun d fr w => ∃ (i : Nat) (L' : Lg) (es : List Ety) (ev : Value) (D : DV) (N : NV), d = m - i ∧ i ≤ m ∧ LgIs D N g a L' ∧ (EOk es ∧ es.length ≤ i) ∧ (L'.prev = L.prev ∧ L'.sg = L.sg ∧ L'.froms = L.begun.froms ∧ L'.sums = L.sums) ∧ (0 ≤ L'.sl ∧ L'.sl ≤ 31) ∧ (0 ≤ L'.n ∧ L'.n ≤ L.n + i) ∧ L'.ks.length ≤ L.ks.length + i ∧ L'.ts.length ≤ L.ts.length + i ∧ Lg.data m (m - i) i L' es = R ∧ Env [(7, .int .i64 (i : Int)), (6, .pointer (some ⟨g0, 0, none⟩)), (2, .bool false), (1, .int .i64 (m : Int)), (0, .pointer (some ⟨gl, 0, none⟩))] 119 fr ∧ Mem w0 (feet (lgE gl g a L X0)) [.row 83 35 ev es.length (ecs es), .blk gl (.cells (lgc g a L'.sg L'.sl L'.prev lf' X0.lsm L'.n).toArray 34), dkE D, nmE N, .row 36 34 lf' L.begun.froms.length (askC L.begun.froms), .row 39 35 X0.lsm X0.qs.length (smC X0.qs), .rows 35 (X0.qs.map rowQ).reverse, .blk g0 (.cells (Smy.cells ⟨0, L.prev, (-1), []⟩ ev).toArray 39)] (fun _ => True) w) (m) ?_ ?_
    · have M := M.pull 1 rfl
      have M := M.pull 6 rfl
      have M := M.pull 6 rfl
      have M := M.pull 3 rfl
      have M := M.pull 6 rfl
      have M := M.pull 6 rfl
      have M := M.pull 6 rfl
      have M := M.nilRowF 83 35
      exact ⟨0, L.begun, [], _, X0.D, X0.N, rfl, Nat.zero_le _, hLg, ⟨fun e he => (nomatch he), Nat.le_refl _⟩, ⟨rfl, rfl, rfl, rfl⟩, hsl, ⟨hn.1, by show L.n ≤ _; omega⟩, Nat.le_refl _, Nat.le_refl _, hRd, (((((Env.nil E).add E (t := 0) rfl).add E (t := 1) rfl).add E (t := 2) rfl).add E (t := 6) rfl).add E (t := 7) rfl, Mem.take (L := [.row 83 35 _ ([] : List Ety).length (ecs ([] : List Ety)), .blk gl (.cells (lgc g a L.begun.sg L.begun.sl L.begun.prev lf' X0.lsm L.begun.n).toArray 34), dkE X0.D, nmE X0.N, .row 36 34 lf' L.begun.froms.length (askC L.begun.froms), .row 39 35 X0.lsm X0.qs.length (smC X0.qs), .rows 35 (X0.qs.map rowQ).reverse, .blk g0 (.cells (Smy.cells ⟨0, L.prev, (-1), []⟩ _).toArray 39)]) M⟩
    · clear E M
      rintro d fr w ⟨i, L', es, ev, D, N, rfl, hle, hLg, ⟨heso, hel⟩, ⟨hpv, hsgv, hfv, hsmv⟩, hsl', hnn, hkz', htz', hR, E, M⟩
      by_cases hi : i < m
      · by_cases h31 : L'.sl < 31
        · have hp' : L'.prev.length = 32 := by rw [hpv]; exact hp
          have hfu : m - i = (m - (i + 1)) + 1 := by omega
          rw [hfu] at hR
          have hsb := textKs_len1 L'.ts (L'.b 4 (dataB m i))
          have hkb := sealS_len L'.ks 7 (L'.n + 1) (hdB 4 (3 + L'.sg * 32 + L'.sl)) (dataB m i)
          have heo : (⟨1, (i : Int), L'.sl, L'.sum 4 (dataB m i)⟩ : Ety).Ok := sumOf_len _
          refine wp_seq ?_
          refine code_region ?_
          refine mv E fun fr E => ?_
          refine mv E fun fr E => ?_
          refine sw (v := .bool true) E (tst rfl (decide_eq_true (by omega))) fun fr E => ?_
          refine mv E fun fr E => ?_
          refine mv E fun fr E => ?_
          refine sw E (run_nilCheck rfl rfl) fun fr E => ?_
          refine sw (v := .pointer (some ⟨_, 2, none⟩)) E (run_fieldAddr rfl rfl T.fld34_2) fun fr E => ?_
          refine sw (v := .pointer (some ⟨_, 3, none⟩)) E (run_fieldAddr rfl rfl T.fld26_1) fun fr E => ?_
          refine sw (v := .int .i64 L'.sl) E (run_loadB rfl rfl T.one3 (M.row (i := 1) rfl) rfl) fun fr E => ?_
          refine sw (v := .bool true) E (tst rfl (decide_eq_true h31)) fun fr E => ?_
          refine sw (v := .bool _) E (rfl) fun fr E => ?_
          refine seq_nil' ?_
          refine cond_true E rfl (rfl) ?_
          refine wp_skip ?_
          refine then_normal ?_
          refine wp_seq ?_
          refine wp_block ?_
          refine code_region ?_
          refine mv E fun fr E => ?_
          refine sw E (run_nilCheck rfl rfl) fun fr E => ?_
          refine sw (v := .pointer (some ⟨_, 2, none⟩)) E (run_fieldAddr rfl rfl T.fld34_2) fun fr E => ?_
          refine sw (v := .pointer (some ⟨_, 3, none⟩)) E (run_fieldAddr rfl rfl T.fld26_1) fun fr E => ?_
          refine sw (v := .int .i64 L'.sl) E (run_loadB rfl rfl T.one3 (M.row (i := 1) rfl) rfl) fun fr E => ?_
          refine ma E fun fr E => ?_
          refine seq_nil' ?_
          refine code_region ?_
          refine mv E fun fr E => ?_
          refine mv E fun fr E => ?_
          refine sw (v := .int _ (((UInt8.ofInt (i : Int)).toNat : Int))) E (num rfl ((ofInt_toNat _).symm)) fun fr E => ?_
          refine mv E fun fr E => ?_
          refine sw (v := .int _ (((UInt8.ofInt (m : Int)).toNat : Int))) E (num rfl ((ofInt_toNat _).symm)) fun fr E => ?_
          refine srow (sz := 1) (xs := (bc (dataB (m : Int) i))) E M rfl rfl rfl rfl rfl (run_buildSliceA (us := (bc (dataB (m : Int) i))) (vs := [_, _]) rfl rfl rfl T.slice54 T.size5 T.zl5 rfl rfl rfl rfl rfl) (rfl) (Nat.le_refl _) (by decide) (rfl) fun pl fr w M E => ?_
          have M := M.pull 4 rfl
          have M := M.pull 4 rfl
          have M := M.pull 4 rfl
          refine scallI ([.blk gl (.cells (lgc g a L'.sg L'.sl L'.prev lf' X0.lsm L'.n).toArray 34), dkE D, nmE N]) E M rfl rfl rfl rfl rfl (run_call rfl rfl T.fn34) rfl (fun H => logPut_l (L := L') H hLg hp' ⟨by omega, by omega⟩ hsl' ⟨by omega, by omega⟩ (by decide) (M.bytes (l := dataB m i) 3 rfl) (Mem.off3 (L := _) M (j := 3) rfl rfl) (show 2 ≤ 975 by decide) (by omega) (by omega)) ?_
          rintro ⟨D2, N2⟩ fr w hI2 M E
          refine snew (ob := .cells _ 28) (fun g => .pointer (some ⟨g, 0, none⟩)) E M rfl rfl rfl rfl rfl (run_allocN rfl T.zero28) fun g20 fr w M E => ?_
          refine sset (i := 0) (cs' := (bc (L'.sum 4 (dataB m i))).toArray) E M rfl rfl rfl rfl rfl (run_storeAll (vs := (bc (L'.sum 4 (dataB m i))).toArray) rfl rfl rfl T.size28 (by simp [Lg.sum, sumOf_len]) (M.row (i := 0) rfl) rfl (fun v hv => bc_one v (by simpa using hv))) rfl fun fr w M E => ?_
          refine seq_nil' ?_
          refine code_last ?_
          refine sw (v := .pointer (some ⟨_, 34, none⟩)) E (run_fieldAddr rfl rfl T.fld39_3) fun fr E => ?_
          refine sw (v := ev) E (run_loadB rfl rfl T.one37 (M.row (i := 9) rfl) (smc_v hp)) fun fr E => ?_
          refine mv E fun fr E => ?_
          refine mv E fun fr E => ?_
          refine sw (v := .agg (bc (L'.sum 4 (dataB m i))).toArray) E (run_loadAll rfl rfl T.agg28 (M.row (i := 0) rfl) (by simp [Lg.sum, sumOf_len])) fun fr E => ?_
          refine sw (v := .agg ((⟨1, (i : Int), L'.sl, L'.sum 4 (dataB m i)⟩ : Ety).cells).toArray) E (run_buildP (vs := [.int .i64 1, .int .i64 (i : Int), .int .i64 L'.sl, .agg (bc (L'.sum 4 (dataB m i))).toArray]) (us := (⟨1, (i : Int), L'.sl, L'.sum 4 (dataB m i)⟩ : Ety).cells) rfl rfl T.ts83 T.zeroL83 (by simp [Value.cells, Lg.sum, sumOf_len]) rfl rfl (by simp [Ety.cells, Value.cells, iv])) fun fr E => ?_
          refine srow (sz := 35) (xs := (⟨1, (i : Int), L'.sl, L'.sum 4 (dataB m i)⟩ : Ety).cells) E M rfl rfl rfl rfl rfl (run_buildSliceA (us := (⟨1, (i : Int), L'.sl, L'.sum 4 (dataB m i)⟩ : Ety).cells) (vs := [.agg (⟨1, (i : Int), L'.sl, L'.sum 4 (dataB m i)⟩ : Ety).cells.toArray]) rfl rfl rfl T.slice37 T.size83 T.zl83 rfl (by simp [Value.cells, Ety.len heo]) rfl rfl (by simp [Value.cells])) (by simp [Ety.len heo]) (Nat.le_refl _) (by decide) (rfl) fun nr fr w M E => ?_
          refine sapp (i := 6) E M rfl rfl rfl rfl rfl rfl rfl rfl rfl rfl rfl T.slice37 T.slice37 T.zt83 T.by83 (by decide) (M.reads 0 rfl) (fun u hu => Ety.ones _ u (by simpa using hu)) (by omega) fun ev fr w M E => ?_
          refine sw (v := .pointer (some ⟨_, 34, none⟩)) E (run_fieldAddr rfl rfl T.fld39_3) fun fr E => ?_
          refine sset (i := 10) (cs' := (Smy.cells ⟨0, L.prev, (-1), []⟩ ev).toArray) E M rfl rfl rfl rfl rfl (run_store1' (v := _) rfl rfl rfl T.size37 (M.row (i := 10) rfl) (by rw [smc_size hp]; rfl) (Reads.oneR (M.reads 6 rfl)) (congrArg List.toArray (smc_es hp))) rfl fun fr w M E => ?_
          refine seq_nil ?_
          refine block_normal ?_
          refine then_normal ?_
          refine code_last ?_
          refine mv E fun fr E => ?_
          refine sw (v := .int _ (((i + 1 : Nat) : Int))) E (num rfl ((i64_id (by omega) (by omega)).trans (by omega))) fun fr E => ?_
          refine ma E fun fr E => ?_
          refine seq_nil ?_
          refine then_any ?_
          have M := M.pull 10 rfl
          have M := M.pull 10 rfl
          have M := M.pull 10 rfl
          have M := M.pull 10 rfl
          have M := M.pull 8 rfl
          have M := M.pull 8 rfl
          have M := M.pull 8 rfl
          have M := M.pull 10 rfl
          exact ⟨m - (i + 1), by omega, i + 1, (L'.put 4 (dataB m i)), es ++ [(⟨1, (i : Int), L'.sl, L'.sum 4 (dataB m i)⟩ : Ety)], ev, D2, N2, rfl, by omega, hI2, ⟨heso.snoc heo, by simp; omega⟩, ⟨hpv, hsgv, hfv, hsmv⟩, ⟨by show 0 ≤ L'.sl + 1; omega, by show L'.sl + 1 ≤ 31; omega⟩, ⟨by show 0 ≤ L'.n + 1; omega, by show L'.n + 1 ≤ _; omega⟩, Nat.le_trans hkb (by omega), Nat.le_trans hsb (by omega), by rw [← hR, data_step h31], (((((Env.nil E).add E (t := 0) rfl).add E (t := 1) rfl).add E (t := 2) rfl).add E (t := 6) rfl).add E (t := 7) rfl, (Mem.take (L := [.row 83 35 ev (es.length + 1) (ecs es ++ (⟨1, (i : Int), L'.sl, L'.sum 4 (dataB m i)⟩ : Ety).cells), .blk gl (.cells (lgc g a (L'.put 4 (dataB m i)).sg (L'.put 4 (dataB m i)).sl (L'.put 4 (dataB m i)).prev lf' X0.lsm (L'.put 4 (dataB m i)).n).toArray 34), dkE D2, nmE N2, .row 36 34 lf' L.begun.froms.length (askC L.begun.froms), .row 39 35 X0.lsm X0.qs.length (smC X0.qs), .rows 35 (X0.qs.map rowQ).reverse, .blk g0 (.cells (Smy.cells ⟨0, L.prev, (-1), []⟩ ev).toArray 39)]) M).as (by simp [ecs_append, ecs_one])⟩
        · have hfu : m - i = (m - (i + 1)) + 1 := by omega
          have hRe : R = (L', es) := by rw [← hR, hfu, data_stop h31]
          have hp' : L'.prev.length = 32 := by rw [hpv]; exact hp
          refine wp_seq ?_
          refine code_region ?_
          refine mv E fun fr E => ?_
          refine mv E fun fr E => ?_
          refine sw (v := .bool true) E (tst rfl (decide_eq_true (by omega))) fun fr E => ?_
          refine mv E fun fr E => ?_
          refine mv E fun fr E => ?_
          refine sw E (run_nilCheck rfl rfl) fun fr E => ?_
          refine sw (v := .pointer (some ⟨_, 2, none⟩)) E (run_fieldAddr rfl rfl T.fld34_2) fun fr E => ?_
          refine sw (v := .pointer (some ⟨_, 3, none⟩)) E (run_fieldAddr rfl rfl T.fld26_1) fun fr E => ?_
          refine sw (v := .int .i64 L'.sl) E (run_loadB rfl rfl T.one3 (M.row (i := 1) rfl) rfl) fun fr E => ?_
          refine sw (v := .bool false) E (tst rfl (decide_eq_false h31)) fun fr E => ?_
          refine sw (v := .bool _) E (rfl) fun fr E => ?_
          refine seq_nil' ?_
          refine cond_false E rfl (rfl) ?_
          refine wp_exit ?_
          refine then_exit ?_
          refine then_exit ?_
          refine block_exit ?_
          refine then_any ?_
          have M := M.pull 7 rfl
          have M := M.pull 7 rfl
          have M := M.pull 7 rfl
          have M := M.pull 7 rfl
          have M := M.pull 7 rfl
          have M := M.pull 7 rfl
          have M := M.pull 7 rfl
          have M := M.pull 7 rfl
          exact ⟨L', es, ev, D, N, hLg, ⟨heso, by omega⟩, ⟨hpv, hsgv, hfv, hsmv⟩, hsl', ⟨hnn.1, by omega⟩, by omega, by omega, hRe, (((Env.nil E).add E (t := 0) rfl).add E (t := 2) rfl).add E (t := 6) rfl, Mem.take (L := [.row 83 35 ev es.length (ecs es), .blk gl (.cells (lgc g a L'.sg L'.sl L'.prev lf' X0.lsm L'.n).toArray 34), dkE D, nmE N, .row 36 34 lf' L.begun.froms.length (askC L.begun.froms), .row 39 35 X0.lsm X0.qs.length (smC X0.qs), .rows 35 (X0.qs.map rowQ).reverse, .blk g0 (.cells (Smy.cells ⟨0, L.prev, (-1), []⟩ ev).toArray 39)]) M⟩
      · obtain rfl : i = m := by omega
        have hRe : R = (L', es) := by rw [← hR, Nat.sub_self]; rfl
        have hp' : L'.prev.length = 32 := by rw [hpv]; exact hp
        refine wp_seq ?_
        refine code_region ?_
        refine mv E fun fr E => ?_
        refine mv E fun fr E => ?_
        refine sw (v := .bool false) E (tst rfl (decide_eq_false (by omega))) fun fr E => ?_
        refine mv E fun fr E => ?_
        refine sno E rfl rfl rfl rfl fun fr E => ?_
        refine sno E rfl rfl rfl rfl fun fr E => ?_
        refine sno E rfl rfl rfl rfl fun fr E => ?_
        refine sno E rfl rfl rfl rfl fun fr E => ?_
        refine sno E rfl rfl rfl rfl fun fr E => ?_
        refine sno E rfl rfl rfl rfl fun fr E => ?_
        refine sw (v := .bool _) E (rfl) fun fr E => ?_
        refine seq_nil' ?_
        refine cond_false E rfl (rfl) ?_
        refine wp_exit ?_
        refine then_exit ?_
        refine then_exit ?_
        refine block_exit ?_
        refine then_any ?_
        have M := M.pull 7 rfl
        have M := M.pull 7 rfl
        have M := M.pull 7 rfl
        have M := M.pull 7 rfl
        have M := M.pull 7 rfl
        have M := M.pull 7 rfl
        have M := M.pull 7 rfl
        have M := M.pull 7 rfl
        exact ⟨L', es, ev, D, N, hLg, ⟨heso, by omega⟩, ⟨hpv, hsgv, hfv, hsmv⟩, hsl', ⟨hnn.1, by omega⟩, by omega, by omega, hRe, (((Env.nil E).add E (t := 0) rfl).add E (t := 2) rfl).add E (t := 6) rfl, Mem.take (L := [.row 83 35 ev es.length (ecs es), .blk gl (.cells (lgc g a L'.sg L'.sl L'.prev lf' X0.lsm L'.n).toArray 34), dkE D, nmE N, .row 36 34 lf' L.begun.froms.length (askC L.begun.froms), .row 39 35 X0.lsm X0.qs.length (smC X0.qs), .rows 35 (X0.qs.map rowQ).reverse, .blk g0 (.cells (Smy.cells ⟨0, L.prev, (-1), []⟩ ev).toArray 39)]) M⟩
  · rintro fr w ⟨L', es, ev, D, N, hLg, ⟨heso, hel⟩, ⟨hpv, hsgv, hfv, hsmv⟩, hsl', hnn, hkz', htz', hRe, E, M⟩
    have hp' : L'.prev.length = 32 := by rw [hpv]; exact hp
    by_cases h31 : L'.sl = 31
    · have hsx : Lg.smy L.prev false R = (⟨0, L.prev, (L'.sg + 1), es⟩ : Smy) := by rw [hRe]; simp [Lg.smy, h31]
      have hck : checkS (⟨0, L.prev, (L'.sg + 1), es⟩ : Smy) = 0 := by rw [← hsx]; exact hchk
      have hbt : L.batch m false = L'.close (⟨0, L.prev, (L'.sg + 1), es⟩ : Smy) := by unfold Lg.batch; rw [hRd, hsx, hRe]
      have hso : Smy.Ok (⟨0, L.prev, (L'.sg + 1), es⟩ : Smy) := ⟨hp, heso⟩
      obtain ⟨h16, -⟩ := checkS_in hck
      have hsb := textKs_len1 L'.ts (L'.b 3 (smyB (⟨0, L.prev, (L'.sg + 1), es⟩ : Smy)))
      have hpl : (smyB (⟨0, L.prev, (L'.sg + 1), es⟩ : Smy)).length ≤ 975 := smyB_len hso hck
      refine wp_seq ?_
      refine code_region ?_
      refine mv E fun fr E => ?_
      refine seq_nil' ?_
      refine cond_false E rfl (rfl) ?_
      refine wp_skip ?_
      refine then_normal ?_
      refine wp_seq ?_
      refine code_region ?_
      refine mv E fun fr E => ?_
      refine sw E (run_nilCheck rfl rfl) fun fr E => ?_
      refine sw (v := .pointer (some ⟨_, 2, none⟩)) E (run_fieldAddr rfl rfl T.fld34_2) fun fr E => ?_
      refine sw (v := .pointer (some ⟨_, 3, none⟩)) E (run_fieldAddr rfl rfl T.fld26_1) fun fr E => ?_
      refine sw (v := .int .i64 L'.sl) E (run_loadB rfl rfl T.one3 (M.row (i := 1) rfl) rfl) fun fr E => ?_
      refine sw (v := .bool true) E (tst rfl (decide_eq_true h31)) fun fr E => ?_
      refine seq_nil' ?_
      refine cond_true E rfl (rfl) ?_
      refine code_last ?_
      refine mv E fun fr E => ?_
      refine sw E (run_nilCheck rfl rfl) fun fr E => ?_
      refine sw (v := .pointer (some ⟨_, 2, none⟩)) E (run_fieldAddr rfl rfl T.fld34_2) fun fr E => ?_
      refine sw (v := .pointer (some ⟨_, 2, none⟩)) E (run_fieldAddr rfl rfl T.fld26_0) fun fr E => ?_
      refine sw (v := .int .i64 L'.sg) E (run_loadB rfl rfl T.one3 (M.row (i := 1) rfl) rfl) fun fr E => ?_
      refine sw (v := .int _ (L'.sg + 1)) E (num rfl (i64_id (by omega) (by omega))) fun fr E => ?_
      refine sw (v := .pointer (some ⟨_, 33, none⟩)) E (run_fieldAddr rfl rfl T.fld39_2) fun fr E => ?_
      refine sset (i := 7) (cs' := (Smy.cells ⟨0, L.prev, (L'.sg + 1), []⟩ ev).toArray) E M rfl rfl rfl rfl rfl (run_store1' (v := _) rfl rfl rfl T.size3 (M.row (i := 7) rfl) (by rw [smc_size hp]; rfl) (rfl) (congrArg List.toArray (smc_nx hp))) rfl fun fr w M E => ?_
      refine seq_nil ?_
      refine then_normal ?_
      refine code_region ?_
      refine sw (v := .agg ((⟨0, L.prev, (L'.sg + 1), es⟩ : Smy).cells ev).toArray) E (run_loadAll rfl rfl T.agg39 (M.row (i := 7) rfl) (smc_size hp)) fun fr E => ?_
      refine scall E M rfl rfl rfl rfl rfl (run_call rfl rfl T.fn35) (bPut_ok (s := (⟨0, L.prev, (L'.sg + 1), es⟩ : Smy)) (v := ev) hso (ownsRow_reads (M.ent (e := .row 83 35 ev _ (ecs es)) 0 rfl)) hck h16) rfl ?_
      rintro pv fr w - M E
      refine mv E fun fr E => ?_
      refine sw E (run_extract rfl rfl rfl) fun fr E => ?_
      refine sw E (run_extract rfl rfl rfl) fun fr E => ?_
      refine ma E fun fr E => ?_
      refine ma E fun fr E => ?_
      refine seq_nil' ?_
      refine code_region ?_
      refine mv E fun fr E => ?_
      refine mv E fun fr E => ?_
      refine mv E fun fr E => ?_
      have M := M.pull 4 rfl
      have M := M.pull 4 rfl
      have M := M.pull 4 rfl
      refine scallI ([.blk gl (.cells (lgc g a L'.sg L'.sl L'.prev lf' X0.lsm L'.n).toArray 34), dkE D, nmE N]) E M rfl rfl rfl rfl rfl (run_call rfl rfl T.fn34) rfl (fun H => logPut_l (L := L') H hLg hp' ⟨by omega, by omega⟩ hsl' ⟨by omega, by omega⟩ (by decide) (M.bytes (l := smyB (⟨0, L.prev, (L'.sg + 1), es⟩ : Smy)) 3 rfl) (Mem.off3 (L := _) M (j := 3) rfl rfl) hpl (by omega) (by omega)) ?_
      rintro ⟨D2, N2⟩ fr w hI2 M E
      refine sw E (run_nilCheck rfl rfl) fun fr E => ?_
      refine sw (v := .pointer (some ⟨_, 4, none⟩)) E (run_fieldAddr rfl rfl T.fld34_3) fun fr E => ?_
      refine sset (i := 0) (cs' := (lgc g a (L'.put 3 (smyB (⟨0, L.prev, (L'.sg + 1), es⟩ : Smy))).sg (L'.put 3 (smyB (⟨0, L.prev, (L'.sg + 1), es⟩ : Smy))).sl (L'.sum 3 (smyB (⟨0, L.prev, (L'.sg + 1), es⟩ : Smy))) lf' X0.lsm (L'.put 3 (smyB (⟨0, L.prev, (L'.sg + 1), es⟩ : Smy))).n).toArray) E M rfl rfl rfl rfl rfl (run_storeN' (vs := (bc (L'.sum 3 (smyB (⟨0, L.prev, (L'.sg + 1), es⟩ : Smy)))).toArray) rfl rfl rfl T.size28 (by simp [Lg.sum, sumOf_len]) (M.row (i := 0) rfl) (sz39 (lgc_size hp') rfl) (by simp only [List.all_eq_true]; exact fun v hv => bc_one v (by simpa using hv)) (congrArg List.toArray (lgc_setp hp' (sumOf_len _)))) rfl fun fr w M E => ?_
      refine seq_nil' ?_
      have hev1 : ev.oneCell' = true := Reads.oneR (M.reads 4 rfl)
      have M := M.pull 6 rfl
      have M : Mem _ _ ([.row 39 35 X0.lsm X0.qs.length (smC X0.qs)] ++ _) _ _ := M
      refine wp_seq (free_lastR (B := T.tab22_14_b) (Vs := (.exact _ :: .exact _ :: .exact _ :: .exact (.pointer (some ⟨_, 37, none⟩)) :: .exact (X0.lsm) :: .exact (.agg ((⟨0, L.prev, (L'.sg + 1), es⟩ : Smy).cells ev).toArray) :: NewR w.heap.size 35 1 ((⟨0, L.prev, (L'.sg + 1), es⟩ : Smy).cells ev) :: CameI w.heap.size ([.row 39 35 X0.lsm X0.qs.length (smC X0.qs)]) (fun v : Value => v) ((fun v' : Value => [Ent.row 39 35 v' (X0.qs.length + 1) (smC X0.qs ++ (⟨0, L.prev, (L'.sg + 1), es⟩ : Smy).cells ev)])) (fun _ => True) :: .exact _ :: .exact (.pointer (some ⟨_, 37, none⟩)) :: [])) (ownRoad (oneFs 7 ([.row 39 35 X0.lsm X0.qs.length (smC X0.qs)])) w.drew) T.tab22_14_j 10 E T.mixed T.tab22_14 rfl rfl rfl ?_ ⟨fr_val rfl rfl M (fun i g h => h.2) (fun x w' M' hB hk => ⟨_, _, rfl, rfl, rfl, run_move rfl rfl, Ext.refl _, rfl⟩),
      fr_val rfl rfl M (fun i g h => h.2) (fun x w' M' hB hk => ⟨_, _, rfl, rfl, rfl, run_move rfl rfl, Ext.refl _, rfl⟩),
      fr_val rfl rfl M (fun i g h => h.2) (fun x w' M' hB hk => ⟨_, _, rfl, rfl, rfl, run_nilCheck rfl rfl, Ext.refl _, rfl⟩),
      fr_val rfl rfl M (fun i g h => h.2) (fun x w' M' hB hk => ⟨_, _, rfl, rfl, rfl, run_fieldAddr rfl rfl T.fld34_5, Ext.refl _, rfl⟩),
      fr_val rfl rfl M (fun i g h => h.2) (fun x w' M' hB hk => ⟨_, _, rfl, rfl, rfl, run_loadB rfl rfl T.one32 (M'.row (i := 0) rfl) (lgc_lsm (sumOf_len _)), Ext.refl _, rfl⟩),
      fr_val rfl rfl M (fun i g h => h.2) (fun x w' M' hB hk => ⟨_, _, rfl, rfl, rfl, run_loadAll rfl rfl T.agg39 (M'.row (i := 7) rfl) (smc_size hp), Ext.refl _, rfl⟩),
      fr_rel rfl rfl M (fun i g h => h.2) (fun x w' M' hB hk => ⟨rfl, rfl, rfl, built1_fs (cs := (⟨0, L.prev, (L'.sg + 1), es⟩ : Smy).cells ev) hB rfl rfl (Smy.len hso) T.slice32 T.size39 T.zl39 rfl rfl rfl⟩),
      fr_app (y := undef) rfl rfl M rfl rfl rfl T.slice32 T.slice32 T.zt39 T.by39 (by decide) (Smy.ones hev1) (by omega) (fun x w' hk => ⟨rfl, rfl, rfl, rfl, _, rfl, (hk 6 rfl).1⟩),
      fr_val rfl rfl M (fun i g h => h.2) (fun x w' M' hB hk => ⟨_, _, rfl, rfl, rfl, run_nilCheck rfl rfl, Ext.refl _, rfl⟩),
      fr_val rfl rfl M (fun i g h => h.2) (fun x w' M' hB hk => ⟨_, _, rfl, rfl, rfl, run_fieldAddr rfl rfl T.fld34_5, Ext.refl _, rfl⟩), trivial⟩ ?_)
      · exact one_okW rfl ((allY_ex (allY_ex (allY_ex (allY_ex (allY_ex (allY_ex (allY_any (LastsR.newR (fun g h => M.old g h)) (allY_in rfl LastsR.came1 (allY_ex (allY_ex allY_nil)))))))))))
      intro x fr w ⟨b, hb, hI⟩ hk E
      obtain ⟨lsm', hy, -, M⟩ := M.behind (val := fun v : Value => v) (outs := (fun v' : Value => [Ent.row 39 35 v' (X0.qs.length + 1) (smC X0.qs ++ (⟨0, L.prev, (L'.sg + 1), es⟩ : Smy).cells ev)])) (p := fun _ => True) hI (hk 7 (by decide))
      have E := Env.say (t := 107) E rfl hy
      refine last_set (i := 1) (cs' := (lgc g a (L'.put 3 (smyB (⟨0, L.prev, (L'.sg + 1), es⟩ : Smy))).sg (L'.put 3 (smyB (⟨0, L.prev, (L'.sg + 1), es⟩ : Smy))).sl (L'.sum 3 (smyB (⟨0, L.prev, (L'.sg + 1), es⟩ : Smy))) lf' lsm' (L'.put 3 (smyB (⟨0, L.prev, (L'.sg + 1), es⟩ : Smy))).n).toArray) E M rfl rfl rfl rfl rfl rfl (run_store1' (v := _) rfl rfl rfl T.size32 (M.row (i := 1) rfl) (sz39b (lgc_size (sumOf_len _)) rfl) (Reads.oneR (M.reads 0 rfl)) (congrArg List.toArray (lgc_setlsm (sumOf_len _) lsm'))) rfl fun fr w M E => ?_
      refine then_normal ?_
      refine code_region ?_
      refine sw (v := .pointer (some ⟨_, 33, none⟩)) E (run_fieldAddr rfl rfl T.fld39_2) fun fr E => ?_
      refine sw (v := .int .i64 (L'.sg + 1)) E (run_loadB rfl rfl T.one3 (M.row (i := 8) rfl) (smc_n hp)) fun fr E => ?_
      refine sw (v := .bool true) E (tst rfl (decide_eq_true (by omega))) fun fr E => ?_
      refine seq_nil' ?_
      refine cond_true E rfl (rfl) ?_
      refine code_last ?_
      refine mv E fun fr E => ?_
      refine sw (v := .pointer (some ⟨_, 33, none⟩)) E (run_fieldAddr rfl rfl T.fld39_2) fun fr E => ?_
      refine sw (v := .int .i64 (L'.sg + 1)) E (run_loadB rfl rfl T.one3 (M.row (i := 8) rfl) (smc_n hp)) fun fr E => ?_
      refine sw (v := .agg (([.int .i64 (L'.sg + 1), .int .i64 0] : List Value)).toArray) E (run_buildP (vs := [.int .i64 (L'.sg + 1)]) (us := ([.int .i64 (L'.sg + 1), .int .i64 0] : List Value)) rfl rfl T.ts26 T.zeroL26 (rfl) rfl rfl (rfl)) fun fr E => ?_
      refine sw E (run_nilCheck rfl rfl) fun fr E => ?_
      refine sw (v := .pointer (some ⟨_, 2, none⟩)) E (run_fieldAddr rfl rfl T.fld34_2) fun fr E => ?_
      refine sset (i := 1) (cs' := (lgc g a (L'.sg + 1) 0 (L'.sum 3 (smyB (⟨0, L.prev, (L'.sg + 1), es⟩ : Smy))) lf' lsm' (L'.put 3 (smyB (⟨0, L.prev, (L'.sg + 1), es⟩ : Smy))).n).toArray) E M rfl rfl rfl rfl rfl (run_storeN' (vs := #[.int .i64 (L'.sg + 1), .int .i64 0]) rfl rfl rfl T.size26 rfl (M.row (i := 1) rfl) (sz39 (lgc_size (sumOf_len _)) rfl) rfl (congrArg List.toArray (lgc_setat (sumOf_len _)))) rfl fun fr w M E => ?_
      refine seq_nil ?_
      refine ret0 E rfl ?_
      have M := M.pull 6 rfl
      have M := M.pull 4 rfl
      have M := M.pull 4 rfl
      have M := M.pull 4 rfl
      have M := M.pull 7 rfl
      have M := M.pull 7 rfl
      have M := Mem.pourR M (by decide)
      have M := (((((M.pull 5 rfl).pull 5 rfl).pull 5 rfl).pull 5 rfl).pull 5 rfl)
      have M := Mem.take (L := [.blk gl (.cells (lgc g a (L'.sg + 1) 0 (L'.sum 3 (smyB (⟨0, L.prev, (L'.sg + 1), es⟩ : Smy))) lf' lsm' (L'.put 3 (smyB (⟨0, L.prev, (L'.sg + 1), es⟩ : Smy))).n).toArray 34), dkE D2, nmE N2, .row 36 34 lf' L.begun.froms.length (askC L.begun.froms), .row 39 35 lsm' (X0.qs.length + 1) (smC X0.qs ++ (⟨0, L.prev, (L'.sg + 1), es⟩ : Smy).cells ev), .rows 35 ((ev, ecs es) :: (X0.qs.map rowQ).reverse)]) M
      rw [hbt]
      refine ⟨⟨lf', lsm', (X0.qs ++ [((⟨0, L.prev, (L'.sg + 1), es⟩ : Smy), ev)]), D2, N2⟩, rfl, Mem.fin (M.as ?_) (.refl _) ⟨hI2, ?_⟩⟩
      · show _ = lgE gl g a (L'.close (⟨0, L.prev, (L'.sg + 1), es⟩ : Smy)) ⟨lf', lsm', (X0.qs ++ [((⟨0, L.prev, (L'.sg + 1), es⟩ : Smy), ev)]), D2, N2⟩; rw [close_row, hfv, if_pos (show (0 : Int) ≤ L'.sg + 1 by omega), if_pos (show (0 : Int) ≤ L'.sg + 1 by omega)]
      · simp [Lg.close, hqs, hsmv]
    · have hsx : Lg.smy L.prev false R = (⟨0, L.prev, (-1), es⟩ : Smy) := by rw [hRe]; simp [Lg.smy, h31]
      have hck : checkS (⟨0, L.prev, (-1), es⟩ : Smy) = 0 := by rw [← hsx]; exact hchk
      have hbt : L.batch m false = L'.close (⟨0, L.prev, (-1), es⟩ : Smy) := by unfold Lg.batch; rw [hRd, hsx, hRe]
      have hso : Smy.Ok (⟨0, L.prev, (-1), es⟩ : Smy) := ⟨hp, heso⟩
      obtain ⟨h16, -⟩ := checkS_in hck
      have hsb := textKs_len1 L'.ts (L'.b 3 (smyB (⟨0, L.prev, (-1), es⟩ : Smy)))
      have hpl : (smyB (⟨0, L.prev, (-1), es⟩ : Smy)).length ≤ 975 := smyB_len hso hck
      refine wp_seq ?_
      refine code_region ?_
      refine mv E fun fr E => ?_
      refine seq_nil' ?_
      refine cond_false E rfl (rfl) ?_
      refine wp_skip ?_
      refine then_normal ?_
      refine wp_seq ?_
      refine code_region ?_
      refine mv E fun fr E => ?_
      refine sw E (run_nilCheck rfl rfl) fun fr E => ?_
      refine sw (v := .pointer (some ⟨_, 2, none⟩)) E (run_fieldAddr rfl rfl T.fld34_2) fun fr E => ?_
      refine sw (v := .pointer (some ⟨_, 3, none⟩)) E (run_fieldAddr rfl rfl T.fld26_1) fun fr E => ?_
      refine sw (v := .int .i64 L'.sl) E (run_loadB rfl rfl T.one3 (M.row (i := 1) rfl) rfl) fun fr E => ?_
      refine sw (v := .bool false) E (tst rfl (decide_eq_false h31)) fun fr E => ?_
      refine seq_nil' ?_
      refine cond_false E rfl (rfl) ?_
      refine wp_skip ?_
      refine then_normal ?_
      refine code_region ?_
      refine sw (v := .agg ((⟨0, L.prev, (-1), es⟩ : Smy).cells ev).toArray) E (run_loadAll rfl rfl T.agg39 (M.row (i := 7) rfl) (smc_size hp)) fun fr E => ?_
      refine scall E M rfl rfl rfl rfl rfl (run_call rfl rfl T.fn35) (bPut_ok (s := (⟨0, L.prev, (-1), es⟩ : Smy)) (v := ev) hso (ownsRow_reads (M.ent (e := .row 83 35 ev _ (ecs es)) 0 rfl)) hck h16) rfl ?_
      rintro pv fr w - M E
      refine mv E fun fr E => ?_
      refine sw E (run_extract rfl rfl rfl) fun fr E => ?_
      refine sw E (run_extract rfl rfl rfl) fun fr E => ?_
      refine ma E fun fr E => ?_
      refine ma E fun fr E => ?_
      refine seq_nil' ?_
      refine code_region ?_
      refine mv E fun fr E => ?_
      refine mv E fun fr E => ?_
      refine mv E fun fr E => ?_
      have M := M.pull 4 rfl
      have M := M.pull 4 rfl
      have M := M.pull 4 rfl
      refine scallI ([.blk gl (.cells (lgc g a L'.sg L'.sl L'.prev lf' X0.lsm L'.n).toArray 34), dkE D, nmE N]) E M rfl rfl rfl rfl rfl (run_call rfl rfl T.fn34) rfl (fun H => logPut_l (L := L') H hLg hp' ⟨by omega, by omega⟩ hsl' ⟨by omega, by omega⟩ (by decide) (M.bytes (l := smyB (⟨0, L.prev, (-1), es⟩ : Smy)) 3 rfl) (Mem.off3 (L := _) M (j := 3) rfl rfl) hpl (by omega) (by omega)) ?_
      rintro ⟨D2, N2⟩ fr w hI2 M E
      refine sw E (run_nilCheck rfl rfl) fun fr E => ?_
      refine sw (v := .pointer (some ⟨_, 4, none⟩)) E (run_fieldAddr rfl rfl T.fld34_3) fun fr E => ?_
      refine sset (i := 0) (cs' := (lgc g a (L'.put 3 (smyB (⟨0, L.prev, (-1), es⟩ : Smy))).sg (L'.put 3 (smyB (⟨0, L.prev, (-1), es⟩ : Smy))).sl (L'.sum 3 (smyB (⟨0, L.prev, (-1), es⟩ : Smy))) lf' X0.lsm (L'.put 3 (smyB (⟨0, L.prev, (-1), es⟩ : Smy))).n).toArray) E M rfl rfl rfl rfl rfl (run_storeN' (vs := (bc (L'.sum 3 (smyB (⟨0, L.prev, (-1), es⟩ : Smy)))).toArray) rfl rfl rfl T.size28 (by simp [Lg.sum, sumOf_len]) (M.row (i := 0) rfl) (sz39 (lgc_size hp') rfl) (by simp only [List.all_eq_true]; exact fun v hv => bc_one v (by simpa using hv)) (congrArg List.toArray (lgc_setp hp' (sumOf_len _)))) rfl fun fr w M E => ?_
      refine seq_nil' ?_
      have hev1 : ev.oneCell' = true := Reads.oneR (M.reads 4 rfl)
      have M := M.pull 6 rfl
      have M : Mem _ _ ([.row 39 35 X0.lsm X0.qs.length (smC X0.qs)] ++ _) _ _ := M
      refine wp_seq (free_lastR (B := T.tab22_14_b) (Vs := (.exact _ :: .exact _ :: .exact _ :: .exact (.pointer (some ⟨_, 37, none⟩)) :: .exact (X0.lsm) :: .exact (.agg ((⟨0, L.prev, (-1), es⟩ : Smy).cells ev).toArray) :: NewR w.heap.size 35 1 ((⟨0, L.prev, (-1), es⟩ : Smy).cells ev) :: CameI w.heap.size ([.row 39 35 X0.lsm X0.qs.length (smC X0.qs)]) (fun v : Value => v) ((fun v' : Value => [Ent.row 39 35 v' (X0.qs.length + 1) (smC X0.qs ++ (⟨0, L.prev, (-1), es⟩ : Smy).cells ev)])) (fun _ => True) :: .exact _ :: .exact (.pointer (some ⟨_, 37, none⟩)) :: [])) (ownRoad (oneFs 7 ([.row 39 35 X0.lsm X0.qs.length (smC X0.qs)])) w.drew) T.tab22_14_j 10 E T.mixed T.tab22_14 rfl rfl rfl ?_ ⟨fr_val rfl rfl M (fun i g h => h.2) (fun x w' M' hB hk => ⟨_, _, rfl, rfl, rfl, run_move rfl rfl, Ext.refl _, rfl⟩),
      fr_val rfl rfl M (fun i g h => h.2) (fun x w' M' hB hk => ⟨_, _, rfl, rfl, rfl, run_move rfl rfl, Ext.refl _, rfl⟩),
      fr_val rfl rfl M (fun i g h => h.2) (fun x w' M' hB hk => ⟨_, _, rfl, rfl, rfl, run_nilCheck rfl rfl, Ext.refl _, rfl⟩),
      fr_val rfl rfl M (fun i g h => h.2) (fun x w' M' hB hk => ⟨_, _, rfl, rfl, rfl, run_fieldAddr rfl rfl T.fld34_5, Ext.refl _, rfl⟩),
      fr_val rfl rfl M (fun i g h => h.2) (fun x w' M' hB hk => ⟨_, _, rfl, rfl, rfl, run_loadB rfl rfl T.one32 (M'.row (i := 0) rfl) (lgc_lsm (sumOf_len _)), Ext.refl _, rfl⟩),
      fr_val rfl rfl M (fun i g h => h.2) (fun x w' M' hB hk => ⟨_, _, rfl, rfl, rfl, run_loadAll rfl rfl T.agg39 (M'.row (i := 7) rfl) (smc_size hp), Ext.refl _, rfl⟩),
      fr_rel rfl rfl M (fun i g h => h.2) (fun x w' M' hB hk => ⟨rfl, rfl, rfl, built1_fs (cs := (⟨0, L.prev, (-1), es⟩ : Smy).cells ev) hB rfl rfl (Smy.len hso) T.slice32 T.size39 T.zl39 rfl rfl rfl⟩),
      fr_app (y := undef) rfl rfl M rfl rfl rfl T.slice32 T.slice32 T.zt39 T.by39 (by decide) (Smy.ones hev1) (by omega) (fun x w' hk => ⟨rfl, rfl, rfl, rfl, _, rfl, (hk 6 rfl).1⟩),
      fr_val rfl rfl M (fun i g h => h.2) (fun x w' M' hB hk => ⟨_, _, rfl, rfl, rfl, run_nilCheck rfl rfl, Ext.refl _, rfl⟩),
      fr_val rfl rfl M (fun i g h => h.2) (fun x w' M' hB hk => ⟨_, _, rfl, rfl, rfl, run_fieldAddr rfl rfl T.fld34_5, Ext.refl _, rfl⟩), trivial⟩ ?_)
      · exact one_okW rfl ((allY_ex (allY_ex (allY_ex (allY_ex (allY_ex (allY_ex (allY_any (LastsR.newR (fun g h => M.old g h)) (allY_in rfl LastsR.came1 (allY_ex (allY_ex allY_nil)))))))))))
      intro x fr w ⟨b, hb, hI⟩ hk E
      obtain ⟨lsm', hy, -, M⟩ := M.behind (val := fun v : Value => v) (outs := (fun v' : Value => [Ent.row 39 35 v' (X0.qs.length + 1) (smC X0.qs ++ (⟨0, L.prev, (-1), es⟩ : Smy).cells ev)])) (p := fun _ => True) hI (hk 7 (by decide))
      have E := Env.say (t := 107) E rfl hy
      refine last_set (i := 1) (cs' := (lgc g a (L'.put 3 (smyB (⟨0, L.prev, (-1), es⟩ : Smy))).sg (L'.put 3 (smyB (⟨0, L.prev, (-1), es⟩ : Smy))).sl (L'.sum 3 (smyB (⟨0, L.prev, (-1), es⟩ : Smy))) lf' lsm' (L'.put 3 (smyB (⟨0, L.prev, (-1), es⟩ : Smy))).n).toArray) E M rfl rfl rfl rfl rfl rfl (run_store1' (v := _) rfl rfl rfl T.size32 (M.row (i := 1) rfl) (sz39b (lgc_size (sumOf_len _)) rfl) (Reads.oneR (M.reads 0 rfl)) (congrArg List.toArray (lgc_setlsm (sumOf_len _) lsm'))) rfl fun fr w M E => ?_
      refine then_normal ?_
      refine code_region ?_
      refine sw (v := .pointer (some ⟨_, 33, none⟩)) E (run_fieldAddr rfl rfl T.fld39_2) fun fr E => ?_
      refine sw (v := .int .i64 (-1)) E (run_loadB rfl rfl T.one3 (M.row (i := 8) rfl) (smc_n hp)) fun fr E => ?_
      refine sw (v := .bool false) E (tst rfl (decide_eq_false (by omega))) fun fr E => ?_
      refine seq_nil' ?_
      refine cond_false E rfl (rfl) ?_
      refine wp_skip ?_
      refine ret0 E rfl ?_
      have M := M.pull 6 rfl
      have M := M.pull 4 rfl
      have M := M.pull 4 rfl
      have M := M.pull 4 rfl
      have M := M.pull 7 rfl
      have M := M.pull 7 rfl
      have M := Mem.pourR M (by decide)
      have M := (((((M.pull 5 rfl).pull 5 rfl).pull 5 rfl).pull 5 rfl).pull 5 rfl)
      have M := Mem.take (L := [.blk gl (.cells (lgc g a (L'.put 3 (smyB (⟨0, L.prev, (-1), es⟩ : Smy))).sg (L'.put 3 (smyB (⟨0, L.prev, (-1), es⟩ : Smy))).sl (L'.sum 3 (smyB (⟨0, L.prev, (-1), es⟩ : Smy))) lf' lsm' (L'.put 3 (smyB (⟨0, L.prev, (-1), es⟩ : Smy))).n).toArray 34), dkE D2, nmE N2, .row 36 34 lf' L.begun.froms.length (askC L.begun.froms), .row 39 35 lsm' (X0.qs.length + 1) (smC X0.qs ++ (⟨0, L.prev, (-1), es⟩ : Smy).cells ev), .rows 35 ((ev, ecs es) :: (X0.qs.map rowQ).reverse)]) M
      rw [hbt]
      refine ⟨⟨lf', lsm', (X0.qs ++ [((⟨0, L.prev, (-1), es⟩ : Smy), ev)]), D2, N2⟩, rfl, Mem.fin (M.as ?_) (.refl _) ⟨hI2, ?_⟩⟩
      · show _ = lgE gl g a (L'.close (⟨0, L.prev, (-1), es⟩ : Smy)) ⟨lf', lsm', (X0.qs ++ [((⟨0, L.prev, (-1), es⟩ : Smy), ev)]), D2, N2⟩; rw [close_row, hfv, if_neg (show ¬ (0 : Int) ≤ -1 by decide), if_neg (show ¬ (0 : Int) ≤ -1 by decide)]; rfl
      · simp [Lg.close, hqs, hsmv]
end Go.Proofs.Ytnebjbgcibjohaa.K
end
section
namespace Go.Proofs.Ytnebjbgcibjohaa.K
open Go.RowKit Go.Rill Go.Proofs
set_option linter.unusedVariables false
set_option linter.unusedSimpArgs false
def prevOf (j : Nat) : List UInt8 := if j = 0 then List.replicate 32 0 else sumOf j
theorem prevOf_len (j : Nat) : (prevOf j).length = 32 := by
  unfold prevOf
  split
  · simp
  · exact sumOf_len _
def dataE (j i : Nat) : Ety := ⟨1, (i : Int), (((j + i) % 32 : Nat) : Int), sumOf (j + i + 1)⟩
def dataL (j d : Nat) : List Ety := (List.range d).map (dataE j)
theorem dataL_succ (j d : Nat) : dataL j (d + 1) = dataL j d ++ [dataE j d] := by simp [dataL, List.range_succ]
theorem dataL_len (j d : Nat) : (dataL j d).length = d := by simp [dataL]
theorem dataL_ok (j d : Nat) : EOk (dataL j d) := fun e he => by
  obtain ⟨i, _, rfl⟩ := List.mem_map.1 he
  exact sumOf_len _
def lastE : Int → List Ety → Int
  | last, [] => last
  | last, e :: r => if e.k = 2 then lastE last r else lastE e.s r
theorem lastE_snoc {e : Ety} : ∀ {last : Int} {es : List Ety}, lastE last (es ++ [e]) = if e.k = 2 then lastE last es else e.s
  | last, [] => by simp [lastE]
  | last, a :: r => by
    rw [List.cons_append, lastE, lastE]
    by_cases h : a.k = 2
    · rw [if_pos h, if_pos h, lastE_snoc]
    · rw [if_neg h, if_neg h, lastE_snoc]
theorem checkE_snoc {e : Ety} (h1 : 1 ≤ e.k ∧ e.k ≤ 3) (h2 : PlacedE e) : ∀ {last : Int} {es : List Ety}, checkE last es = 0 → (e.k = 2 ∨ ¬ (0 ≤ lastE last es ∧ ¬ e.s = lastE last es + 1)) → checkE last (es ++ [e]) = 0
  | last, [], _, h3 => by
    rw [List.nil_append]
    by_cases h : e.k = 2
    · rw [checkE_trim h1 h2 h]; rfl
    · rw [checkE_go h1 h2 h (show ¬ (0 ≤ last ∧ ¬ e.s = last + 1) from h3.resolve_left h)]; rfl
  | last, a :: r, h, h3 => by
    have hk : 1 ≤ a.k ∧ a.k ≤ 3 := Decidable.byContradiction fun c => by rw [checkE_kind c] at h; cases h
    have hp : PlacedE a := Decidable.byContradiction fun c => by rw [checkE_place hk c] at h; cases h
    rw [List.cons_append]
    unfold lastE at h3
    by_cases ha : a.k = 2
    · rw [checkE_trim hk hp ha] at h ⊢
      rw [if_pos ha] at h3
      exact checkE_snoc h1 h2 h h3
    · have ho : ¬ (0 ≤ last ∧ ¬ a.s = last + 1) := fun c => by rw [checkE_order hk hp ha c] at h; cases h
      rw [checkE_go hk hp ha ho] at h ⊢
      rw [if_neg ha] at h3
      exact checkE_snoc h1 h2 h h3
theorem dataL_check {j : Nat} : ∀ {d : Nat}, d ≤ 15 → j % 32 + d ≤ 32 → checkE (-1) (dataL j d) = 0 ∧ lastE (-1) (dataL j d) = (if d = 0 then -1 else (((j % 32 + d - 1 : Nat)) : Int))
  | 0, _, _ => ⟨rfl, rfl⟩
  | d + 1, h, h2 => by
    obtain ⟨a, b⟩ := dataL_check (j := j) (d := d) (by omega) (by omega)
    have e1 : (j + d) % 32 = j % 32 + d := by omega
    rw [dataL_succ, lastE_snoc, if_neg (by simp [dataE]), if_neg (by omega)]
    refine ⟨checkE_snoc (by simp [dataE]) ⟨?_, ?_, .inl (by simp [dataE])⟩ a (.inr ?_), ?_⟩
    · show 0 ≤ ((d : Nat) : Int) ∧ ((d : Nat) : Int) ≤ (if (1 : Int) = 3 then 8 else 63)
      rw [if_neg (by decide)]
      omega
    · show 0 ≤ (((j + d) % 32 : Nat) : Int) ∧ (((j + d) % 32 : Nat) : Int) ≤ 63
      omega
    · rw [b]
      show ¬ (_ ∧ ¬ (((j + d) % 32 : Nat) : Int) = _)
      by_cases h0 : d = 0
      · rw [if_pos h0]; omega
      · rw [if_neg h0]; omega
    · show (((j + d) % 32 : Nat) : Int) = _
      omega
/-- A batch of the log: where it begins, how many blocks it has. -/
structure Bt (rs : List Rc) (j d : Nat) (s : Smy) : Prop where
  data : ∀ i, i < d → ∃ pl, rs[j + i]? = some (.data pl)
  smy : rs[j + d]? = some (.smy s)
  prev : s.prev = prevOf j
  es : ∃ t, s.es = dataL j d ++ t ∧ ∀ e ∈ t, e.k = 2
  seg : j % 32 + d ≤ 31
theorem Bt.app {rs q : List Rc} {j d : Nat} {s : Smy} (h : Bt rs j d s) : Bt (rs ++ q) j d s := by
  have key : ∀ {k : Nat} {r : Rc}, rs[k]? = some r → (rs ++ q)[k]? = some r := fun h => by
    rw [List.getElem?_append_left (List.getElem?_eq_some_iff.1 h).1]; exact h
  exact ⟨fun i hi => (h.data i hi).imp fun pl h => key h, key h.smy, h.prev, h.es, h.seg⟩
def jOf (Ds : List Nat) (i : Nat) : Nat := (Ds.take i).sum + i
theorem jOf_app {Ds : List Nat} {d i : Nat} (h : i ≤ Ds.length) : jOf (Ds ++ [d]) i = jOf Ds i := by
  unfold jOf
  rw [List.take_append_of_le_length h]
theorem jOf_succ {Ds : List Nat} {i : Nat} (h : i < Ds.length) : jOf Ds (i + 1) = jOf Ds i + Ds[i] + 1 := by
  unfold jOf
  rw [List.take_succ_eq_append_getElem h, List.sum_append]
  simp
  omega
theorem jOf_small {Ds : List Nat} (h : ∀ d ∈ Ds, d ≤ 15) : ∀ {i : Nat}, i ≤ Ds.length → jOf Ds i ≤ 16 * i
  | 0, _ => by simp [jOf]
  | i + 1, hi => by
    have := jOf_small h (i := i) (by omega)
    have hd := h _ (List.getElem_mem (show i < Ds.length from hi))
    rw [jOf_succ hi]
    omega
/-- A log behind its batches. -/
structure WL (L : Lg) (rs : List Rc) (Ds : List Nat) : Prop where
  inv : L.Inv rs
  len : rs.length = jOf Ds Ds.length
  small : ∀ d ∈ Ds, d ≤ 15
  sl : L.sl = ((rs.length % 32 : Nat) : Int)
  sg : L.sg = ((2 + rs.length / 32 : Nat) : Int)
  prev : L.prev = prevOf rs.length
  fl : L.froms.length = Ds.length
  ql : L.sums.length = Ds.length
  bt : ∀ i (h : i < Ds.length), L.froms[i]? = some (((2 + jOf Ds i / 32 : Nat) : Int), ((jOf Ds i % 32 : Nat) : Int), prevOf (jOf Ds i)) ∧ ∃ s, L.sums[i]? = some s ∧ Bt rs (jOf Ds i) Ds[i] s
theorem WL.new : WL Lg.new [] [] := ⟨new_inv, rfl, (fun d h => nomatch h), rfl, rfl, rfl, rfl, rfl, (fun i h => nomatch h)⟩
theorem Lg.Inv.same {L L' : Lg} {rs : List Rc} (h : L.Inv rs) (a : L'.A = L.A) (b : L'.ks = L.ks) (c : L'.ts = L.ts) (d : L'.n = L.n) (e : L'.sg * 32 + L'.sl = L.sg * 32 + L.sl) : L'.Inv rs := by
  obtain ⟨h1, h2, h3, h4, h5, h6, h7, h8, h11, h12, h9, h10⟩ := h
  exact ⟨b.trans h1, c.trans h2, d.trans h3, by rw [a]; exact h4, by rw [a]; exact h5, by rw [a]; exact h6, by rw [a]; exact h7, by rw [a]; exact h8, by rw [a]; exact h11, by rw [a]; exact h12, by omega, h10⟩
/-- The data of a batch. -/
theorem data_inv {m : Nat} {rs0 : List Rc} : ∀ (k i : Nat) (L : Lg) (es : List Ety) (ds : List Rc), L.Inv (rs0 ++ ds) → ds.length = i → (∀ q, q < i → ∃ pl, ds[q]? = some (.data pl)) → es = dataL rs0.length i → L.sl = ((rs0.length % 32 + i : Nat) : Int) → rs0.length % 32 + i ≤ 31 → i + k ≤ 15 → rs0.length ≤ 500 →
    ∃ (L' : Lg) (d : Nat) (ds' : List Rc), Lg.data (m : Int) k i L es = (L', dataL rs0.length d) ∧ L'.Inv (rs0 ++ ds') ∧ ds'.length = d ∧ (∀ q, q < d → ∃ pl, ds'[q]? = some (.data pl)) ∧ L'.sl = ((rs0.length % 32 + d : Nat) : Int) ∧ rs0.length % 32 + d ≤ 31 ∧ d ≤ 15 ∧ L'.sg = L.sg ∧ L'.prev = L.prev ∧ L'.froms = L.froms ∧ L'.sums = L.sums
  | 0, i, L, es, ds, h, hd, hq, he, hs, h31, hik, hr => ⟨L, i, ds, by rw [he]; rfl, h, hd, hq, hs, h31, by omega, rfl, rfl, rfl, rfl⟩
  | k + 1, i, L, es, ds, h, hd, hq, he, hs, h31, hik, hr => by
    by_cases hl : L.sl < 31
    · rw [data_step hl]
      have hok : (Rc.data (dataB (m : Int) i)).Ok (rs0 ++ ds).length := rfl
      have hlen : (rs0 ++ ds).length = rs0.length + i := by rw [List.length_append, hd]
      have h2 := h.put (r := .data (dataB (m : Int) i)) (by omega) hok
      have hsum := h.sum (r := .data (dataB (m : Int) i)) (by omega) hok
      rw [List.append_assoc] at h2
      have h2 : (L.put 4 (dataB (m : Int) i)).Inv (rs0 ++ (ds ++ [.data (dataB (m : Int) i)])) := h2
      obtain ⟨L', d, ds', a1, a2⟩ := data_inv (m := m) (rs0 := rs0) k (i + 1) (L.put 4 (dataB (m : Int) i)) (es ++ [⟨1, (i : Int), L.sl, L.sum 4 (dataB (m : Int) i)⟩]) (ds ++ [.data (dataB (m : Int) i)]) h2 (by simp [hd]) (fun q hq2 => by
        by_cases c : q < i
        · rw [List.getElem?_append_left (by omega)]; exact hq q c
        · have : q = i := by omega
          subst this
          rw [List.getElem?_append_right (by omega), hd, Nat.sub_self]
          exact ⟨_, rfl⟩) (by
        rw [dataL_succ, he]
        have e2 : L.sum 4 (dataB (m : Int) i) = sumOf (rs0.length + i + 1) := by rw [← hlen]; exact hsum
        have e3 : (rs0.length + i) % 32 = rs0.length % 32 + i := by omega
        unfold dataE
        rw [e2, hs, e3]) (by show L.sl + 1 = _; omega) (by omega) (by omega) hr
      exact ⟨L', d, ds', a1, a2⟩
    · rw [data_stop hl]
      exact ⟨L, i, ds, by rw [he], h, hd, hq, hs, h31, by omega, rfl, rfl, rfl, rfl⟩
section
variable {L : Lg} {rs : List Rc} {Ds : List Nat} {m : Nat} {t : Bool}
/-- A batch more. -/
theorem WL.batch (h : WL L rs Ds) (hn : Ds.length < 30) (hm : m ≤ 15) : checkS (Lg.smy L.prev t (Lg.data (m : Int) m 0 L.begun [])) = 0 ∧ ∃ rs' d, WL (L.batch m t) rs' (Ds ++ [d]) := by
  have hjs := jOf_small h.small (Nat.le_refl _)
  have hl := h.len
  have hb : L.begun.Inv (rs ++ []) := by rw [List.append_nil]; exact h.inv.same rfl rfl rfl rfl rfl
  obtain ⟨L', d, ds, e0, hi, hdl, hq, hsl, h31, hd15, hsg, hpv, hfr, hsm⟩ := data_inv (m := m) m 0 L.begun [] [] hb rfl (fun q h => nomatch h) rfl h.sl (by omega) (by omega) (by omega)
  obtain ⟨hce, hle⟩ := dataL_check (j := rs.length) hd15 (by omega)
  rw [e0]
  obtain ⟨s, hs⟩ : ∃ s, s = Lg.smy L.prev t (L', dataL rs.length d) := ⟨_, rfl⟩
  have hsgr : L'.sg = ((2 + rs.length / 32 : Nat) : Int) := hsg.trans h.sg
  have hpos := hi.pos
  have hlen : (rs ++ ds).length = rs.length + d := by rw [List.length_append, hdl]
  have hnx : s.next = if (rs.length + d) % 32 = 31 then ((3 + (rs.length + d) / 32 : Nat) : Int) else -1 := by
    rw [hs]
    show (if L'.sl = 31 then L'.sg + 1 else -1) = _
    by_cases c : rs.length % 32 + d = 31
    · rw [if_pos (by omega), if_pos (by omega), hsgr]; omega
    · rw [if_neg (by omega), if_neg (by omega)]
  have hes : s.es = dataL rs.length d ++ (if t then [trimE] else []) := by rw [hs]; rfl
  have hso : s.Ok := ⟨by rw [hs]; show L.prev.length = 32; rw [h.prev]; exact prevOf_len _, by
    rw [hes]
    cases t with
    | true => exact (dataL_ok _ _).snoc (by simp [trimE, Ety.Ok])
    | false => rw [if_neg (by decide), List.append_nil]; exact dataL_ok _ _⟩
  have hck : checkS s = 0 := by
    unfold checkS
    have hst : s.st = 0 := by rw [hs]; rfl
    have hln : s.es.length ≤ 16 := by rw [hes, List.length_append, dataL_len]; split <;> simp <;> omega
    rw [if_neg (by omega), if_neg (fun c => by
      rw [hst, hnx] at c
      split at c <;> omega), hes]
    cases t with
    | true => exact checkE_snoc (by decide) (by decide) hce (.inl rfl)
    | false => rw [if_neg (by decide), List.append_nil]; exact hce
  refine ⟨hs ▸ hck, rs ++ (ds ++ [.smy s]), d, ?_⟩
  have hbt : L.batch m t = L'.close s := by unfold Lg.batch; rw [e0, ← hs]
  have hok : (Rc.smy s).Ok (rs ++ ds).length := ⟨hso, hck, by rw [hlen]; exact hnx⟩
  have hput := hi.put (r := .smy s) (by omega) hok
  have hsum := hi.sum (r := .smy s) (by omega) hok
  rw [List.append_assoc] at hput
  have hfull : (rs ++ (ds ++ [Rc.smy s])).length = rs.length + d + 1 := by simp [hdl]; omega
  have hBt : Bt (rs ++ (ds ++ [.smy s])) rs.length d s := by
    refine ⟨fun i hi' => ?_, ?_, by rw [hs]; exact h.prev, ⟨_, hes, fun e he => by cases t with | true => simp at he; subst he; rfl | false => simp at he⟩, h31⟩
    · rw [List.getElem?_append_right (by omega), Nat.add_sub_cancel_left, List.getElem?_append_left (by omega)]
      exact hq i hi'
    · rw [List.getElem?_append_right (by omega), Nat.add_sub_cancel_left, List.getElem?_append_right (by omega), hdl, Nat.sub_self]
      rfl
  have hsl2 : (L'.close s).sl = (((rs.length + d + 1) % 32 : Nat) : Int) ∧ (L'.close s).sg = ((2 + (rs.length + d + 1) / 32 : Nat) : Int) := by
    show (if 0 ≤ s.next then (0 : Int) else L'.sl + 1) = _ ∧ (if 0 ≤ s.next then s.next else L'.sg) = _
    by_cases c : (rs.length + d) % 32 = 31
    · rw [if_pos c] at hnx; rw [if_pos (by omega), if_pos (by omega), hnx]; omega
    · rw [if_neg c] at hnx; rw [if_neg (by omega), if_neg (by omega)]; omega
  rw [hbt]
  have hj : jOf (Ds ++ [d]) Ds.length = rs.length := by rw [jOf_app (Nat.le_refl _)]; exact hl.symm
  refine ⟨hput.same rfl rfl rfl rfl ?_, ?_, fun x hx => ?_, by rw [hfull]; exact hsl2.1, by rw [hfull]; exact hsl2.2, ?_, ?_, ?_, fun i hi' => ?_⟩
  · have hp2 := hput.pos
    rw [hfull] at hp2
    rw [hsl2.1, hsl2.2]
    omega
  · rw [hfull, List.length_append, List.length_singleton, jOf_succ (by simp), hj]
    simp
  · rcases List.mem_append.1 hx with hx | hx
    · exact h.small x hx
    · rw [List.mem_singleton.1 hx]; exact hd15
  · show L'.sum 3 (smyB s) = _
    rw [hfull]
    unfold prevOf
    rw [if_neg (by omega), ← hlen]
    exact hsum
  · show L'.froms.length = _
    rw [hfr]
    show (L.froms ++ [_]).length = _
    rw [List.length_append, List.length_append, h.fl]
    rfl
  · show (L'.sums ++ [s]).length = _
    rw [hsm, List.length_append, List.length_append, show L.begun.sums.length = _ from h.ql]
    rfl
  · show L'.froms[i]? = _ ∧ ∃ s', (L'.sums ++ [s])[i]? = some s' ∧ _
    rw [hfr, hsm]
    show (L.froms ++ [(L.sg, L.sl, L.prev)])[i]? = _ ∧ ∃ s', (L.sums ++ [s])[i]? = some s' ∧ _
    rw [List.length_append, List.length_singleton] at hi'
    by_cases c : i < Ds.length
    · obtain ⟨b1, s', b2, b3⟩ := h.bt i c
      rw [jOf_app (by omega), List.getElem?_append_left (by rw [h.fl]; exact c), List.getElem?_append_left (by rw [h.ql]; exact c)]
      refine ⟨b1, s', b2, ?_⟩
      rw [List.getElem_append_left c]
      exact b3.app
    · have : i = Ds.length := by omega
      subst this
      refine ⟨?_, s, ?_, ?_⟩
      · rw [hj, ← h.fl, List.getElem?_append_right (Nat.le_refl _), Nat.sub_self, h.sg, h.sl, h.prev]; rfl
      · rw [← h.ql, List.getElem?_append_right (Nat.le_refl _), Nat.sub_self]; rfl
      · rw [hj, List.getElem_append_right (Nat.le_refl _)]
        simpa using hBt
end
/-- The log of these batches. -/
def Lg.writes : List (Int × Bool) → Lg → Lg
  | [], L => L
  | q :: r, L => Lg.writes r (L.batch (pickN q.1 16) q.2)
end Go.Proofs.Ytnebjbgcibjohaa.K
end
section
namespace Go.Proofs.Ytnebjbgcibjohaa.K
open Go.RowKit Go.Rill Go.Proofs
set_option linter.unusedVariables false
set_option linter.unusedSimpArgs false
theorem writes_snoc {q : Int × Bool} : ∀ {l : List (Int × Bool)} {L : Lg}, Lg.writes (l ++ [q]) L = (Lg.writes l L).batch (pickN q.1 16) q.2
  | [], _ => rfl
  | _ :: r, L => writes_snoc (l := r)
def lgOf (l : List (Int × Bool)) : Lg := Lg.writes (l.take 30) Lg.new
def szC (l : List (Int × Bool)) : List Value := (l.map fun q => [.int .i64 q.1, .bool q.2]).flatten
theorem szC_at : ∀ {l : List (Int × Bool)} {i : Nat} (h : i < l.length), (szC l)[i * 2 + 0]? = some (.int .i64 (l[i]).1) ∧ (szC l)[i * 2 + 1]? = some (.bool (l[i]).2)
  | q :: r, 0, _ => ⟨rfl, rfl⟩
  | q :: r, i + 1, h => by
    have := szC_at (l := r) (i := i) (by simpa using h)
    rw [show (i + 1) * 2 + 0 = (i * 2 + 0) + 1 + 1 by omega, show (i + 1) * 2 + 1 = (i * 2 + 1) + 1 + 1 by omega]
    exact this
theorem szC_b {l : List (Int × Bool)} {i : Nat} (h : i < l.length) : (szC l)[i * 2 + 0]? = some (.int .i64 (l[i]).1) := (szC_at h).1
theorem szC_t {l : List (Int × Bool)} {i : Nat} (h : i < l.length) : (szC l)[i * 2 + 1]? = some (.bool (l[i]).2) := (szC_at h).2
theorem WL.bounds {L : Lg} {rs : List Rc} {Ds : List Nat} (h : WL L rs Ds) (hl : Ds.length ≤ 30) : L.prev.length = 32 ∧ (0 ≤ L.sg ∧ L.sg ≤ 17) ∧ (0 ≤ L.sl ∧ L.sl ≤ 31) ∧ (0 ≤ L.n ∧ L.n ≤ 480) ∧ L.ks.length ≤ 480 ∧ L.ts.length ≤ 480 ∧ L.froms.length ≤ 30 ∧ L.sums.length ≤ 30 := by
  have hj := jOf_small h.small (Nat.le_refl _)
  have hn := h.len
  refine ⟨by rw [h.prev]; exact prevOf_len _, by rw [h.sg]; omega, by rw [h.sl]; omega, by rw [h.inv.n]; omega, by rw [h.inv.ks, List.length_mapIdx]; omega, by rw [h.inv.ts, List.length_mapIdx]; omega, by rw [h.fl]; exact hl, by rw [h.ql]; exact hl⟩
theorem WL.of (l : List (Int × Bool)) : ∀ {i : Nat}, i ≤ l.length → i ≤ 30 → ∃ rs Ds, WL (Lg.writes (l.take i) Lg.new) rs Ds ∧ Ds.length = i
  | 0, _, _ => ⟨[], [], WL.new, rfl⟩
  | i + 1, h, h30 => by
    obtain ⟨rs, Ds, hW, hD⟩ := WL.of l (i := i) (by omega) (by omega)
    have hi : i < l.length := h
    rw [List.take_succ_eq_append_getElem hi, writes_snoc]
    have hpk := pickN_lt (k := (l[i]).1) (m := 16) (by decide)
    obtain ⟨_, rs', d, hW'⟩ := hW.batch (m := pickN (l[i]).1 16) (t := (l[i]).2) (by omega) (by omega)
    exact ⟨rs', _, hW', by simp [hD]⟩
/-- What write leaves. -/
theorem WL.lgOf (l : List (Int × Bool)) : ∃ rs Ds, WL (lgOf l) rs Ds ∧ Ds.length ≤ 30 := by
  unfold K.lgOf
  by_cases h : l.length ≤ 30
  · rw [List.take_of_length_le h]
    obtain ⟨rs, Ds, h1, h2⟩ := WL.of l (Nat.le_refl _) h
    rw [List.take_length] at h1
    exact ⟨rs, Ds, h1, by omega⟩
  · obtain ⟨rs, Ds, h1, h2⟩ := WL.of l (i := 30) (by omega) (Nat.le_refl _)
    exact ⟨rs, Ds, h1, by omega⟩
theorem batch_x {gl g a m : Nat} {L : Lg} {X0 : LX} {w0 : World} (H : Has w0 (lgE gl g a L X0)) (hLg : LgIs X0.D X0.N g a L) (hqs : X0.qs.map (·.1) = L.sums) (hm : m ≤ 15) (hp : L.prev.length = 32) (hsg : 0 ≤ L.sg ∧ L.sg ≤ 18) (hsl : 0 ≤ L.sl ∧ L.sl ≤ 31) (hn : 0 ≤ L.n ∧ L.n ≤ 900) (hkz : L.ks.length ≤ 50000) (htz : L.ts.length ≤ 50000) (hfz : L.froms.length ≤ 100) (hqz : X0.qs.length ≤ 100) {t : Bool} (hchk : checkS (Lg.smy L.prev t (Lg.data m m 0 L.begun [])) = 0) : Does Try.prog 22 [.pointer (some ⟨gl, 0, none⟩), .int .i64 (m : Int), .bool t] w0 (lgE gl g a L X0) (fun _ : LX => .tuple #[]) (fun y => lgE gl g a (L.batch m t) y) (fun y => LgIs y.D y.N g a (L.batch m t) ∧ y.qs.map (·.1) = (L.batch m t).sums) := by
  cases t with
  | true => exact batch_t H hLg hqs hm hp hsg hsl hn hkz htz hfz hqz hchk
  | false => exact batch_f H hLg hqs hm hp hsg hsl hn hkz htz hfz hqz hchk

theorem _root_.Go.Rill.Mem.ofBegun {gl : Nat} {D : DV} {N : NV} {w0 w : World} {O : Nat → Prop} {Φ : World → Prop} {R : List Ent} (M : Mem w0 O (.blk gl (.cells (lgc D.gd N.gn 2 0 (List.replicate 32 0) (.slice none 0 0) (.slice none 0 0) 0).toArray 34) :: dkE D :: nmE N :: R) Φ w) : Mem w0 O (lgE gl D.gd N.gn Lg.new ⟨.slice none 0 0, .slice none 0 0, [], D, N⟩) Φ w := by
  have M := ((M.nilRows 35).nilRowF 39 35).nilRowF 36 34
  have M := ((M.pull 5 rfl).pull 5 rfl).pull 5 rfl
  exact Mem.take (L := lgE gl D.gd N.gn Lg.new ⟨.slice none 0 0, .slice none 0 0, [], D, N⟩) M

set_option maxHeartbeats 1000000 in
set_option maxRecDepth 100000 in
theorem write_x {a : Value} {l : List (Int × Bool)} {w0 : World} (hb : Reads 2 w0 a l.length (szC l)) : Does Try.prog 6 [a] w0 [] (fun x : Nat × Nat × Nat × LX => .pointer (some ⟨x.1, 0, none⟩)) (fun x => lgE x.1 x.2.1 x.2.2.1 (lgOf l) x.2.2.2) (fun x => LgIs x.2.2.2.D x.2.2.2.N x.2.1 x.2.2.1 (lgOf l) ∧ x.2.2.2.qs.map (·.1) = (lgOf l).sums) := by
  refine enter (n := 34) Try.func6 rfl rfl rfl ?_
  intro fr E
  have M : Mem w0 (feet []) [] (fun w' => Reads 2 w' a l.length (szC l)) w0 := Mem.begin (Has.nil w0) (fun w' h => Reads.held0 hb h)
  refine code_region ?_
  refine sw E (run_assignC rfl) fun fr E => ?_
  refine seq_nil' ?_
  refine code_region ?_
  refine scall E M rfl rfl rfl rfl rfl (run_call rfl rfl T.fn21) (begin_x _) rfl ?_
  rintro ⟨gl, D0, N0⟩ fr w ⟨hD0, hk0, ht0⟩ M E
  refine ma E fun fr E => ?_
  refine seq_nil' ?_
  refine wp_seq ?_
  refine code_region ?_
  refine sw E (run_assignC rfl) fun fr E => ?_
  refine seq_nil' ?_
  refine wp_block ?_
  refine loop_dec (fun d fr w => ∃ (i : Nat) (L : Lg) (X0 : LX) (rs : List Rc) (Ds : List Nat), d = l.length - i ∧ i ≤ l.length ∧ i ≤ 30 ∧ L = Lg.writes (l.take i) Lg.new ∧ WL L rs Ds ∧ Ds.length = i ∧ LgIs X0.D X0.N D0.gd N0.gn L ∧ X0.qs.map (·.1) = L.sums ∧ Env [(4, .int .i64 (i : Int)), (3, .pointer (some ⟨gl, 0, none⟩)), (0, a)] 34 fr ∧ Mem w0 (feet []) (lgE gl D0.gd N0.gn L X0) (fun w' => Reads 2 w' a l.length (szC l)) w) (l.length) ?_ ?_
  · have M := M.pull 2 rfl
    have M := M.pull 2 rfl
    have M := M.pull 2 rfl
    have M := Mem.ofBegun M
    exact ⟨0, Lg.new, ⟨.slice none 0 0, .slice none 0 0, [], D0, N0⟩, [], [], rfl, Nat.zero_le _, by decide, rfl, WL.new, rfl, ⟨hD0, rfl, hk0, ht0⟩, rfl, (((Env.nil E).add E (t := 0) rfl).add E (t := 3) rfl).add E (t := 4) rfl, M⟩
  · clear E M
    rintro d fr w ⟨i, L, X0, rs, Ds, rfl, hle, hi30, hLe, hW, hDl, hLg, hqs, E, M⟩
    by_cases hi : i < l.length
    · by_cases h30 : i < 30
      · obtain ⟨b1, b2, b3, b4, b5, b6, b7, b8⟩ := hW.bounds (by omega)
        have hql : X0.qs.length = L.sums.length := by rw [← hqs, List.length_map]
        have hpk := pickN_lt (k := (l[i]).1) (m := 16) (by decide)
        obtain ⟨hchk, rs', d', hW'⟩ := hW.batch (m := pickN (l[i]).1 16) (t := (l[i]).2) (by omega) (by omega)
        refine wp_seq ?_
        refine code_region ?_
        refine mv E fun fr E => ?_
        refine sw (v := .bool true) E (tst rfl (rfl)) fun fr E => ?_
        refine mv E fun fr E => ?_
        refine mv E fun fr E => ?_
        refine mv E fun fr E => ?_
        refine sw (v := .int .i64 _) E (run_lenR rfl rfl rfl rfl T.slice22 M.fact) fun fr E => ?_
        refine sw (v := .bool true) E (tst rfl (decide_eq_true (by omega))) fun fr E => ?_
        refine sw (v := .bool _) E (rfl) fun fr E => ?_
        refine mv E fun fr E => ?_
        refine mv E fun fr E => ?_
        refine sw (v := .bool true) E (tst rfl (decide_eq_true (by omega))) fun fr E => ?_
        refine sw (v := .bool _) E (rfl) fun fr E => ?_
        refine seq_nil' ?_
        refine cond_true E rfl (rfl) ?_
        refine wp_skip ?_
        refine then_normal ?_
        refine wp_seq ?_
        refine wp_block ?_
        have M : Mem _ _ ((lgE gl D0.gd N0.gn L X0) ++ _) _ _ := M
        refine (free_regR (B := T.tab6_5_b) (Vs := (.exact _ :: .exact _ :: .exact _ :: .exact (cellAt a (i * 2)) :: .exact (cellAt a (i * 2 + 0)) :: .exact (.int .i64 (l[i]).1) :: .exact (.int .i64 ((pickN (l[i]).1 16 : Nat) : Int)) :: .exact _ :: .exact _ :: .exact (cellAt a (i * 2)) :: .exact (cellAt a (i * 2 + 1)) :: .exact (.bool (l[i]).2) :: CameI w.heap.size ((lgE gl D0.gd N0.gn L X0)) (fun _ : LX => .tuple #[]) (fun y => lgE gl D0.gd N0.gn (L.batch (pickN (l[i]).1 16) (l[i]).2) y) (fun y => LgIs y.D y.N D0.gd N0.gn (L.batch (pickN (l[i]).1 16) (l[i]).2) ∧ y.qs.map (·.1) = (L.batch (pickN (l[i]).1 16) (l[i]).2).sums) :: [])) (ownRoad (oneFs 12 ((lgE gl D0.gd N0.gn L X0))) w.drew) T.tab6_5_i E T.mixed T.tab6_5 rfl ?_ ⟨fr_val rfl rfl M (fun i g h => h.2) (fun x w' M' hB hk => ⟨_, _, rfl, rfl, rfl, run_move rfl rfl, Ext.refl _, rfl⟩),
      fr_val rfl rfl M (fun i g h => h.2) (fun x w' M' hB hk => ⟨_, _, rfl, rfl, rfl, run_move rfl rfl, Ext.refl _, rfl⟩),
      fr_val rfl rfl M (fun i g h => h.2) (fun x w' M' hB hk => ⟨_, _, rfl, rfl, rfl, run_move rfl rfl, Ext.refl _, rfl⟩),
      fr_val rfl rfl M (fun i g h => h.2) (fun x w' M' hB hk => ⟨_, _, rfl, rfl, rfl, run_indexR (i := i) rfl M'.fact rfl rfl (rfl) (hi) T.slice22 T.size69, Ext.refl _, rfl⟩),
      fr_val rfl rfl M (fun i g h => h.2) (fun x w' M' hB hk => ⟨_, _, rfl, rfl, rfl, run_fieldAddrR rfl M'.fact rfl T.fld69_0 (by omega), Ext.refl _, rfl⟩),
      fr_val rfl rfl M (fun i g h => h.2) (fun x w' M' hB hk => ⟨_, _, rfl, rfl, rfl, run_loadR rfl M'.fact rfl T.one3 (szC_b hi), Ext.refl _, rfl⟩),
      fr_ext rfl rfl M (fun i g h => h.2) (fun x w' M' hB hk => ⟨_, _, rfl, rfl, rfl, run_call rfl rfl T.fn13, (Pick_x (k := (l[i]).1) (m := 16) (by decide) (by decide)).ext⟩),
      fr_val rfl rfl M (fun i g h => h.2) (fun x w' M' hB hk => ⟨_, _, rfl, rfl, rfl, run_move rfl rfl, Ext.refl _, rfl⟩),
      fr_val rfl rfl M (fun i g h => h.2) (fun x w' M' hB hk => ⟨_, _, rfl, rfl, rfl, run_move rfl rfl, Ext.refl _, rfl⟩),
      fr_val rfl rfl M (fun i g h => h.2) (fun x w' M' hB hk => ⟨_, _, rfl, rfl, rfl, run_indexR (i := i) rfl M'.fact rfl rfl (rfl) (hi) T.slice22 T.size69, Ext.refl _, rfl⟩),
      fr_val rfl rfl M (fun i g h => h.2) (fun x w' M' hB hk => ⟨_, _, rfl, rfl, rfl, run_fieldAddrR rfl M'.fact rfl T.fld69_1 (by omega), Ext.refl _, rfl⟩),
      fr_val rfl rfl M (fun i g h => h.2) (fun x w' M' hB hk => ⟨_, _, rfl, rfl, rfl, run_loadR rfl M'.fact rfl T.one4 (szC_t hi), Ext.refl _, rfl⟩),
      fr_call (J := (lgE gl D0.gd N0.gn L X0)) rfl rfl M (fun i g h => h.2) M.front (fun j hj g hjg => absurd hjg.1 hj) (fun x w' M' H' hB hk => ⟨_, _, rfl, rfl, rfl, run_call rfl rfl T.fn22, (batch_x (L := L) (X0 := X0) (m := pickN (l[i]).1 16) H' hLg hqs (by omega) b1 ⟨b2.1, by omega⟩ b3 ⟨b4.1, by omega⟩ (by omega) (by omega) (by omega) (by omega) hchk).own (Fs := oneFs 12 ((lgE gl D0.gd N0.gn L X0))) (i := 12) hB (fun g hg => ⟨rfl, hg⟩)⟩), trivial⟩ ?_)
        · exact one_okW rfl ((allY_ex (allY_ex (allY_ex (allY_ex (allY_ex (allY_ex (allY_ex (allY_ex (allY_ex (allY_ex (allY_ex (allY_ex (allY_in rfl LastsR.came1 allY_nil))))))))))))))
        intro x fr w ⟨b, hb, hI⟩ hk E
        obtain ⟨X2, hy, ⟨hL2, hq2⟩, M⟩ := M.behind (val := fun _ : LX => .tuple #[]) (outs := fun y => lgE gl D0.gd N0.gn (L.batch (pickN (l[i]).1 16) (l[i]).2) y) (p := fun y => LgIs y.D y.N D0.gd N0.gn (L.batch (pickN (l[i]).1 16) (l[i]).2) ∧ y.qs.map (·.1) = (L.batch (pickN (l[i]).1 16) (l[i]).2).sums) hI (hk 12 (by decide))
        refine block_normal ?_
        refine then_normal ?_
        refine code_last ?_
        refine mv E fun fr E => ?_
        refine sw (v := .int _ (((i + 1 : Nat) : Int))) E (num rfl ((i64_id (by omega) (by omega)).trans (by omega))) fun fr E => ?_
        refine ma E fun fr E => ?_
        refine seq_nil ?_
        refine then_any ?_
        exact ⟨l.length - (i + 1), by omega, i + 1, (L.batch (pickN (l[i]).1 16) (l[i]).2), X2, rs', Ds ++ [d'], rfl, by omega, by omega, by rw [List.take_succ_eq_append_getElem hi, writes_snoc, ← hLe], hW', by simp [hDl], hL2, hq2, (((Env.nil E).add E (t := 0) rfl).add E (t := 3) rfl).add E (t := 4) rfl, Mem.take (L := lgE gl D0.gd N0.gn (L.batch (pickN (l[i]).1 16) (l[i]).2) X2) M⟩
      · have e30 : l.take 30 = l.take i := by rw [show i = 30 by omega]
        refine wp_seq ?_
        refine code_region ?_
        refine mv E fun fr E => ?_
        refine sw (v := .bool true) E (tst rfl (rfl)) fun fr E => ?_
        refine mv E fun fr E => ?_
        refine mv E fun fr E => ?_
        refine mv E fun fr E => ?_
        refine sw (v := .int .i64 _) E (run_lenR rfl rfl rfl rfl T.slice22 M.fact) fun fr E => ?_
        refine sw (v := .bool true) E (tst rfl (decide_eq_true (by omega))) fun fr E => ?_
        refine sw (v := .bool _) E (rfl) fun fr E => ?_
        refine mv E fun fr E => ?_
        refine mv E fun fr E => ?_
        refine sw (v := .bool false) E (tst rfl (decide_eq_false (by omega))) fun fr E => ?_
        refine sw (v := .bool _) E (rfl) fun fr E => ?_
        refine seq_nil' ?_
        refine cond_false E rfl (rfl) ?_
        refine wp_exit ?_
        refine then_exit ?_
        refine then_exit ?_
        refine block_exit ?_
        refine then_normal ?_
        refine code_region ?_
        refine mv E fun fr E => ?_
        refine ma E fun fr E => ?_
        refine seq_nil' ?_
        refine wp_ret ?_
        refine ret1 E rfl rfl ?_
        have hLo : L = lgOf l := by unfold lgOf; rw [e30]; exact hLe
        rw [hLo] at hLg hqs M
        exact ⟨(gl, D0.gd, N0.gn, X0), rfl, Mem.fin M (.refl _) ⟨hLg, hqs⟩⟩
    · have e30 : l.take 30 = l.take i := by rw [List.take_of_length_le (by omega), List.take_of_length_le (by omega)]
      refine wp_seq ?_
      refine code_region ?_
      refine mv E fun fr E => ?_
      refine sw (v := .bool true) E (tst rfl (rfl)) fun fr E => ?_
      refine mv E fun fr E => ?_
      refine mv E fun fr E => ?_
      refine mv E fun fr E => ?_
      refine sw (v := .int .i64 _) E (run_lenR rfl rfl rfl rfl T.slice22 M.fact) fun fr E => ?_
      refine sw (v := .bool false) E (tst rfl (decide_eq_false (by omega))) fun fr E => ?_
      refine sw (v := .bool _) E (rfl) fun fr E => ?_
      refine mv E fun fr E => ?_
      refine sno E rfl rfl rfl rfl fun fr E => ?_
      refine sno E rfl rfl rfl rfl fun fr E => ?_
      refine sw (v := .bool _) E (rfl) fun fr E => ?_
      refine seq_nil' ?_
      refine cond_false E rfl (rfl) ?_
      refine wp_exit ?_
      refine then_exit ?_
      refine then_exit ?_
      refine block_exit ?_
      refine then_normal ?_
      refine code_region ?_
      refine mv E fun fr E => ?_
      refine ma E fun fr E => ?_
      refine seq_nil' ?_
      refine wp_ret ?_
      refine ret1 E rfl rfl ?_
      have hLo : L = lgOf l := by unfold lgOf; rw [e30]; exact hLe
      rw [hLo] at hLg hqs M
      exact ⟨(gl, D0.gd, N0.gn, X0), rfl, Mem.fin M (.refl _) ⟨hLg, hqs⟩⟩
end Go.Proofs.Ytnebjbgcibjohaa.K
end
section
namespace Go.Proofs.Ytnebjbgcibjohaa.K
open Go.RowKit Go.Rill Go.Proofs
set_option linter.unusedVariables false
set_option linter.unusedSimpArgs false
theorem nat_idx {T : Type} [DecidableEq T] {k : T} : ∀ {ks : List T} {j i : Nat}, ks[j]? = some k → (∀ q, q < j → ks[q]? ≠ some k) → nat' k ks i = some (i + j)
  | [], _, _, h, _ => by simp at h
  | a :: r, 0, i, h, _ => by
    simp only [List.getElem?_cons_zero, Option.some.injEq] at h
    subst h
    unfold nat'
    rw [if_pos rfl]; rfl
  | a :: r, j + 1, i, h, hn => by
    unfold nat'
    have h0 := hn 0 (by omega)
    rw [if_neg (fun c => h0 (by rw [c]; rfl)), nat_idx (ks := r) (j := j) (by simpa using h) fun q hq => by have := hn (q + 1) (by omega); simpa using this]
    congr 1; omega
theorem nat_in {T : Type} [DecidableEq T] {k : T} : ∀ {ks : List T} {i m : Nat}, nat' k ks i = some m → k ∈ ks
  | [], _, _, h => by cases h
  | a :: r, i, m, h => by
    unfold nat' at h
    split at h
    · rename_i e; rw [e]; exact List.mem_cons_self ..
    · exact List.mem_cons_of_mem _ (nat_in h)
/-- What is got was sealed. -/
theorem sget_key {ks : List NKey} {kd at' e n : Int} {l q : List UInt8} (h : sgetX ks kd at' l = some (e, n, q)) : kindOf l = kd ∧ e = secE l ∧ n = secN l ∧ ∃ m, nat' (⟨e, n, hdB kd at', q⟩ : NKey) ks 0 = some m ∧ l.drop 17 = q ++ tagOf (m + 1) := by
  unfold sgetX at h
  split at h
  · rename_i hc
    rw [Option.map_eq_some_iff] at h
    obtain ⟨q', h1, h2⟩ := h
    simp only [Prod.mk.injEq] at h2
    obtain ⟨rfl, rfl, rfl⟩ := h2
    refine ⟨hc.2.2.2.1, rfl, rfl, ?_⟩
    unfold openN at h1
    split at h1
    · cases h1
    · split at h1
      · cases h1
      · rename_i m hm
        split at h1
        · rename_i ht
          injection h1 with h1
          subst h1
          exact ⟨m, hm, by rw [← ht, List.take_append_drop]⟩
        · cases h1
  · cases h
def smyAt (rs : List Rc) (i : Nat) : Smy := match rs[i - 67]? with
  | some (.smy s) => s
  | _ => ⟨0, [], 0, []⟩
theorem hdB_inj {k k' a b : Int} (h : hdB k a = hdB k' b) (a0 : 0 ≤ a ∧ a ≤ 100000) (b0 : 0 ≤ b ∧ b ≤ 100000) : UInt8.ofInt k = UInt8.ofInt k' ∧ a = b := by
  simp only [hdB, List.singleton_append, List.cons.injEq] at h
  exact ⟨h.1, be8_inj h.2 (by omega) (by omega) (by omega) (by omega)⟩
section
variable {L : Lg} {rs : List Rc}
theorem rc_at {j : Nat} (h : j < rs.length) : (rs.mapIdx keyL)[j]? = some (keyL j rs[j]) ∧ (rs.mapIdx secL)[j]? = some (secL j rs[j]) := by
  constructor <;> simp [h]
theorem key_idx {j : Nat} (h : j < rs.length) : nat' (keyL j rs[j]) (rs.mapIdx keyL) 0 = some j := by
  have := nat_idx (i := 0) (rc_at h).1 fun q hq c => by
    have hq' : q < rs.length := by omega
    rw [(rc_at hq').1] at c
    have e := congrArg NKey.n (Option.some.inj c)
    have e : ((q : Nat) : Int) + 1 = ((j : Nat) : Int) + 1 := e
    omega
  rwa [Nat.zero_add] at this
theorem sec_idx {j : Nat} (h : j < rs.length) (hl : rs.length ≤ 600) (z : List (List UInt8)) : nat' (secL j rs[j]) (rs.mapIdx secL ++ z) 0 = some j := by
  refine nat_app ?_
  have := nat_idx (i := 0) (rc_at h).2 fun q hq c => by
    have hq' : q < rs.length := by omega
    rw [(rc_at hq').2] at c
    have := secL_no (Option.some.inj c) (by omega) (by omega)
    omega
  rwa [Nat.zero_add] at this
theorem sec_no {j : Nat} (h : j < rs.length) (hl : rs.length ≤ 600) (z : List (List UInt8)) : textNo (rs.mapIdx secL ++ z) (secL j rs[j]) = j + 1 ∧ textKs (rs.mapIdx secL ++ z) (secL j rs[j]) = rs.mapIdx secL ++ z := by
  have := sec_idx h hl z
  refine ⟨by unfold textNo; rw [this], ?_⟩
  unfold textKs
  rw [if_pos (nat_in this)]
theorem Lg.Inv.at_ {j : Nat} (h : L.Inv rs) (hj : j < rs.length) : L.A.read (67 + j) = secL j rs[j] := by
  rw [h.rd, if_pos (by omega), show 67 + j - 67 = j by omega, (rc_at hj).2]
  rfl
theorem Lg.Inv.past {j : Nat} (h : L.Inv rs) (hj : rs.length ≤ j) : L.A.read (67 + j) = [] := by
  rw [h.rd, if_pos (by omega), List.getElem?_eq_none (by simp; omega)]
  rfl
/-- An own sector is got. -/
theorem own_get {j : Nat} (h : j < rs.length) (hl : rs.length ≤ 500) (hok : rs[j].Ok j) : sgetX (rs.mapIdx keyL) rs[j].kd ((67 + j : Nat) : Int) (secL j rs[j]) = some (7, ((j : Nat) : Int) + 1, rs[j].pl) := by
  obtain ⟨k1, k2⟩ := kd_pl hok
  have hn := key_idx h
  have hs : sealNo (rs.mapIdx keyL) (keyL j rs[j]) = j + 1 := by unfold sealNo; rw [hn]
  have e : sectB (rs.mapIdx keyL) rs[j].kd 7 (((j : Nat) : Int) + 1) ((67 + j : Nat) : Int) rs[j].pl = secL j rs[j] := by
    unfold sectB sealB secL
    rw [if_pos ⟨by decide, by constructor <;> omega⟩]
    have : sealNo (rs.mapIdx keyL) ⟨7, ((j : Nat) : Int) + 1, hdB rs[j].kd ((67 + j : Nat) : Int), rs[j].pl⟩ = j + 1 := hs
    rw [this]
  rw [← e]
  exact sget_of (ks := rs.mapIdx keyL) k1 ⟨⟨by decide, by omega, by omega⟩, ⟨by decide, by omega⟩, by omega⟩ k2 hn hs
theorem own_kind {j : Nat} (h : j < rs.length) (hl : rs.length ≤ 500) (hok : rs[j].Ok j) : kindOf (secL j rs[j]) = rs[j].kd := (sget_key (own_get h hl hok)).1
theorem smyAt_of {j : Nat} {s : Smy} (h : rs[j]? = some (.smy s)) : smyAt rs (67 + j) = s := by
  unfold smyAt
  rw [show 67 + j - 67 = j by omega, h]
/-- What is got as a summary is one of the log's. -/
theorem sget_smy {i : Nat} {l : List UInt8} {e n : Int} {q : List UInt8} (hl : rs.length ≤ 500) (hi : i ≤ 1000) (h : sgetX (rs.mapIdx keyL) 3 (i : Int) l = some (e, n, q)) : ∃ j s, i = 67 + j ∧ rs[j]? = some (.smy s) ∧ q = smyB s ∧ l.drop 17 = q ++ tagOf (j + 1) ∧ e = 7 ∧ n = ((j : Nat) : Int) + 1 := by
  obtain ⟨_, _, _, m, hm, hd⟩ := sget_key h
  have hin := nat_in hm
  rw [List.mem_mapIdx] at hin
  obtain ⟨j, hj, e1⟩ := hin
  have e2 : hdB rs[j].kd ((67 + j : Nat) : Int) = hdB 3 (i : Int) := congrArg NKey.h e1
  obtain ⟨a1, a2⟩ := hdB_inj e2 (by omega) (by omega)
  have hmj : m = j := by
    have := key_idx hj
    rw [e1, hm] at this
    exact Option.some.inj this
  subst hmj
  cases hr : rs[m] with
  | data p => rw [hr] at a1; exact absurd a1 (show ¬ UInt8.ofInt 4 = UInt8.ofInt 3 by decide)
  | smy s =>
    refine ⟨m, s, by omega, by rw [List.getElem?_eq_getElem hj, hr], ?_, hd, (congrArg NKey.e e1).symm, (congrArg NKey.n e1).symm⟩
    have := (congrArg NKey.p e1).symm
    rw [hr] at this
    exact this
theorem Lg.Inv.good (h : L.Inv rs) (hl : rs.length ≤ 500) {sg : Int} (hsg : 0 ≤ sg ∧ sg ≤ 19) : Good L.ks (smyAt rs) sg := by
  rintro i sl l ⟨e, n, q⟩ hsl hi hg
  rw [h.ks] at hg
  obtain ⟨j, s, rfl, h1, rfl, _⟩ := sget_smy hl (by omega) hg
  rw [smyAt_of h1]
  have hj := (List.getElem?_eq_some_iff.1 h1).1
  obtain ⟨o1, o2, o3⟩ : s.Ok ∧ checkS s = 0 ∧ s.next = if j % 32 = 31 then ((3 + j / 32 : Nat) : Int) else -1 := h.ok j _ h1
  refine ⟨rfl, o1, o2, ?_⟩
  unfold GoesOk
  by_cases c : j % 32 = 31
  · rw [if_neg (by omega), o3, if_pos c]; omega
  · rw [if_pos (by omega), o3, if_neg c]
/-- These sectors are the log's own. -/
def OwnB (rs : List Rc) (rd : Nat → List UInt8) (j d : Nat) : Prop := ∀ q, q ≤ d → ∀ h : j + q < rs.length, rd (67 + (j + q)) = secL (j + q) rs[j + q]
theorem Lg.Inv.own (h : L.Inv rs) (j d : Nat) : OwnB rs L.A.read j d := fun q _ hq => h.at_ hq
def rowsL (rs : List Rc) (j q k : Nat) : List (List UInt8) := (List.range' q k).map fun i => ((rs.mapIdx secL)[j + i]?).getD []
theorem rowsL_succ (j q k : Nat) : rowsL rs j q (k + 1) = ((rs.mapIdx secL)[j + q]?).getD [] :: rowsL rs j (q + 1) k := by simp [rowsL, List.range'_succ]
theorem told_tail {ts : List (List UInt8)} {fr : Int} : ∀ {t : List Ety}, (∀ e ∈ t, e.k = 2) → toldF ts t fr [] = (true, ts)
  | [], _ => by simp [toldF]
  | e :: r, h => by rw [told_trim (h e (List.mem_cons_self ..))]; exact told_tail fun x hx => h x (List.mem_cons_of_mem _ hx)
theorem told_own {j d : Nat} {t : List Ety} {z : List (List UInt8)} (ht : ∀ e ∈ t, e.k = 2) (hl : rs.length ≤ 500) (hjd : j + d ≤ rs.length) (h31 : j % 32 + d ≤ 31) : ∀ {k q : Nat}, q + k = d → toldF (rs.mapIdx secL ++ z) ((List.range' q k).map (dataE j) ++ t) ((j % 32 + q : Nat) : Int) (rowsL rs j q k) = (true, rs.mapIdx secL ++ z)
  | 0, q, _ => told_tail ht
  | k + 1, q, h => by
    have hq : j + q < rs.length := by omega
    rw [rowsL_succ, List.range'_succ, List.map_cons, List.cons_append, (rc_at hq).2, Option.getD_some]
    obtain ⟨n1, n2⟩ := sec_no hq (by omega) z
    rw [told_go (by simp [dataE]) (by show (((j + q) % 32 : Nat) : Int) = _; omega) (by rw [n1]; rfl), n2]
    exact told_own ht hl hjd h31 (k := k) (q := q + 1) (by omega)
variable {rd : Nat → List UInt8} {j d : Nat} {s : Smy} {z : List (List UInt8)} {prev : List UInt8}
theorem Bt.lt (hb : Bt rs j d s) : j + d < rs.length := (List.getElem?_eq_some_iff.1 hb.smy).1
theorem Bt.kind (hb : Bt rs j d s) (h : L.Inv rs) (hl : rs.length ≤ 500) (ho : OwnB rs rd j d) : (∀ q, q < d → kindOf (rd (67 + (j + q))) = 4) ∧ kindOf (rd (67 + (j + d))) = 3 ∧ j + d < rs.length := by
  have hd := (List.getElem?_eq_some_iff.1 hb.smy)
  refine ⟨fun q hq => ?_, ?_, hd.1⟩
  · obtain ⟨pl, hp⟩ := hb.data q hq
    obtain ⟨h1, h2⟩ := List.getElem?_eq_some_iff.1 hp
    rw [ho q (by omega) h1, own_kind h1 hl (h.ok _ _ (List.getElem?_eq_getElem h1)), h2]
    rfl
  · rw [ho d (Nat.le_refl _) hd.1, own_kind hd.1 hl (h.ok _ _ (List.getElem?_eq_getElem hd.1)), hd.2]
    rfl
/-- A batch is gone through up to its summary. -/
theorem next_scan (hb : Bt rs j d s) (h : L.Inv rs) (hl : rs.length ≤ 500) (ho : OwnB rs rd j d) {S : Nat → Smy} {ks : List NKey} {ts : List (List UInt8)} {sg sl0 : Int} {f : Nat} : ∀ {k q : Nat} {bs : List (List UInt8)}, q + k = d → nextF rd ks S ts sg sl0 prev (k + 1 + f) (67 + (j + q)) bs = wholeF ks S ts sg sl0 (67 + (j + d)) prev (rd (67 + (j + d))) (bs ++ rowsL rs j q k)
  | 0, q, bs, e => by
    obtain ⟨_, k3, _⟩ := hb.kind h hl ho
    obtain rfl : q = d := by omega
    rw [show 0 + 1 + f = f + 1 by omega, next_whole (by omega) (by omega) k3]
    simp [rowsL]
  | k + 1, q, bs, e => by
    obtain ⟨k4, _, hlt⟩ := hb.kind h hl ho
    have hq : j + q < rs.length := by omega
    rw [show k + 1 + 1 + f = (k + 1 + f) + 1 by omega, next_row (.inl (k4 q (by omega))), show 67 + (j + q) + 1 = 67 + (j + (q + 1)) by omega, next_scan hb h hl ho (k := k) (q := q + 1) (by omega), rowsL_succ, ho q (by omega) hq, (rc_at hq).2]
    simp
theorem Bt.get (hb : Bt rs j d s) (h : L.Inv rs) (hl : rs.length ≤ 500) (ho : OwnB rs rd j d) : sgetX L.ks 3 ((67 + (j + d) : Nat) : Int) (rd (67 + (j + d))) = some (7, ((j + d : Nat) : Int) + 1, smyB s) := by
  obtain ⟨h1, h2⟩ := List.getElem?_eq_some_iff.1 hb.smy
  have := own_get h1 hl (h.ok _ _ (List.getElem?_eq_getElem h1))
  rw [h2] at this
  rw [h.ks, ho d (Nat.le_refl _) h1, h2]
  exact this
/-- A batch is read as it was. -/
theorem next_bt (hb : Bt rs j d s) (h : L.Inv rs) (hl : rs.length ≤ 500) (ho : OwnB rs rd j d) {ts' : List (List UInt8)} (hts : L.ts ++ z = ts') {sg sl0 : Int} (hsg : sg = ((2 + j / 32 : Nat) : Int)) (hsl : sl0 = ((j % 32 : Nat) : Int)) (hpv : prev = prevOf j) : nextF rd L.ks (smyAt rs) ts' sg sl0 prev (32 - sl0).toNat (3 + sg * 32 + sl0).toNat [] = (some ⟨s, 7, ((j % 32 + d : Nat) : Int), sumOf (j + d + 1)⟩, ts') := by
  have hseg := hb.seg
  have hlt := (hb.kind h hl ho).2.2
  have e1 : (3 + sg * 32 + sl0).toNat = 67 + (j + 0) := by omega
  have e2 : (32 - sl0).toNat = d + 1 + (31 - j % 32 - d) := by omega
  rw [e1, e2, next_scan hb h hl ho (by omega)]
  unfold wholeF
  rw [hb.get h hl ho]
  simp only
  obtain ⟨t, ht1, ht2⟩ := hb.es
  have hto : toldF ts' s.es sl0 ([] ++ rowsL rs j 0 d) = (true, ts') := by
    rw [ht1, List.nil_append, ← hts, h.ts, hsl]
    have := told_own (z := z) ht2 hl (by omega) hseg (k := d) (q := 0) (by omega)
    rw [Nat.add_zero] at this
    rw [show dataL j d = (List.range' 0 d).map (dataE j) by rw [dataL, List.range_eq_range']]
    exact this
  obtain ⟨n1, n2⟩ := sec_no hlt (by omega) z
  have hrd := ho d (Nat.le_refl _) hlt
  rw [smyAt_of hb.smy, if_neg (by rw [hb.prev, hpv]; exact fun c => c rfl), hto, if_pos rfl, ← hts, h.ts, hrd, n1, n2]
  refine Prod.ext ?_ rfl
  show some (Bx.mk _ _ _ _) = some (Bx.mk _ _ _ _)
  congr 2
  omega
/-- Behind the log there is nothing. -/
theorem next_past (h : L.Inv rs) (hn0 : rd (67 + rs.length) = []) {ts : List (List UInt8)} {sg sl0 : Int} {S : Nat → Smy} {ks : List NKey} (hp : 3 + sg * 32 + sl0 = ((67 + rs.length : Nat) : Int)) : nextF rd ks S ts sg sl0 prev (32 - sl0).toNat (3 + sg * 32 + sl0).toNat [] = (none, ts) := by
  have e1 : (3 + sg * 32 + sl0).toNat = 67 + rs.length := by omega
  rw [e1]
  cases hf : (32 - sl0).toNat with
  | zero => rfl
  | succ k =>
    have hk : kindOf (rd (67 + rs.length)) = 0 := by rw [hn0]; rfl
    exact next_else (by omega) (by omega) (by omega)
/-- Not behind another digest. -/
theorem next_prev (hb : Bt rs j d s) (h : L.Inv rs) (hl : rs.length ≤ 500) (ho : OwnB rs rd j d) {ts : List (List UInt8)} {sg sl0 : Int} (hsg : sg = ((2 + j / 32 : Nat) : Int)) (hsl : sl0 = ((j % 32 : Nat) : Int)) (hpv : ¬ prevOf j = prev) : nextF rd L.ks (smyAt rs) ts sg sl0 prev (32 - sl0).toNat (3 + sg * 32 + sl0).toNat [] = (none, ts) := by
  have hseg := hb.seg
  have e1 : (3 + sg * 32 + sl0).toNat = 67 + (j + 0) := by omega
  have e2 : (32 - sl0).toNat = d + 1 + (31 - j % 32 - d) := by omega
  rw [e1, e2, next_scan hb h hl ho (by omega)]
  unfold wholeF
  rw [hb.get h hl ho]
  simp only
  rw [smyAt_of hb.smy, if_pos (by rw [hb.prev]; exact hpv)]
/-- Not from its second slot on. -/
theorem next_mid (hb : Bt rs j d s) (h : L.Inv rs) (hl : rs.length ≤ 500) (ho : OwnB rs rd j d) {ts : List (List UInt8)} {sg sl0 : Int} {q : Nat} (hq : 0 < q ∧ q ≤ d) (hsg : sg = ((2 + j / 32 : Nat) : Int)) (hsl : sl0 = ((j % 32 + q : Nat) : Int)) (hpv : prev = prevOf j) : nextF rd L.ks (smyAt rs) ts sg sl0 prev (32 - sl0).toNat (3 + sg * 32 + sl0).toNat [] = (none, ts) := by
  have hseg := hb.seg
  have e1 : (3 + sg * 32 + sl0).toNat = 67 + (j + q) := by omega
  have e2 : (32 - sl0).toNat = (d - q) + 1 + (31 - j % 32 - d) := by omega
  rw [e1, e2, next_scan hb h hl ho (by omega)]
  unfold wholeF
  rw [hb.get h hl ho]
  simp only
  obtain ⟨t, ht1, ht2⟩ := hb.es
  have hto : toldF ts s.es sl0 ([] ++ rowsL rs j q (d - q)) = (false, ts) := by
    rw [ht1]
    obtain ⟨d', rfl⟩ : ∃ d', d = d' + 1 := ⟨d - 1, by omega⟩
    rw [show dataL j (d' + 1) = dataE j 0 :: (List.range' 1 d').map (dataE j) by rw [dataL, List.range_eq_range', List.range'_succ]; rfl, List.cons_append]
    have hk : ¬ (dataE j 0).k = 2 := by simp [dataE]
    generalize [] ++ rowsL rs j q (d' + 1 - q) = bs
    cases bs with
    | nil => exact told_none hk
    | cons b r => exact told_slot hk (by show ¬ (((j + 0) % 32 : Nat) : Int) = _; omega)
  rw [smyAt_of hb.smy, if_neg (by rw [hb.prev, hpv]; exact fun c => c rfl), hto, if_neg (show ¬ false = true by decide)]
end
end Go.Proofs.Ytnebjbgcibjohaa.K
end
section
namespace Go.Proofs.Ytnebjbgcibjohaa.K
open Go.RowKit Go.Rill Go.Proofs
set_option linter.unusedVariables false
set_option linter.unusedSimpArgs false
/-- A log's disk and names, behind what was read of it. -/
def RdIs (D : DV) (N : NV) (g a : Nat) (L : Lg) (A : AD) (z : List (List UInt8)) : Prop := (∃ A', D.is g A' ∧ Seen A A') ∧ N.gn = a ∧ N.ks = L.ks ∧ N.ts = L.ts ++ z
/-- The batch from the j-th sector on, with d blocks. -/
def bxJ (s : Smy) (v : Value) (j d : Nat) : List Value := bxC s v 7 ((2 + j / 32 : Nat) : Int) ((j % 32 + d : Nat) : Int) ((2 + (j + d + 1) / 32 : Nat) : Int) (((j + d + 1) % 32 : Nat) : Int) (sumOf (j + d + 1))
section
variable {s : Smy} {v : Value} {j d : Nat}
theorem bxJ_size (h : s.Ok) (v : Value) (j d : Nat) : (bxJ s v j d).toArray.size = 72 := by simp [bxJ, bxC, Smy.len h, sumOf_len]
theorem bxJ_smy (h : s.Ok) : ((bxJ s v j d).drop 0).take 35 = s.cells v := List.take_left' (Smy.len h)
theorem bxJ_one (hv : v.oneCell' = true) : ∀ u ∈ bxJ s v j d, u.oneCell' = true := bxC_one hv
theorem bx_tail (h : s.Ok) (k : Nat) : (bxJ s v j d).drop (35 + k) = ([iv 7, iv ((2 + j / 32 : Nat) : Int), iv ((j % 32 + d : Nat) : Int), iv ((2 + (j + d + 1) / 32 : Nat) : Int), iv (((j + d + 1) % 32 : Nat) : Int)] ++ bc (sumOf (j + d + 1))).drop k := by
  rw [← List.drop_drop]
  congr 1
  exact List.drop_left' (Smy.len h)
theorem bxJ_ep (h : s.Ok) : (bxJ s v j d).toArray[35]? = some (.int .i64 7) := by
  have := congrArg List.head? (bx_tail (v := v) (j := j) (d := d) h 0)
  rw [List.head?_drop] at this
  simpa [iv] using this
theorem bxJ_pl (h : s.Ok) : ((bxJ s v j d).drop 36).take 2 = [.int .i64 ((2 + j / 32 : Nat) : Int), .int .i64 ((j % 32 + d : Nat) : Int)] := by
  rw [show 36 = 35 + 1 by rfl, bx_tail h]; rfl
theorem bxJ_end (h : s.Ok) : ((bxJ s v j d).drop 38).take 2 = [.int .i64 ((2 + (j + d + 1) / 32 : Nat) : Int), .int .i64 (((j + d + 1) % 32 : Nat) : Int)] := by
  rw [show 38 = 35 + 3 by rfl, bx_tail h]; rfl
theorem bxJ_sum (h : s.Ok) : ((bxJ s v j d).drop 40).take 32 = bc (sumOf (j + d + 1)) := by
  rw [show 40 = 35 + 5 by rfl, bx_tail h]
  show (bc (sumOf (j + d + 1))).take 32 = _
  exact List.take_of_length_le (by simp [sumOf_len])
end
theorem sz72 {n k : Nat} (h : n = 72) (hk : Nat.ble k 72 = true) : Nat.ble k n = true := h ▸ hk
theorem _root_.Go.Rill.Does.mono' {P : Program} {f : FuncId} {args : List Value} {w : World} {α : Type} {ins : List Ent} {val val' : α → Value} {outs : α → List Ent} {p p' : α → Prop} (h : Does P f args w ins val outs p) (hv : ∀ x, val x = val' x) (hp : ∀ x, p x → p' x) : Does P f args w ins val' outs p' := by
  have h' : Calls P f args.toArray w _ := h
  exact h'.mono fun en w' ⟨x, a, b, c, d, e⟩ => ⟨x, a.trans (congrArg Ending.returned (hv x)), b, c, d, hp x e⟩
abbrev P1 : List UInt8 := 1 :: List.replicate 31 0
theorem run_buildE1 {P : Program} {ρ : Operand → Value} {o : Oper} {w : World} {t e : TypeId} {n : Nat} {X : Operand} {u : Value} {us us' : Array Value} (ho : o.op = .build t #[(0, X)]) (hX : ρ X = u) (ht : tyArr P t e n = true) (hs : tySize P e 1 = true) (hz : zeroOf P t = some (.agg us)) (hu : u.cells = #[u]) (he : Instr.fill (fun i => some (i, 1)) us [(0, u)] = some us') : (execOp ρ o).run P w = .ok (.value (.agg us')) w := by
  unfold tyArr at ht
  have hzv := zero_run (P := P) (w := w) hz
  cases hq : P.underlying t with
  | none => rw [hq] at ht; cases ht
  | some d =>
    rw [hq] at ht
    cases d with
    | array m' e' =>
      simp at ht
      obtain ⟨rfl, rfl⟩ := ht
      simp [execOp, ho, hX, Instr.build, hzv, run_underlying hq, run_size (w := w) hs, Value.cells]
      rw [he]
      rfl
    | _ => cases ht
/-- The example's log. -/
theorem known_log : checkS (Lg.smy Lg.new.prev true (Lg.data ((2 : Nat) : Int) 2 0 Lg.new.begun [])) = 0 ∧ ∃ rs s, WL (Lg.new.batch 2 true) rs [2] ∧ Bt rs 0 2 s ∧ rs.length = 3 ∧ ([2] : List Nat).length = 1 ∧ (Lg.new.batch 2 true).sums[0]? = some s := by
  obtain ⟨h1, rs, d, hW⟩ := WL.new.batch (m := 2) (t := true) (by decide) (by decide)
  have hlen : rs.length = d + 1 := by have := hW.len; simpa [jOf] using this
  have hd := hW.small d (by simp)
  have hsl : (Lg.new.batch 2 true).sl = 3 := by rfl
  have := hW.sl
  rw [hsl] at this
  obtain rfl : d = 2 := by omega
  obtain ⟨_, s, hs, hb⟩ := hW.bt 0 (by decide)
  exact ⟨h1, rs, s, hW, hb, hlen, rfl, hs⟩
abbrev nxY (c : Nat) (D : DV) (N : NV) (g a : Nat) (L : Lg) (A : AD) (z : List (List UInt8)) (s : Smy) (j d : Nat) : CX (Value × DV × NV) := ⟨c, c + 4, c + 5, c + 1, c + 2, [dkE D, nmE N], .int .i64 0, fun x => (bxJ s x.1 j d).toArray, fun x => [.row 83 35 x.1 s.es.length (ecs s.es), dkE x.2.1, nmE x.2.2], fun x => RdIs x.2.1 x.2.2 g a L A z, bx0.toArray, 41⟩
abbrev nxN (c : Nat) (D : DV) (N : NV) (g a : Nat) (L : Lg) (A : AD) (z : List (List UInt8)) : CX (DV × NV) := ⟨c, c + 4, c + 5, c + 1, c + 2, [dkE D, nmE N], .int .i64 20, fun _ => bx0.toArray, fun x => [dkE x.1, nmE x.2], fun x => RdIs x.1 x.2 g a L A z, bx0.toArray, 41⟩
/-- A batch of a log is read. -/
theorem nextY {D : DV} {N : NV} {g a j d : Nat} {L : Lg} {A : AD} {rs : List Rc} {s : Smy} {z : List (List UInt8)} {w0 : World} {c : Nat} (H : Has w0 [dkE D, nmE N]) (hR : RdIs D N g a L A z) (hI : L.Inv rs) (hl : rs.length ≤ 500) (hz : z.length ≤ 1000) (hb : Bt rs j d s) (hs : s.Ok) (hA : A.n = 643) (ho : OwnB rs A.read j d) : Does Try.prog 7 [.pointer (some ⟨g, 0, none⟩), .iface 30 (.pointer (some ⟨a, 0, none⟩)), .agg #[.int .i64 20, .int .i64 32, .int .i64 4], .agg #[.int .i64 ((2 + j / 32 : Nat) : Int), .int .i64 ((j % 32 : Nat) : Int)], .agg (bc (prevOf j)).toArray] w0 [dkE D, nmE N] (nxY c D N g a L A z s j d).val (nxY c D N g a L A z s j d).outs (nxY c D N g a L A z s j d).p := by
  obtain ⟨⟨A', hD, hS⟩, ha, hk, ht⟩ := hR
  have hlt := hb.lt
  have hseg := hb.seg
  have e1 : A'.read = A.read := funext fun q => hS.read q
  have hn : A'.n = 643 := hS.n.trans hA
  have hG := hI.good hl (sg := ((2 + j / 32 : Nat) : Int)) (by omega)
  have hE := next_bt (prev := prevOf j) hb hI hl ho (rfl : L.ts ++ z = _) (rfl : ((2 + j / 32 : Nat) : Int) = _) (rfl : ((j % 32 : Nat) : Int) = _) rfl
  have hE' : nextF A'.read N.ks (smyAt rs) N.ts ((2 + j / 32 : Nat) : Int) ((j % 32 : Nat) : Int) (prevOf j) (32 - ((j % 32 : Nat) : Int)).toNat (3 + ((2 + j / 32 : Nat) : Int) * 32 + ((j % 32 : Nat) : Int)).toNat [] = (some ⟨s, 7, ((j % 32 + d : Nat) : Int), sumOf (j + d + 1)⟩, L.ts ++ z) := by rw [e1, hk, ht]; exact hE
  have hnx : s.next = if (j + d) % 32 = 31 then ((3 + (j + d) / 32 : Nat) : Int) else -1 := (hI.ok _ _ hb.smy).2.2
  have := next_yes (S := smyAt rs) (sg := ((2 + j / 32 : Nat) : Int)) (sl0 := ((j % 32 : Nat) : Int)) (prev := prevOf j) H hD ha (by omega) (by omega) (prevOf_len j) hn (by rw [hk, hI.ks, List.length_mapIdx]; omega) (by rw [ht, List.length_append, hI.ts, List.length_mapIdx]; omega) (by rw [hk]; exact hG) hE' rfl (fun v => by simp [bxC, Smy.cells, hs.1, sumOf_len])
  refine Does.mono' this (fun x => ?_) (fun x hx => ?_)
  · show Value.tuple #[.agg (bxC s x.1 7 _ _ _ _ _).toArray, _] = .tuple #[.agg (bxJ s x.1 j d).toArray, _]
    congr 5
    unfold bxJ
    have x1 : endS ((2 + j / 32 : Nat) : Int) ((j % 32 + d : Nat) : Int) s.next = ((2 + (j + d + 1) / 32 : Nat) : Int) := by
      unfold endS
      rw [hnx]
      by_cases c : (j + d) % 32 = 31
      · rw [if_neg (by omega), if_pos c]; omega
      · rw [if_pos (by omega)]; omega
    have x2 : endL ((j % 32 + d : Nat) : Int) = (((j + d + 1) % 32 : Nat) : Int) := by
      unfold endL
      by_cases c : (j + d) % 32 = 31
      · rw [if_neg (by omega)]; omega
      · rw [if_pos (by omega)]; omega
    rw [x1, x2]
  · obtain ⟨⟨A2, h1, h2⟩, h3, h4, h5⟩ := hx
    exact ⟨⟨A2, h1, hS.trans h2⟩, h3, h4.trans hk, h5⟩
/-- Nothing is read. -/
theorem nextN {D : DV} {N : NV} {g a : Nat} {L : Lg} {A : AD} {rs : List Rc} {z z' : List (List UInt8)} {sg sl0 : Int} {prev : List UInt8} {w0 : World} {c : Nat} (H : Has w0 [dkE D, nmE N]) (hR : RdIs D N g a L A z) (hI : L.Inv rs) (hl : rs.length ≤ 500) (hz : z.length ≤ 1000) (hA : A.n = 643) (hsg : 0 ≤ sg ∧ sg ≤ 19) (hsl : 0 ≤ sl0 ∧ sl0 ≤ 31) (hp : prev.length = 32) (hE : nextF A.read L.ks (smyAt rs) (L.ts ++ z) sg sl0 prev (32 - sl0).toNat (3 + sg * 32 + sl0).toNat [] = (none, L.ts ++ z')) : Does Try.prog 7 [.pointer (some ⟨g, 0, none⟩), .iface 30 (.pointer (some ⟨a, 0, none⟩)), .agg #[.int .i64 20, .int .i64 32, .int .i64 4], .agg #[.int .i64 sg, .int .i64 sl0], .agg (bc prev).toArray] w0 [dkE D, nmE N] (nxN c D N g a L A z').val (nxN c D N g a L A z').outs (nxN c D N g a L A z').p := by
  obtain ⟨⟨A', hD, hS⟩, ha, hk, ht⟩ := hR
  have e1 : A'.read = A.read := funext fun q => hS.read q
  have hn : A'.n = 643 := hS.n.trans hA
  have hE' : nextF A'.read N.ks (smyAt rs) N.ts sg sl0 prev (32 - sl0).toNat (3 + sg * 32 + sl0).toNat [] = (none, L.ts ++ z') := by rw [e1, hk, ht]; exact hE
  have := next_no (S := smyAt rs) (sg := sg) (sl0 := sl0) (prev := prev) H hD ha hsg hsl hp hn (by rw [hk, hI.ks, List.length_mapIdx]; omega) (by rw [ht, List.length_append, hI.ts, List.length_mapIdx]; omega) (by rw [hk]; exact hI.good hl hsg) hE' rfl
  refine Does.mono' this (fun x => rfl) (fun x hx => ?_)
  obtain ⟨⟨A2, h1, h2⟩, h3, h4, h5⟩ := hx
  exact ⟨⟨A2, h1, hS.trans h2⟩, h3, h4.trans hk, h5⟩

set_option maxHeartbeats 1000000 in
set_option maxRecDepth 100000 in
theorem knownR_x (w0 : World) : Gives Try.prog 10 [] w0 (.bool true) := by
  refine enter (n := 123) Try.func10 rfl rfl rfl ?_
  intro fr E
  obtain ⟨hchk, rs, s, hW, hb, hr3, hDs, hsm⟩ := known_log
  have M : Mem w0 (feet []) [] (fun _ => True) w0 := Mem.begin (Has.nil w0) (fun _ _ => trivial)
  refine code_region ?_
  refine sw E (run_assignC rfl) fun fr E => ?_
  refine seq_nil' ?_
  refine code_region ?_
  refine scall E M rfl rfl rfl rfl rfl (run_call rfl rfl T.fn21) (begin_x _) rfl ?_
  rintro ⟨gl, D0, N0⟩ fr w ⟨hD0, hk0, ht0⟩ M E
  refine ma E fun fr E => ?_
  refine seq_nil' ?_
  refine wp_seq ?_
  have M := Mem.ofBegun M
  refine code_region ?_
  refine mv E fun fr E => ?_
  refine sw (v := .bool false) E (tst rfl (rfl)) fun fr E => ?_
  refine seq_nil' ?_
  refine cond_false E rfl (rfl) ?_
  refine wp_skip ?_
  refine then_normal ?_
  refine code_region ?_
  refine mv E fun fr E => ?_
  refine scallI (lgE gl D0.gd N0.gn Lg.new ⟨.slice none 0 0, .slice none 0 0, [], D0, N0⟩) E M rfl rfl rfl rfl rfl (run_call rfl rfl T.fn22) rfl (fun H => batch_x (L := Lg.new) (X0 := ⟨.slice none 0 0, .slice none 0 0, [], D0, N0⟩) (m := 2) (t := true) H ⟨hD0, rfl, hk0, ht0⟩ rfl (by decide) rfl (by decide) (by decide) (by decide) (by decide) (by decide) (by decide) (Nat.zero_le _) hchk) ?_
  rintro X fr w ⟨hL, hq⟩ M E
  refine seq_nil' ?_
  obtain ⟨lf, lsm, qs, D, N⟩ := X
  generalize D0.gd = g at *
  generalize N0.gn = a at *
  have hI := hW.inv
  have hRd : RdIs D N g a (Lg.new.batch 2 true) (Lg.new.batch 2 true).A [] := ⟨⟨_, hL.1, Seen.refl _⟩, hL.2.1, hL.2.2.1, by rw [List.append_nil]; exact hL.2.2.2⟩
  have hp : (Lg.new.batch 2 true).prev.length = 32 := (hW.bounds (by rw [hDs]; decide)).1
  have hrl : rs.length ≤ 500 := by rw [hr3]; decide
  obtain ⟨hs, -⟩ := hI.ok _ _ hb.smy
  have M := M.pull 2 rfl
  have M := M.pull 2 rfl
  have M : Mem _ _ ([dkE D, nmE N] ++ _) _ _ := M
  have hBx : cxw 12 16 17 13 14 19 T.tab10_5_b = true := by decide +kernel
  have hBs : (waits T.tab10_5_b 15 13 && waits T.tab10_5_b 15 12) = true := by decide +kernel
  refine wp_seq (free_regX (B := T.tab10_5_b) (Vs := (.exact _ :: .exact _ :: .exact (.pointer (some ⟨_, 0, none⟩)) :: .exact (.pointer (some ⟨g, 0, none⟩)) :: .exact _ :: .exact _ :: .exact (.pointer (some ⟨_, 1, none⟩)) :: .exact (.pointer (some ⟨a, 0, none⟩)) :: .exact (.iface 30 (.pointer (some ⟨a, 0, none⟩))) :: .exact (.agg #[.int .i64 20, .int .i64 32, .int .i64 4]) :: .exact (.agg (([.int .i64 2, .int .i64 0] : List Value)).toArray) :: .exact (.agg (bc (List.replicate 32 0)).toArray) :: .rel (fun _ _ => True) :: .rel (fun _ _ => True) :: .rel (fun _ _ => True) :: .exact _ :: .rel (fun _ _ => True) :: .exact undef :: .exact _ :: [])) (callX (nxY 12 D N g a (Lg.new.batch 2 true) (Lg.new.batch 2 true).A [] s 0 2) 19 T.tab10_5_b w.drew) T.tab10_5_i E T.mixed T.tab10_5 rfl ?_ ⟨gx_val  rfl rfl rfl M (fun x w' M' => ⟨_, rfl, rfl, rfl, run_move rfl rfl, rfl⟩),
      gx_val  rfl rfl rfl M (fun x w' M' => ⟨_, rfl, rfl, rfl, run_nilCheck rfl rfl, rfl⟩),
      gx_val  rfl rfl rfl M (fun x w' M' => ⟨_, rfl, rfl, rfl, run_fieldAddr rfl rfl T.fld34_0, rfl⟩),
      gx_val  rfl rfl rfl M (fun x w' M' => ⟨_, rfl, rfl, rfl, run_loadB rfl rfl T.one29 (M'.row (i := 0) rfl) rfl, rfl⟩),
      gx_val  rfl rfl rfl M (fun x w' M' => ⟨_, rfl, rfl, rfl, run_move rfl rfl, rfl⟩),
      gx_val  rfl rfl rfl M (fun x w' M' => ⟨_, rfl, rfl, rfl, run_nilCheck rfl rfl, rfl⟩),
      gx_val  rfl rfl rfl M (fun x w' M' => ⟨_, rfl, rfl, rfl, run_fieldAddr rfl rfl T.fld34_1, rfl⟩),
      gx_val  rfl rfl rfl M (fun x w' M' => ⟨_, rfl, rfl, rfl, run_loadB rfl rfl T.one30 (M'.row (i := 0) rfl) rfl, rfl⟩),
      gx_val  rfl rfl rfl M (fun x w' M' => ⟨_, rfl, rfl, rfl, rfl, rfl⟩),
      gx_ext  rfl rfl rfl M (fun x w' M' => ⟨_, _, rfl, rfl, rfl, run_call rfl rfl T.fn8, (rsmall_x).ext⟩),
      gx_val  rfl rfl rfl M (fun x w' M' => ⟨_, rfl, rfl, rfl, run_buildP (vs := [.int .i64 2]) (us := ([.int .i64 2, .int .i64 0] : List Value)) rfl rfl T.ts26 T.zeroL26 (rfl) rfl rfl (rfl), rfl⟩),
      gx_val  rfl rfl rfl M (fun x w' M' => ⟨_, rfl, rfl, rfl, run_buildEZ rfl T.arr28 T.size5 T.zero28, rfl⟩),
      gx_call  rfl rfl rfl M (fun x w' M' H' => ⟨_, _, rfl, rfl, rfl, run_call rfl rfl T.fn7, nextY (j := 0) (d := 2) H' hRd hI hrl (by decide) hb hs hI.an (hI.own _ _)⟩),
      gx_mv  rfl rfl rfl hBx (fun x w' => ⟨rfl, rfl, rfl, fun y hy => run_moveV rfl hy⟩),
      gx_fst  rfl rfl rfl hBx (fun x w' y hy => ⟨rfl, rfl, rfl, run_extractV rfl hy rfl⟩),
      gx_snd  rfl rfl rfl hBs (fun x w' y hy => ⟨rfl, rfl, rfl, run_extractV rfl hy rfl⟩),
      gx_alloc  rfl rfl rfl rfl (fun x w' => ⟨rfl, rfl, rfl, run_allocN rfl T.zero41⟩),
      gx_set  rfl rfl rfl hBx (fun x w' g y ha hx H' hg => ⟨rfl, rfl, rfl, run_storeAll rfl ha hx T.size41 (bxJ_size hs _ _ _) hg rfl (fun u hu => bxJ_one (Reads.oneR (H'.reads 0 rfl)) u (by simpa using hu))⟩),
      gx_val  rfl rfl rfl M (fun x w' M' => ⟨_, rfl, rfl, rfl, run_assign rfl rfl, rfl⟩), trivial⟩ ?_)
  · exact callX_ok hBx (fun q hq => Mem.old M q hq) ⟨fun _ _ => trivial, fun _ _ => trivial, fun _ _ => trivial, fun _ _ => trivial, trivial⟩
  intro x fr w ⟨bb, hb2, hI2⟩ hk E
  obtain ⟨⟨ev, D, N⟩, b1, hgx, hRd, M⟩ := Mem.behindX (K := nxY 12 D N g a (Lg.new.batch 2 true) (Lg.new.batch 2 true).A [] s 0 2) M hI2 (hb2 12 (by decide)) (hb2 16 (by decide)) (hb2 17 (by decide))
  have E := Env.say (t := 2) E rfl hgx
  have M := Mem.take (L := [.row 83 35 ev s.es.length (ecs s.es), dkE D, nmE N, .blk b1 (.cells (bxJ s ev 0 2).toArray 41), .blk gl (.cells (lgc g a (Lg.new.batch 2 true).sg (Lg.new.batch 2 true).sl (Lg.new.batch 2 true).prev lf lsm (Lg.new.batch 2 true).n).toArray 34), .row 36 34 lf (Lg.new.batch 2 true).froms.length (askC (Lg.new.batch 2 true).froms), .row 39 35 lsm qs.length (smC qs), .rows 35 (qs.map rowQ).reverse]) M
  refine then_normal ?_
  have M := M.pull 2 rfl
  have M := M.pull 2 rfl
  have M : Mem _ _ ([dkE D, nmE N] ++ _) _ _ := M
  have hBx : cxw 12 16 17 13 14 19 T.tab10_6_b = true := by decide +kernel
  have hBs : (waits T.tab10_6_b 15 13 && waits T.tab10_6_b 15 12) = true := by decide +kernel
  refine wp_seq (free_regX (B := T.tab10_6_b) (Vs := (.exact _ :: .exact _ :: .exact (.pointer (some ⟨_, 0, none⟩)) :: .exact (.pointer (some ⟨g, 0, none⟩)) :: .exact _ :: .exact _ :: .exact (.pointer (some ⟨_, 1, none⟩)) :: .exact (.pointer (some ⟨a, 0, none⟩)) :: .exact (.iface 30 (.pointer (some ⟨a, 0, none⟩))) :: .exact (.agg #[.int .i64 20, .int .i64 32, .int .i64 4]) :: .exact (.agg (([.int .i64 2, .int .i64 1] : List Value)).toArray) :: .exact (.agg (bc (List.replicate 32 0)).toArray) :: .rel (fun _ _ => True) :: .rel (fun _ _ => True) :: .rel (fun _ _ => True) :: .exact _ :: .rel (fun _ _ => True) :: .exact undef :: .exact _ :: [])) (callX (nxN 12 D N g a (Lg.new.batch 2 true) (Lg.new.batch 2 true).A []) 19 T.tab10_6_b w.drew) T.tab10_6_i E T.mixed T.tab10_6 rfl ?_ ⟨gx_val  rfl rfl rfl M (fun x w' M' => ⟨_, rfl, rfl, rfl, run_move rfl rfl, rfl⟩),
      gx_val  rfl rfl rfl M (fun x w' M' => ⟨_, rfl, rfl, rfl, run_nilCheck rfl rfl, rfl⟩),
      gx_val  rfl rfl rfl M (fun x w' M' => ⟨_, rfl, rfl, rfl, run_fieldAddr rfl rfl T.fld34_0, rfl⟩),
      gx_val  rfl rfl rfl M (fun x w' M' => ⟨_, rfl, rfl, rfl, run_loadB rfl rfl T.one29 (M'.row (i := 2) rfl) rfl, rfl⟩),
      gx_val  rfl rfl rfl M (fun x w' M' => ⟨_, rfl, rfl, rfl, run_move rfl rfl, rfl⟩),
      gx_val  rfl rfl rfl M (fun x w' M' => ⟨_, rfl, rfl, rfl, run_nilCheck rfl rfl, rfl⟩),
      gx_val  rfl rfl rfl M (fun x w' M' => ⟨_, rfl, rfl, rfl, run_fieldAddr rfl rfl T.fld34_1, rfl⟩),
      gx_val  rfl rfl rfl M (fun x w' M' => ⟨_, rfl, rfl, rfl, run_loadB rfl rfl T.one30 (M'.row (i := 2) rfl) rfl, rfl⟩),
      gx_val  rfl rfl rfl M (fun x w' M' => ⟨_, rfl, rfl, rfl, rfl, rfl⟩),
      gx_ext  rfl rfl rfl M (fun x w' M' => ⟨_, _, rfl, rfl, rfl, run_call rfl rfl T.fn8, (rsmall_x).ext⟩),
      gx_val  rfl rfl rfl M (fun x w' M' => ⟨_, rfl, rfl, rfl, run_buildP (vs := [.int .i64 2, .int .i64 1]) (us := ([.int .i64 2, .int .i64 1] : List Value)) rfl rfl T.ts26 T.zeroL26 (rfl) rfl rfl (rfl), rfl⟩),
      gx_val  rfl rfl rfl M (fun x w' M' => ⟨_, rfl, rfl, rfl, run_buildEZ rfl T.arr28 T.size5 T.zero28, rfl⟩),
      gx_call  rfl rfl rfl M (fun x w' M' H' => ⟨_, _, rfl, rfl, rfl, run_call rfl rfl T.fn7, nextN (sg := 2) (sl0 := 1) (prev := List.replicate 32 0) (z := []) (z' := []) H' hRd hI hrl (by decide) hI.an (by decide) (by decide) rfl (by rw [List.append_nil]; exact next_mid (q := 1) hb hI hrl (hI.own _ _) (by decide) rfl rfl rfl)⟩),
      gx_mv  rfl rfl rfl hBx (fun x w' => ⟨rfl, rfl, rfl, fun y hy => run_moveV rfl hy⟩),
      gx_fst  rfl rfl rfl hBx (fun x w' y hy => ⟨rfl, rfl, rfl, run_extractV rfl hy rfl⟩),
      gx_snd  rfl rfl rfl hBs (fun x w' y hy => ⟨rfl, rfl, rfl, run_extractV rfl hy rfl⟩),
      gx_alloc  rfl rfl rfl rfl (fun x w' => ⟨rfl, rfl, rfl, run_allocN rfl T.zero41⟩),
      gx_set  rfl rfl rfl hBx (fun x w' g y ha hx H' hg => ⟨rfl, rfl, rfl, run_storeAll rfl ha hx T.size41 (rfl) hg rfl (fun u hu => bx0_one u (by simpa using hu))⟩),
      gx_val  rfl rfl rfl M (fun x w' M' => ⟨_, rfl, rfl, rfl, run_assign rfl rfl, rfl⟩), trivial⟩ ?_)
  · exact callX_ok hBx (fun q hq => Mem.old M q hq) ⟨fun _ _ => trivial, fun _ _ => trivial, fun _ _ => trivial, fun _ _ => trivial, trivial⟩
  intro x fr w ⟨bb, hb2, hI2⟩ hk E
  obtain ⟨⟨D, N⟩, b2, hgx, hRd, M⟩ := Mem.behindX (K := nxN 12 D N g a (Lg.new.batch 2 true) (Lg.new.batch 2 true).A []) M hI2 (hb2 12 (by decide)) (hb2 16 (by decide)) (hb2 17 (by decide))
  have E := Env.say (t := 4) E rfl hgx
  have M := Mem.take (L := [dkE D, nmE N, .blk b2 (.cells bx0.toArray 41), .row 83 35 ev s.es.length (ecs s.es), .blk b1 (.cells (bxJ s ev 0 2).toArray 41), .blk gl (.cells (lgc g a (Lg.new.batch 2 true).sg (Lg.new.batch 2 true).sl (Lg.new.batch 2 true).prev lf lsm (Lg.new.batch 2 true).n).toArray 34), .row 36 34 lf (Lg.new.batch 2 true).froms.length (askC (Lg.new.batch 2 true).froms), .row 39 35 lsm qs.length (smC qs), .rows 35 (qs.map rowQ).reverse]) M
  refine then_normal ?_
  have M := M.pull 1 rfl
  have M := M.pull 1 rfl
  have M : Mem _ _ ([dkE D, nmE N] ++ _) _ _ := M
  have hBx : cxw 12 16 17 13 14 19 T.tab10_7_b = true := by decide +kernel
  have hBs : (waits T.tab10_7_b 15 13 && waits T.tab10_7_b 15 12) = true := by decide +kernel
  refine wp_seq (free_regX (B := T.tab10_7_b) (Vs := (.exact _ :: .exact _ :: .exact (.pointer (some ⟨_, 0, none⟩)) :: .exact (.pointer (some ⟨g, 0, none⟩)) :: .exact _ :: .exact _ :: .exact (.pointer (some ⟨_, 1, none⟩)) :: .exact (.pointer (some ⟨a, 0, none⟩)) :: .exact (.iface 30 (.pointer (some ⟨a, 0, none⟩))) :: .exact (.agg #[.int .i64 20, .int .i64 32, .int .i64 4]) :: .exact (.agg (([.int .i64 2, .int .i64 0] : List Value)).toArray) :: .exact (.agg (bc P1).toArray) :: .rel (fun _ _ => True) :: .rel (fun _ _ => True) :: .rel (fun _ _ => True) :: .exact _ :: .rel (fun _ _ => True) :: .exact undef :: .exact _ :: [])) (callX (nxN 12 D N g a (Lg.new.batch 2 true) (Lg.new.batch 2 true).A []) 19 T.tab10_7_b w.drew) T.tab10_7_i E T.mixed T.tab10_7 rfl ?_ ⟨gx_val  rfl rfl rfl M (fun x w' M' => ⟨_, rfl, rfl, rfl, run_move rfl rfl, rfl⟩),
      gx_val  rfl rfl rfl M (fun x w' M' => ⟨_, rfl, rfl, rfl, run_nilCheck rfl rfl, rfl⟩),
      gx_val  rfl rfl rfl M (fun x w' M' => ⟨_, rfl, rfl, rfl, run_fieldAddr rfl rfl T.fld34_0, rfl⟩),
      gx_val  rfl rfl rfl M (fun x w' M' => ⟨_, rfl, rfl, rfl, run_loadB rfl rfl T.one29 (M'.row (i := 3) rfl) rfl, rfl⟩),
      gx_val  rfl rfl rfl M (fun x w' M' => ⟨_, rfl, rfl, rfl, run_move rfl rfl, rfl⟩),
      gx_val  rfl rfl rfl M (fun x w' M' => ⟨_, rfl, rfl, rfl, run_nilCheck rfl rfl, rfl⟩),
      gx_val  rfl rfl rfl M (fun x w' M' => ⟨_, rfl, rfl, rfl, run_fieldAddr rfl rfl T.fld34_1, rfl⟩),
      gx_val  rfl rfl rfl M (fun x w' M' => ⟨_, rfl, rfl, rfl, run_loadB rfl rfl T.one30 (M'.row (i := 3) rfl) rfl, rfl⟩),
      gx_val  rfl rfl rfl M (fun x w' M' => ⟨_, rfl, rfl, rfl, rfl, rfl⟩),
      gx_ext  rfl rfl rfl M (fun x w' M' => ⟨_, _, rfl, rfl, rfl, run_call rfl rfl T.fn8, (rsmall_x).ext⟩),
      gx_val  rfl rfl rfl M (fun x w' M' => ⟨_, rfl, rfl, rfl, run_buildP (vs := [.int .i64 2]) (us := ([.int .i64 2, .int .i64 0] : List Value)) rfl rfl T.ts26 T.zeroL26 (rfl) rfl rfl (rfl), rfl⟩),
      gx_val  rfl rfl rfl M (fun x w' M' => ⟨_, rfl, rfl, rfl, run_buildE1 rfl rfl T.arr28 T.size5 T.zero28 rfl rfl, rfl⟩),
      gx_call  rfl rfl rfl M (fun x w' M' H' => ⟨_, _, rfl, rfl, rfl, run_call rfl rfl T.fn7, nextN (sg := 2) (sl0 := 0) (prev := P1) (z := []) (z' := []) H' hRd hI hrl (by decide) hI.an (by decide) (by decide) rfl (by rw [List.append_nil]; exact next_prev hb hI hrl (hI.own _ _) rfl rfl (by decide))⟩),
      gx_mv  rfl rfl rfl hBx (fun x w' => ⟨rfl, rfl, rfl, fun y hy => run_moveV rfl hy⟩),
      gx_fst  rfl rfl rfl hBx (fun x w' y hy => ⟨rfl, rfl, rfl, run_extractV rfl hy rfl⟩),
      gx_snd  rfl rfl rfl hBs (fun x w' y hy => ⟨rfl, rfl, rfl, run_extractV rfl hy rfl⟩),
      gx_alloc  rfl rfl rfl rfl (fun x w' => ⟨rfl, rfl, rfl, run_allocN rfl T.zero41⟩),
      gx_set  rfl rfl rfl hBx (fun x w' g y ha hx H' hg => ⟨rfl, rfl, rfl, run_storeAll rfl ha hx T.size41 (rfl) hg rfl (fun u hu => bx0_one u (by simpa using hu))⟩),
      gx_val  rfl rfl rfl M (fun x w' M' => ⟨_, rfl, rfl, rfl, run_assign rfl rfl, rfl⟩), trivial⟩ ?_)
  · exact callX_ok hBx (fun q hq => Mem.old M q hq) ⟨fun _ _ => trivial, fun _ _ => trivial, fun _ _ => trivial, fun _ _ => trivial, trivial⟩
  intro x fr w ⟨bb, hb2, hI2⟩ hk E
  obtain ⟨⟨D, N⟩, b3, hgx, hRd, M⟩ := Mem.behindX (K := nxN 12 D N g a (Lg.new.batch 2 true) (Lg.new.batch 2 true).A []) M hI2 (hb2 12 (by decide)) (hb2 16 (by decide)) (hb2 17 (by decide))
  have E := Env.say (t := 6) E rfl hgx
  have M := Mem.take (L := [dkE D, nmE N, .blk b3 (.cells bx0.toArray 41), .blk b2 (.cells bx0.toArray 41), .row 83 35 ev s.es.length (ecs s.es), .blk b1 (.cells (bxJ s ev 0 2).toArray 41), .blk gl (.cells (lgc g a (Lg.new.batch 2 true).sg (Lg.new.batch 2 true).sl (Lg.new.batch 2 true).prev lf lsm (Lg.new.batch 2 true).n).toArray 34), .row 36 34 lf (Lg.new.batch 2 true).froms.length (askC (Lg.new.batch 2 true).froms), .row 39 35 lsm qs.length (smC qs), .rows 35 (qs.map rowQ).reverse]) M
  refine then_normal ?_
  have M := M.pull 1 rfl
  have M := M.pull 1 rfl
  have M : Mem _ _ ([dkE D, nmE N] ++ _) _ _ := M
  have hBx : cxw 14 18 19 15 16 21 T.tab10_8_b = true := by decide +kernel
  have hBs : (waits T.tab10_8_b 17 15 && waits T.tab10_8_b 17 14) = true := by decide +kernel
  refine wp_seq (free_regX (B := T.tab10_8_b) (Vs := (.exact _ :: .exact _ :: .exact (.pointer (some ⟨_, 0, none⟩)) :: .exact (.pointer (some ⟨g, 0, none⟩)) :: .exact _ :: .exact _ :: .exact (.pointer (some ⟨_, 1, none⟩)) :: .exact (.pointer (some ⟨a, 0, none⟩)) :: .exact (.iface 30 (.pointer (some ⟨a, 0, none⟩))) :: .exact (.agg #[.int .i64 20, .int .i64 32, .int .i64 4]) :: .exact (.pointer (some ⟨_, 38, none⟩)) :: .exact (.agg #[.int .i64 2, .int .i64 3]) :: .exact (.pointer (some ⟨_, 40, none⟩)) :: .exact (.agg (bc (sumOf 3)).toArray) :: .rel (fun _ _ => True) :: .rel (fun _ _ => True) :: .rel (fun _ _ => True) :: .exact _ :: .rel (fun _ _ => True) :: .exact undef :: .exact _ :: [])) (callX (nxN 14 D N g a (Lg.new.batch 2 true) (Lg.new.batch 2 true).A []) 21 T.tab10_8_b w.drew) T.tab10_8_i E T.mixed T.tab10_8 rfl ?_ ⟨gx_val  rfl rfl rfl M (fun x w' M' => ⟨_, rfl, rfl, rfl, run_move rfl rfl, rfl⟩),
      gx_val  rfl rfl rfl M (fun x w' M' => ⟨_, rfl, rfl, rfl, run_nilCheck rfl rfl, rfl⟩),
      gx_val  rfl rfl rfl M (fun x w' M' => ⟨_, rfl, rfl, rfl, run_fieldAddr rfl rfl T.fld34_0, rfl⟩),
      gx_val  rfl rfl rfl M (fun x w' M' => ⟨_, rfl, rfl, rfl, run_loadB rfl rfl T.one29 (M'.row (i := 4) rfl) rfl, rfl⟩),
      gx_val  rfl rfl rfl M (fun x w' M' => ⟨_, rfl, rfl, rfl, run_move rfl rfl, rfl⟩),
      gx_val  rfl rfl rfl M (fun x w' M' => ⟨_, rfl, rfl, rfl, run_nilCheck rfl rfl, rfl⟩),
      gx_val  rfl rfl rfl M (fun x w' M' => ⟨_, rfl, rfl, rfl, run_fieldAddr rfl rfl T.fld34_1, rfl⟩),
      gx_val  rfl rfl rfl M (fun x w' M' => ⟨_, rfl, rfl, rfl, run_loadB rfl rfl T.one30 (M'.row (i := 4) rfl) rfl, rfl⟩),
      gx_val  rfl rfl rfl M (fun x w' M' => ⟨_, rfl, rfl, rfl, rfl, rfl⟩),
      gx_ext  rfl rfl rfl M (fun x w' M' => ⟨_, _, rfl, rfl, rfl, run_call rfl rfl T.fn8, (rsmall_x).ext⟩),
      gx_val  rfl rfl rfl M (fun x w' M' => ⟨_, rfl, rfl, rfl, run_fieldAddr rfl rfl T.fld41_3, rfl⟩),
      gx_val  rfl rfl rfl M (fun x w' M' => ⟨_, rfl, rfl, rfl, run_loadN' (vs := #[.int .i64 ((2 + (0 + 2 + 1) / 32 : Nat) : Int), .int .i64 ((((0 + 2 + 1) % 32 : Nat)) : Int)]) rfl rfl T.agg26 (M'.row (i := 3) rfl) (sz72 (bxJ_size hs _ _ _) rfl) (congrArg List.toArray (bxJ_end hs)), rfl⟩),
      gx_val  rfl rfl rfl M (fun x w' M' => ⟨_, rfl, rfl, rfl, run_fieldAddr rfl rfl T.fld41_4, rfl⟩),
      gx_val  rfl rfl rfl M (fun x w' M' => ⟨_, rfl, rfl, rfl, run_loadN' (vs := (bc (sumOf 3)).toArray) rfl rfl T.agg28 (M'.row (i := 3) rfl) (sz72 (bxJ_size hs _ _ _) rfl) (congrArg List.toArray (bxJ_sum hs)), rfl⟩),
      gx_call  rfl rfl rfl M (fun x w' M' H' => ⟨_, _, rfl, rfl, rfl, run_call rfl rfl T.fn7, nextN (sg := 2) (sl0 := 3) (prev := sumOf 3) (z := []) (z' := []) H' hRd hI hrl (by decide) hI.an (by decide) (by decide) rfl (by rw [List.append_nil]; exact next_past hI (hI.past (Nat.le_refl _)) (by rw [hr3]; decide))⟩),
      gx_mv  rfl rfl rfl hBx (fun x w' => ⟨rfl, rfl, rfl, fun y hy => run_moveV rfl hy⟩),
      gx_fst  rfl rfl rfl hBx (fun x w' y hy => ⟨rfl, rfl, rfl, run_extractV rfl hy rfl⟩),
      gx_snd  rfl rfl rfl hBs (fun x w' y hy => ⟨rfl, rfl, rfl, run_extractV rfl hy rfl⟩),
      gx_alloc  rfl rfl rfl rfl (fun x w' => ⟨rfl, rfl, rfl, run_allocN rfl T.zero41⟩),
      gx_set  rfl rfl rfl hBx (fun x w' g y ha hx H' hg => ⟨rfl, rfl, rfl, run_storeAll rfl ha hx T.size41 (rfl) hg rfl (fun u hu => bx0_one u (by simpa using hu))⟩),
      gx_val  rfl rfl rfl M (fun x w' M' => ⟨_, rfl, rfl, rfl, run_assign rfl rfl, rfl⟩), trivial⟩ ?_)
  · exact callX_ok hBx (fun q hq => Mem.old M q hq) ⟨fun _ _ => trivial, fun _ _ => trivial, fun _ _ => trivial, fun _ _ => trivial, trivial⟩
  intro x fr w ⟨bb, hb2, hI2⟩ hk E
  obtain ⟨⟨D, N⟩, b4, hgx, hRd, M⟩ := Mem.behindX (K := nxN 14 D N g a (Lg.new.batch 2 true) (Lg.new.batch 2 true).A []) M hI2 (hb2 14 (by decide)) (hb2 18 (by decide)) (hb2 19 (by decide))
  have E := Env.say (t := 8) E rfl hgx
  have M := Mem.take (L := [dkE D, nmE N, .blk b4 (.cells bx0.toArray 41), .blk b3 (.cells bx0.toArray 41), .blk b2 (.cells bx0.toArray 41), .row 83 35 ev s.es.length (ecs s.es), .blk b1 (.cells (bxJ s ev 0 2).toArray 41), .blk gl (.cells (lgc g a (Lg.new.batch 2 true).sg (Lg.new.batch 2 true).sl (Lg.new.batch 2 true).prev lf lsm (Lg.new.batch 2 true).n).toArray 34), .row 36 34 lf (Lg.new.batch 2 true).froms.length (askC (Lg.new.batch 2 true).froms), .row 39 35 lsm qs.length (smC qs), .rows 35 (qs.map rowQ).reverse]) M
  refine then_normal ?_
  obtain ⟨h16, -⟩ := checkS_in (hI.ok _ _ hb.smy).2.1
  have hql : qs.length = 1 := by have := congrArg List.length hq; rw [List.length_map] at this; rw [this, hW.ql, hDs]
  obtain ⟨⟨s0, ev0⟩, rfl⟩ : ∃ q, qs = [q] := List.length_eq_one_iff.1 hql
  have hse : s = s0 := by have h1 : [s0] = _ := hq; rw [← h1] at hsm; exact (Option.some.inj hsm).symm
  subst hse
  have hsm0 : ((smC [(s, ev0)]).drop (0 * 35)).take 35 = (s.cells ev0) := by simp [smC, List.take_of_length_le, Smy.len hs]
  have hrw : (ev0, ecs s.es) ∈ ([(s, ev0)].map rowQ).reverse := by simp [rowQ]
  refine wp_seq (free_reg (B := T.tab10_9_b) (Vs := (.exact (.int .i64 0) :: .exact (.bool true) :: .exact (.bool true) :: .exact (.pointer (some ⟨_, 35, none⟩)) :: .exact (.int .i64 7) :: .exact (.bool true) :: .exact (.bool true) :: .exact (.bool true) :: .exact (.pointer (some ⟨_, 38, none⟩)) :: .exact (.agg #[.int .i64 2, .int .i64 3]) :: .exact (.agg (([.int .i64 2, .int .i64 3] : List Value)).toArray) :: .exact (.bool true) :: .exact (.bool true) :: .exact (.bool true) :: .exact (.pointer (some ⟨_, 36, none⟩)) :: .exact (.agg #[.int .i64 2, .int .i64 2]) :: .exact (.agg (([.int .i64 2, .int .i64 2] : List Value)).toArray) :: .exact (.bool true) :: .exact (.bool true) :: .exact (.bool true) :: .exact (.pointer (some ⟨_, 0, none⟩)) :: .exact (.agg (s.cells ev).toArray) :: .exact _ :: .exact _ :: .exact (.pointer (some ⟨_, 37, none⟩)) :: .exact (lsm) :: .exact (cellAt lsm (0 * 35)) :: .exact (.agg (s.cells ev0).toArray) :: .exact (.bool true) :: .exact (.bool true) :: .exact (.bool true) :: .exact (.int .i64 20) :: .exact (.bool true) :: .exact (.bool true) :: .exact (.bool true) :: .exact (.int .i64 20) :: .exact (.bool true) :: .exact (.bool true) :: .exact (.bool true) :: .exact (.int .i64 20) :: .exact (.bool true) :: .exact (.bool true) :: .exact _ :: [])) T.tab10_9_i E T.mixed T.tab10_9 rfl (AllS.lasts ⟨trivial, trivial, trivial, trivial, trivial, trivial, trivial, trivial, trivial, trivial, trivial, trivial, trivial, trivial, trivial, trivial, trivial, trivial, trivial, trivial, trivial, trivial, trivial, trivial, trivial, trivial, trivial, trivial, trivial, trivial, trivial, trivial, trivial, trivial, trivial, trivial, trivial, trivial, trivial, trivial, trivial, trivial, trivial, trivial⟩) ⟨fv rfl rfl (fun x w hx hk => run_move rfl rfl),
      fv rfl rfl (fun x w hx hk => tst rfl (rfl)),
      fv rfl rfl (fun x w hx hk => run_move rfl rfl),
      fv rfl rfl (fun x w hx hk => run_fieldAddr rfl rfl T.fld41_1),
      fv rfl rfl (fun x w hx hk => run_loadB rfl rfl T.one3 ((M.ext ((Ext.drew _).trans hx)).row (i := 6) rfl) (bxJ_ep hs)),
      fv rfl rfl (fun x w hx hk => tst rfl (rfl)),
      fv rfl rfl (fun x w hx hk => rfl),
      fv rfl rfl (fun x w hx hk => run_move rfl rfl),
      fv rfl rfl (fun x w hx hk => run_fieldAddr rfl rfl T.fld41_3),
      fv rfl rfl (fun x w hx hk => run_loadN' (vs := #[.int .i64 2, .int .i64 3]) rfl rfl T.agg26 ((M.ext ((Ext.drew _).trans hx)).row (i := 6) rfl) (sz72 (bxJ_size hs _ _ _) rfl) (congrArg List.toArray (bxJ_end hs))),
      fv rfl rfl (fun x w hx hk => run_buildP (vs := [.int .i64 2, .int .i64 3]) (us := ([.int .i64 2, .int .i64 3] : List Value)) rfl rfl T.ts26 T.zeroL26 (rfl) rfl rfl (rfl)),
      fv rfl rfl (fun x w hx hk => run_eqF (b := true) (xs := [iv 2, iv 3]) (ys := [iv 2, iv 3]) rfl rfl rfl T.flat26 rfl rfl (by simp)),
      fv rfl rfl (fun x w hx hk => rfl),
      fv rfl rfl (fun x w hx hk => run_move rfl rfl),
      fv rfl rfl (fun x w hx hk => run_fieldAddr rfl rfl T.fld41_2),
      fv rfl rfl (fun x w hx hk => run_loadN' (vs := #[.int .i64 2, .int .i64 2]) rfl rfl T.agg26 ((M.ext ((Ext.drew _).trans hx)).row (i := 6) rfl) (sz72 (bxJ_size hs _ _ _) rfl) (congrArg List.toArray (bxJ_pl hs))),
      fv rfl rfl (fun x w hx hk => run_buildP (vs := [.int .i64 2, .int .i64 2]) (us := ([.int .i64 2, .int .i64 2] : List Value)) rfl rfl T.ts26 T.zeroL26 (rfl) rfl rfl (rfl)),
      fv rfl rfl (fun x w hx hk => run_eqF (b := true) (xs := [iv 2, iv 2]) (ys := [iv 2, iv 2]) rfl rfl rfl T.flat26 rfl rfl (by simp)),
      fv rfl rfl (fun x w hx hk => rfl),
      fv rfl rfl (fun x w hx hk => run_move rfl rfl),
      fv rfl rfl (fun x w hx hk => run_fieldAddr rfl rfl T.fld41_0),
      fv rfl rfl (fun x w hx hk => run_loadN' (vs := (s.cells ev).toArray) rfl rfl T.agg39 ((M.ext ((Ext.drew _).trans hx)).row (i := 6) rfl) (sz72 (bxJ_size hs _ _ _) rfl) (congrArg List.toArray (bxJ_smy hs))),
      fv rfl rfl (fun x w hx hk => run_move rfl rfl),
      fv rfl rfl (fun x w hx hk => run_nilCheck rfl rfl),
      fv rfl rfl (fun x w hx hk => run_fieldAddr rfl rfl T.fld34_5),
      fv rfl rfl (fun x w hx hk => run_loadB rfl rfl T.one32 ((M.ext ((Ext.drew _).trans hx)).row (i := 7) rfl) (lgc_lsm hp)),
      fv rfl rfl (fun x w hx hk => run_indexR (i := 0) rfl ((M.ext ((Ext.drew _).trans hx)).reads 9 rfl) rfl rfl (rfl) (Nat.zero_lt_one) T.slice32 T.size39),
      fv rfl rfl (fun x w hx hk => run_loadRN (k := 0 * 35) rfl ((M.ext ((Ext.drew _).trans hx)).reads 9 rfl) rfl T.agg39 (by simp) (by decide) hsm0),
      fs_ext rfl rfl (fun x w hx hk => ⟨_, _, rfl, rfl, rfl, run_call rfl rfl T.fn9, (SameSummary_x hs h16 ((M.ext ((Ext.drew _).trans hx)).reads 5 rfl) ((Mem.ofRows (M.ext ((Ext.drew _).trans hx)) (i := 10) rfl hrw).asLen (by rw [ecs_len hs.2]; omega))).ext⟩),
      fv rfl rfl (fun x w hx hk => rfl),
      fv rfl rfl (fun x w hx hk => run_move rfl rfl),
      fv rfl rfl (fun x w hx hk => run_move rfl rfl),
      fv rfl rfl (fun x w hx hk => tst rfl (rfl)),
      fv rfl rfl (fun x w hx hk => rfl),
      fv rfl rfl (fun x w hx hk => run_move rfl rfl),
      fv rfl rfl (fun x w hx hk => run_move rfl rfl),
      fv rfl rfl (fun x w hx hk => tst rfl (rfl)),
      fv rfl rfl (fun x w hx hk => rfl),
      fv rfl rfl (fun x w hx hk => run_move rfl rfl),
      fv rfl rfl (fun x w hx hk => run_move rfl rfl),
      fv rfl rfl (fun x w hx hk => tst rfl (rfl)),
      fv rfl rfl (fun x w hx hk => rfl),
      fv rfl rfl (fun x w hx hk => run_assign rfl rfl), trivial⟩ ?_)
  intro x fr w hx hk E
  have M := M.ext hx
  refine then_normal ?_
  refine wp_ret ?_
  refine ret1 E rfl rfl ?_
  exact given M
end Go.Proofs.Ytnebjbgcibjohaa.K
end
section
namespace Go.Proofs.Ytnebjbgcibjohaa.K
open Go.RowKit Go.Rill Go.Proofs
set_option linter.unusedVariables false
set_option linter.unusedSimpArgs false
theorem qs_get {qs : List (Smy × Value)} {S : List Smy} {i : Nat} {s : Smy} (hq : qs.map (·.1) = S) (h : S[i]? = some s) : ∃ v, qs[i]? = some (s, v) := by
  subst hq
  rw [List.getElem?_map, Option.map_eq_some_iff] at h
  obtain ⟨⟨s', v⟩, h1, rfl⟩ := h
  exact ⟨v, h1⟩
theorem flat_get {T : Type} {f : T → List Value} {k : Nat} : ∀ {l : List T} {i : Nat} {x : T}, (∀ y ∈ l, (f y).length = k) → l[i]? = some x → (((l.map f).flatten).drop (i * k)).take k = f x
  | [], _, _, _, h => by simp at h
  | y :: r, 0, x, h, h0 => by
    simp only [List.getElem?_cons_zero, Option.some.injEq] at h0
    subst h0
    rw [Nat.zero_mul, List.drop_zero, List.map_cons, List.flatten_cons]
    exact List.take_left' (h _ (List.mem_cons_self ..))
  | y :: r, i + 1, x, h, h0 => by
    have hy := h y (List.mem_cons_self ..)
    rw [List.map_cons, List.flatten_cons, show (i + 1) * k = (f y).length + i * k by rw [hy, Nat.add_mul, Nat.one_mul, Nat.add_comm], ← List.drop_drop, List.drop_left' rfl]
    exact flat_get (fun z hz => h z (List.mem_cons_of_mem _ hz)) (by simpa using h0)
section
variable {L : Lg} {rs : List Rc} {Ds : List Nat} {i : Nat}
theorem WL.smy_ok (h : WL L rs Ds) {s : Smy} (hs : s ∈ L.sums) : s.Ok := by
  obtain ⟨i, hi, rfl⟩ := List.getElem_of_mem hs
  obtain ⟨_, s', h1, h2⟩ := h.bt i (by rw [← h.ql]; exact hi)
  rw [List.getElem?_eq_getElem hi] at h1
  rw [Option.some.inj h1]
  exact (h.inv.ok _ _ h2.smy).1
theorem smC_get (h : WL L rs Ds) (hI : L.Inv rs) {qs : List (Smy × Value)} (hq : qs.map (·.1) = L.sums) {s : Smy} {v : Value} (hi : qs[i]? = some (s, v)) : ((smC qs).drop (i * 35)).take 35 = s.cells v :=
  flat_get (f := fun q : Smy × Value => q.1.cells q.2) (fun y hy => Smy.len (h.smy_ok (hq ▸ List.mem_map.2 ⟨y, hy, rfl⟩))) hi
theorem ask_get (h : WL L rs Ds) {f : Int × Int × List UInt8} (hf : L.froms[i]? = some f) : ((askC L.froms).drop (i * 34)).take 34 = askV f :=
  flat_get (f := askV) (fun y hy => by
    obtain ⟨i, hi, rfl⟩ := List.getElem_of_mem hy
    obtain ⟨h1, _⟩ := h.bt i (by rw [← h.fl]; exact hi)
    rw [List.getElem?_eq_getElem hi] at h1
    rw [Option.some.inj h1]
    simp [askV, prevOf_len]) hf
end
end Go.Proofs.Ytnebjbgcibjohaa.K
end
section
namespace Go.Proofs.Ytnebjbgcibjohaa.K
open Go.RowKit Go.Rill Go.Proofs
set_option linter.unusedVariables false
set_option linter.unusedSimpArgs false
theorem _root_.Go.Rill.EOk.set {l : List Ety} (h : EOk l) {k : Nat} {e : Ety} (he : e.Ok) : EOk (l.set k e) := fun r hr => (List.mem_or_eq_of_mem_set hr).elim (h r) fun e2 => e2 ▸ he
theorem _root_.Go.Rill.Reads.own_lt {w : World} {v : Value} {n sz : Nat} {xs : List Value} (h : Reads sz w v n xs) : ∀ q, v.ownBlock = some q → q < w.heap.size := fun q hq => by
  rcases h.2 with ⟨rfl, _⟩ | ⟨g, off, cap, rfl, _, _, hg, _⟩
  · cases hq
  · simp [Value.ownBlock] at hq
    omega
/-- A disk on which the log still is. -/
def PA (rs : List Rc) (A : AD) : Prop := A.n = 643 ∧ A.last.length = 643 ∧ A.cache = [] ∧ A.writes = 0 ∧ ∀ j (h : j < rs.length), A.read (67 + j) = secL j rs[j]
theorem PA.own {rs : List Rc} {A : AD} (h : PA rs A) (j d : Nat) : OwnB rs A.read j d := fun q _ hq => h.2.2.2.2 _ hq
theorem PA.tamper {rs : List Rc} {A : AD} {l : List UInt8} (h : PA rs A) (hr : rs.length ≤ 500) (hl : l.length ≤ 1024) : PA rs (A.tamper ((67 + rs.length : Nat) : Int) l).2 := by
  obtain ⟨h1, h2, h3, h4, h5⟩ := h
  have e := tamper_same (l := l) h3 (k := 67 + rs.length) (by omega) hl
  refine ⟨by rw [e]; exact h1, by rw [e]; exact (List.length_set ..).trans h2, by rw [e]; exact h3, by rw [e]; exact h4, fun j hj => ?_⟩
  rw [tamper_read h3 (by omega) (by omega) hl, if_neg (by omega)]
  exact h5 j hj
theorem Seen.tamper {A A' : AD} (h : Seen A A') {i : Int} {l : List UInt8} : Seen (A.tamper i l).2 (A'.tamper i l).2 := by
  unfold Seen at h
  rw [h]
  unfold Seen AD.tamper AD.there
  simp only
  split
  · exact h ▸ rfl
  · split
    · exact h ▸ rfl
    · rfl
section
variable {L : Lg} {rs : List Rc} {Ds : List Nat} {i : Nat}
theorem ask_pl (h : WL L rs Ds) {f : Int × Int × List UInt8} (hf : L.froms[i]? = some f) : ((askC L.froms).drop (i * 34 + 0)).take 2 = [.int .i64 f.1, .int .i64 f.2.1] := by
  have e := congrArg (List.take 2) (ask_get h hf)
  rw [List.take_take] at e
  exact e
theorem ask_pv (h : WL L rs Ds) {f : Int × Int × List UInt8} (hf : L.froms[i]? = some f) : ((askC L.froms).drop (i * 34 + 2)).take 32 = bc f.2.2 := by
  have e := congrArg (List.drop 2) (ask_get h hf)
  rw [List.drop_take, List.drop_drop] at e
  exact e
end
end Go.Proofs.Ytnebjbgcibjohaa.K
end
section
namespace Go.Proofs.Ytnebjbgcibjohaa.K
open Go.RowKit Go.Rill Go.Proofs
set_option linter.unusedVariables false
set_option linter.unusedSimpArgs false
theorem be8_num64 {s : List UInt8} (h : s.length = 8) : be8 (num64 s) = s := by
  obtain ⟨a, b, c, d, e, f, g, i, rfl⟩ : ∃ a b c d e f g i, s = [a, b, c, d, e, f, g, i] := by
    match s, h with
    | [a, b, c, d, e, f, g, i], _ => exact ⟨a, b, c, d, e, f, g, i, rfl⟩
  have ha := a.toNat_lt; have hb := b.toNat_lt; have hc := c.toNat_lt; have hd := d.toNat_lt; have he := e.toNat_lt; have hf := f.toNat_lt; have hg := g.toNat_lt; have hi := i.toNat_lt
  have hv : ∃ q : Int, num64 [a, b, c, d, e, f, g, i] = ((((((((a.toNat : Int) * 256 + b.toNat) * 256 + c.toNat) * 256 + d.toNat) * 256 + e.toNat) * 256 + f.toNat) * 256 + g.toNat) * 256 + i.toNat) + q * 18446744073709551616 := by
    unfold num64 fold64
    simp only [List.foldl_cons, List.foldl_nil]
    rw [IntKind.wrap_i64]
    refine ⟨((((((((((a.toNat : Int) * 256 + b.toNat) * 256 + c.toNat) * 256 + d.toNat) * 256 + e.toNat) * 256 + f.toNat) * 256 + g.toNat) * 256 + i.toNat) + 9223372036854775808) / 18446744073709551616) * (-1), ?_⟩
    omega
  obtain ⟨q, hv⟩ := hv
  have key : ∀ (x : Int) (y : UInt8), x % 256 = (y.toNat : Int) → UInt8.ofInt x = y := fun x y h => by
    apply UInt8.toNat.inj
    have := ofInt_toNat x
    omega
  unfold be8
  rw [hv]
  rw [key _ a (by omega), key _ b (by omega), key _ c (by omega), key _ d (by omega), key _ e (by omega), key _ f (by omega), key _ g (by omega), key _ i (by omega)]
theorem sumOf_inj {a b : Nat} (h : sumOf a = sumOf b) (ha : a ≤ 100000) (hb : b ≤ 100000) : a = b := by
  have := be8_inj (List.append_cancel_left h) (by omega) (by omega) (by omega) (by omega)
  omega
theorem prevOf_inj {a b : Nat} (h : prevOf a = prevOf b) (ha : a ≤ 100000) (hb : b ≤ 100000) : a = b := by
  have z : ∀ c, ¬ List.replicate 32 (0 : UInt8) = sumOf c := fun c h => by
    have := congrArg List.head? h
    simp [sumOf, List.replicate] at this
  unfold prevOf at h
  by_cases a0 : a = 0
  · by_cases b0 : b = 0
    · omega
    · rw [if_pos a0, if_neg b0] at h; exact absurd h (z b)
  · by_cases b0 : b = 0
    · rw [if_neg a0, if_pos b0] at h; exact absurd h.symm (z a)
    · rw [if_neg a0, if_neg b0] at h; exact sumOf_inj h ha hb
theorem toldF_app : ∀ (l : List Ety) (ts : List (List UInt8)) (fr : Int) (bs : List (List UInt8)), ∃ y, (toldF ts l fr bs).2 = ts ++ y ∧ y.length ≤ l.length
  | [], ts, fr, bs => ⟨[], by simp [toldF], Nat.le_refl _⟩
  | e :: r, ts, fr, [] => by
    by_cases h : e.k = 2
    · rw [told_trim h]
      obtain ⟨y, a, b⟩ := toldF_app r ts fr []
      exact ⟨y, a, by simp only [List.length_cons]; omega⟩
    · rw [told_none h]
      exact ⟨[], by simp, by simp⟩
  | e :: r, ts, fr, b :: k => by
    have ht : ∃ y, textKs ts b = ts ++ y ∧ y.length ≤ 1 := by
      unfold textKs
      split
      · exact ⟨[], by simp, by simp⟩
      · exact ⟨[b], rfl, by simp⟩
    by_cases h : e.k = 2
    · rw [told_trim h]
      obtain ⟨y, a, c⟩ := toldF_app r ts fr (b :: k)
      exact ⟨y, a, by simp only [List.length_cons]; omega⟩
    · by_cases h2 : e.s = fr
      · obtain ⟨y, a, c⟩ := ht
        by_cases h3 : e.sum = sumOf (textNo ts b)
        · rw [told_go h h2 h3]
          obtain ⟨y2, a2, c2⟩ := toldF_app r (textKs ts b) (fr + 1) k
          exact ⟨y ++ y2, by rw [a2, a, List.append_assoc], by simp only [List.length_append, List.length_cons]; omega⟩
        · rw [told_sum h h2 h3]
          exact ⟨y, a, by simp only [List.length_cons]; omega⟩
      · rw [told_slot h h2]
        exact ⟨[], by simp, by simp⟩
theorem told_tail_no {ts : List (List UInt8)} {fr : Int} {bs : List (List UInt8)} : ∀ {t : List Ety}, (∀ e ∈ t, e.k = 2) → (toldF ts t fr bs).1 = true → bs = []
  | [], _, h => by simpa [toldF] using h
  | e :: r, h, h1 => by
    rw [told_trim (h e (List.mem_cons_self ..))] at h1
    exact told_tail_no (fun x hx => h x (List.mem_cons_of_mem _ hx)) h1
section
variable {L : Lg} {rs : List Rc} {Ds : List Nat} {rd : Nat → List UInt8} {z : List (List UInt8)} {j d : Nat} {s : Smy}
/-- Only the own sectors are told. -/
theorem told_only {t : List Ety} (ht : ∀ e ∈ t, e.k = 2) (hl : rs.length ≤ 500) (hz : z.length ≤ 1000) (hjd : j + d ≤ rs.length) (h31 : j % 32 + d ≤ 31) : ∀ {k q : Nat} {bs : List (List UInt8)}, q + k = d → (toldF (rs.mapIdx secL ++ z) ((List.range' q k).map (dataE j) ++ t) ((j % 32 + q : Nat) : Int) bs).1 = true → bs = rowsL rs j q k
  | 0, q, bs, _, h => by
    rw [told_tail_no ht h]; rfl
  | k + 1, q, bs, e, h => by
    have hq : j + q < rs.length := by omega
    rw [List.range'_succ, List.map_cons, List.cons_append] at h
    have hk : ¬ (dataE j q).k = 2 := by simp [dataE]
    cases bs with
    | nil => rw [told_none hk] at h; cases h
    | cons b r =>
      have hsl : (dataE j q).s = ((j % 32 + q : Nat) : Int) := by show (((j + q) % 32 : Nat) : Int) = _; omega
      by_cases h3 : (dataE j q).sum = sumOf (textNo (rs.mapIdx secL ++ z) b)
      · rw [told_go hk hsl h3] at h
        have hno : textNo (rs.mapIdx secL ++ z) b = j + q + 1 := by
          have h4 : sumOf (j + q + 1) = sumOf (textNo (rs.mapIdx secL ++ z) b) := h3
          refine (sumOf_inj h4 (by omega) ?_).symm
          unfold textNo
          split
          · rename_i m hm
            have := (nat_get hm).2.1
            rw [List.length_append, List.length_mapIdx] at this
            omega
          · rw [List.length_append, List.length_mapIdx]; omega
        have hb : b = secL (j + q) rs[j + q] := by
          unfold textNo at hno
          split at hno
          · rename_i m hm
            obtain rfl : m = j + q := by omega
            have := (nat_get hm).1
            rw [List.getElem?_append_left (by simpa using hq), (rc_at hq).2] at this
            exact (Option.some.inj this).symm
          · rw [List.length_append, List.length_mapIdx] at hno; omega
        have hks : textKs (rs.mapIdx secL ++ z) b = rs.mapIdx secL ++ z := by rw [hb]; exact (sec_no hq (by omega) z).2
        rw [hks, show ((j % 32 + q : Nat) : Int) + 1 = ((j % 32 + (q + 1) : Nat) : Int) by omega] at h
        have := told_only ht hl hz hjd h31 (k := k) (q := q + 1) (by omega) h
        rw [rowsL_succ, (rc_at hq).2, Option.getD_some, ← this, hb]
      · rw [told_sum hk hsl h3] at h; cases h
/-- A summary's sector is one of the log's, or is not got. -/
theorem sec_eq {q : Nat} {l p : List UInt8} {kd : Int} (hk : 1 ≤ kd ∧ kd ≤ 5) (h0 : kindOf l = kd) (h1 : secE l = 7) (h2 : secN l = ((q : Nat) : Int) + 1) (h3 : l.drop 17 = p ++ tagOf (q + 1)) : l = [UInt8.ofInt kd] ++ be8 7 ++ be8 (((q : Nat) : Int) + 1) ++ (p ++ tagOf (q + 1)) := by
  have hl : 17 ≤ l.length := by
    have := congrArg List.length h3
    simp [tagOf, be8_len] at this
    omega
  have e0 : l.take 1 = [UInt8.ofInt kd] := by
    unfold kindOf at h0
    rw [dif_pos hl] at h0
    cases l with
    | nil => simp at hl
    | cons x r =>
      simp only [List.getElem_cons_zero] at h0
      have hx : (x.toNat : Int) = kd := by
        split at h0
        · omega
        · split at h0
          · omega
          · exact h0
      have hx2 : x = UInt8.ofInt kd := by
        apply UInt8.toNat.inj
        have := kind_first hk
        omega
      simp [hx2]
  have e1 : (l.drop 1).take 8 = be8 7 := by
    unfold secE rInt at h1
    rw [if_neg (by simp; omega)] at h1
    simp only [List.take_take] at h1
    rw [← h1]
    exact (be8_num64 (by simp; omega)).symm
  have e2 : (l.drop 9).take 8 = be8 (((q : Nat) : Int) + 1) := by
    unfold secN rNext at h2
    rw [if_neg (by simp; omega)] at h2
    unfold rInt at h2
    rw [if_neg (by simp; omega)] at h2
    simp only [List.drop_take, List.take_take, List.drop_drop] at h2
    rw [← h2]
    exact (be8_num64 (by simp; omega)).symm
  have t : ∀ a b, l.drop a = (l.drop a).take b ++ l.drop (a + b) := fun a b => by rw [← List.drop_drop, List.take_append_drop]
  have s0 : l = l.take 1 ++ ((l.drop 1).take 8 ++ ((l.drop 9).take 8 ++ l.drop 17)) := by
    conv => lhs; rw [show l = l.drop 0 from rfl, t 0 1, t 1 8, t 9 8]
    rfl
  rw [s0, e0, e1, e2, h3]
  simp
theorem jOf_mono (hs : ∀ d ∈ Ds, d ≤ 15) : ∀ {b a : Nat}, a < b → b ≤ Ds.length → jOf Ds a < jOf Ds b
  | 0, _, h, _ => absurd h (Nat.not_lt_zero _)
  | b + 1, a, h, hb => by
    rw [jOf_succ hb]
    rcases Nat.lt_or_eq_of_le (Nat.le_of_lt_succ h) with c | rfl
    · have := jOf_mono hs c (by omega); omega
    · omega
/-- Each sector stands in a batch. -/
theorem batch_of : ∀ {n : Nat}, n ≤ Ds.length → ∀ {q : Nat}, q < jOf Ds n → ∃ i, ∃ h : i < Ds.length, jOf Ds i ≤ q ∧ q ≤ jOf Ds i + Ds[i]
  | 0, _, q, hq => by simp [jOf] at hq
  | n + 1, h, q, hq => by
    rw [jOf_succ h] at hq
    by_cases c : q < jOf Ds n
    · exact batch_of (by omega) c
    · exact ⟨n, h, by omega, by omega⟩
theorem smy_in (hW : WL L rs Ds) {q : Nat} {s' : Smy} (h : rs[q]? = some (.smy s')) : ∃ i, ∃ hi : i < Ds.length, q = jOf Ds i + Ds[i] ∧ s'.prev = prevOf (jOf Ds i) := by
  have hq := (List.getElem?_eq_some_iff.1 h).1
  rw [hW.len] at hq
  obtain ⟨i, hi, h1, h2⟩ := batch_of (Nat.le_refl _) hq
  obtain ⟨_, s, hs, hb⟩ := hW.bt i hi
  by_cases c : q = jOf Ds i + Ds[i]
  · refine ⟨i, hi, c, ?_⟩
    have := hb.smy
    rw [← c, h] at this
    injection this with this
    injection this with this
    rw [this]
    exact hb.prev
  · obtain ⟨pl, hp⟩ := hb.data (q - jOf Ds i) (by omega)
    rw [show jOf Ds i + (q - jOf Ds i) = q by omega, h] at hp
    cases hp
/-- Of a log in which sectors were written over: a batch that has not all its own is not read. -/
theorem next_not (hW : WL L rs Ds) (hl : rs.length ≤ 500) (hz : z.length ≤ 1000) {i : Nat} (hi : i < Ds.length) (hj : j = jOf Ds i) (hd : d = Ds[i]) (hb : Bt rs j d s) (hno : ¬ OwnB rs rd j d) {sg sl0 : Int} (hsl : sl0 = ((j % 32 : Nat) : Int)) : ∀ {k q : Nat} {bs : List (List UInt8)}, bs = (List.range q).map (fun m => rd (67 + (j + m))) → q + k ≤ 32 →
    ∃ z', z'.length ≤ z.length + 16 ∧ nextF rd L.ks (smyAt rs) (L.ts ++ z) sg sl0 (prevOf j) k (67 + (j + q)) bs = (none, L.ts ++ z')
  | 0, q, bs, _, _ => ⟨z, by omega, rfl⟩
  | k + 1, q, bs, hbs, hq => by
    have hI := hW.inv
    have hlt := hb.lt
    by_cases h45 : kindOf (rd (67 + (j + q))) = 4 ∨ kindOf (rd (67 + (j + q))) = 5
    · rw [next_row h45]
      exact next_not hW hl hz hi hj hd hb hno hsl (k := k) (q := q + 1) (by rw [hbs, List.range_succ, List.map_append]; rfl) (by omega)
    · by_cases h3 : kindOf (rd (67 + (j + q))) = 3
      · rw [next_whole (fun c => h45 (.inl c)) (fun c => h45 (.inr c)) h3]
        unfold wholeF
        cases hg : sgetX L.ks 3 ((67 + (j + q) : Nat) : Int) (rd (67 + (j + q))) with
        | none => exact ⟨z, by omega, rfl⟩
        | some x =>
          obtain ⟨e, n, p⟩ := x
          have hg2 := hg
          rw [hI.ks] at hg2
          obtain ⟨j', s', e1, h1, h2, h4, h5, h6⟩ := sget_smy hl (by omega) hg2
          obtain rfl : j' = j + q := by omega
          rw [smyAt_of h1]
          simp only
          by_cases hpv : s'.prev = prevOf j
          · rw [if_neg (fun c => c hpv)]
            obtain ⟨i', hi', e2, e3⟩ := smy_in hW h1
            have hjs := jOf_small hW.small (Nat.le_of_lt hi)
            have hjs' := jOf_small hW.small (Nat.le_of_lt hi')
            have hsm : Ds.length ≤ 500 := by
              have h7 : ∀ n, n ≤ jOf Ds n := fun n => by unfold jOf; omega
              have := h7 Ds.length
              rw [← hW.len] at this
              omega
            have e4 := prevOf_inj (e3.symm.trans hpv) (by omega) (by omega)
            have e5 : i' = i := by
              rcases Nat.lt_trichotomy i' i with c | c | c
              · have := jOf_mono hW.small c (Nat.le_of_lt hi); omega
              · exact c
              · have := jOf_mono hW.small c (Nat.le_of_lt hi'); omega
            subst e5
            rw [← hj, ← hd] at e2
            obtain rfl : q = d := by omega
            have e6 : s' = s := by
              have := hb.smy
              rw [h1] at this
              injection this with this
              injection this
            subst e6
            cases ht : (toldF (L.ts ++ z) s'.es sl0 bs).1 with
            | false =>
              rw [if_neg (by decide)]
              obtain ⟨y, y1, y2⟩ := toldF_app s'.es (L.ts ++ z) sl0 bs
              obtain ⟨h16, -⟩ := checkS_in (hI.ok _ _ hb.smy).2.1
              exact ⟨z ++ y, by rw [List.length_append]; omega, by rw [y1, List.append_assoc]⟩
            | true =>
              exfalso
              obtain ⟨t, t1, t2⟩ := hb.es
              rw [t1, hI.ts, hsl, show dataL j q = (List.range' 0 q).map (dataE j) by rw [dataL, List.range_eq_range']] at ht
              have hrow := told_only t2 hl hz (by omega) hb.seg (k := q) (q := 0) (by omega) (by rw [Nat.add_zero]; exact ht)
              refine hno fun m hm hlt' => ?_
              rcases Nat.lt_or_eq_of_le hm with c | rfl
              · have e7 := congrArg (fun l => l[m]?) hrow
                simp only [hbs, rowsL, List.getElem?_map] at e7
                rw [List.getElem?_range c, List.getElem?_range' c] at e7
                simp only [Option.map_some, Option.some.injEq, Nat.zero_add, Nat.one_mul] at e7
                rw [e7, (rc_at hlt').2]
                rfl
              · obtain ⟨k0, k1, k2, _⟩ := sget_key hg2
                have := sec_eq (q := j + m) (kd := 3) (by decide) k0 (k1.symm.trans h5) (k2.symm.trans h6) h4
                rw [this, h2]
                obtain ⟨h8, h9⟩ := List.getElem?_eq_some_iff.1 h1
                rw [h9]
                rfl
          · rw [if_pos hpv]
            exact ⟨z, by omega, rfl⟩
      · rw [next_else (fun c => h45 (.inl c)) (fun c => h45 (.inr c)) h3]
        exact ⟨z, by omega, rfl⟩
end
end Go.Proofs.Ytnebjbgcibjohaa.K
end
