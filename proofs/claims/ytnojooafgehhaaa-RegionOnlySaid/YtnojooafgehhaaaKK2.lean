/- Contracts: region.Write, one, All. -/
import Derived.Test.YtnojooafgehhaaaKK
import Derived.Test.YtnojooafgehhaaaKK1
import Derived.Test.YtnojooafgehhaaaProg
import Derived.Test.YtnojooafgehhaaaRR
import Derived.Test.YtnojooafgehhaaaRR1
import Derived.RangeFuncNested
import Derived.RangeFuncBound
import Derived.RangeFuncCalls
import Derived.RangeFuncLeaves
import Derived.Shelf.Abstract
import Derived.Shelf.RegionOpen
import Derived.WalkKit
import Derived.OwnWalkIn
import Derived.TacticsInMore
import Derived.LoopNIn
import Derived.LoopIn
import Derived.Shelf.SlIterI.Nil
import Derived.Shelf.SortM.Plain
import Derived.Shelf.SortM.SortNone
section
namespace Go.Proofs.Ytnojooafgehhaaa.K
open Go.RowKit Go.Rill Go.Proofs
set_option linter.unusedVariables false
set_option linter.unusedSimpArgs false
theorem Rec.bytes_len {r : Rec} (hr : r.Ok) : r.bytes.length = 192 := by simp [Rec.bytes, be8, hr.super, hr.rsum, hr.bsum, hr.tsum]
/-- What region.Write answers, and leaves. -/
def regW (A : AD) (ks : List NKey) (r : Rec) (num : Int) : Int × AD × List NKey :=
  if r.May ∧ SRight r.epoch num (1 + r.gen.tmod 2) then ((A.write (1 + r.gen.tmod 2) (sectB ks 2 r.epoch num (1 + r.gen.tmod 2) r.bytes)).1, (A.write (1 + r.gen.tmod 2) (sectB ks 2 r.epoch num (1 + r.gen.tmod 2) r.bytes)).2, sealS ks r.epoch num (hdB 2 (1 + r.gen.tmod 2)) r.bytes) else (7, A, ks)
/-- A sector out of bytes: its epoch, its number, its plain text. -/
def sgetX (ks : List NKey) (kd at' : Int) (l : List UInt8) : Option (Int × Int × List UInt8) :=
  if ¬ l.length < 17 ∧ ¬ 1024 < l.length ∧ ¬ kd = 0 ∧ kindOf l = kd ∧ SRight (secE l) (secN l) at' then (openN ks (secE l) (secN l) (hdB kd at') (l.drop 17)).map fun q => (secE l, secN l, q) else none
/-- A record out of bytes, and the answer. -/
def getX (l : List UInt8) : Rec × Int := if rEnd (rst l 11) ≠ 0 then (Rec.zero, rEnd (rst l 11)) else if (Rec.read l).May then (Rec.read l, 0) else (Rec.zero, 7)
theorem getX_ok (q : List UInt8) : (getX q).1.Ok := by unfold getX; split; exact Rec.zero_ok; split; exact Rec.read_ok q; exact Rec.zero_ok
theorem sgetX_len {ks : List NKey} {kd at' e n : Int} {l q : List UInt8} (h : sgetX ks kd at' l = some (e, n, q)) : q.length ≤ 1024 := by
  unfold sgetX at h
  split at h
  · rename_i hc
    rw [Option.map_eq_some_iff] at h
    obtain ⟨q', h1, h2⟩ := h
    simp only [Prod.mk.injEq] at h2
    obtain ⟨_, _, rfl⟩ := h2
    unfold openN at h1
    split at h1
    · cases h1
    · split at h1
      · cases h1
      · split at h1
        · injection h1 with h1
          subst h1
          have := hc.2.1
          simp
          omega
        · cases h1
  · cases h
theorem Dsk.Abs.read_len {S : Dsk} {A : AD} (h : S.Abs A) (j : Nat) : (A.read j).length ≤ 1024 := by
  unfold AD.read
  split
  · rename_i l hl
    have hc := h.cache
    revert hc hl
    generalize S.cache = es
    generalize A.cache = c
    intro hl hc
    induction c generalizing es with
    | nil => cases hl
    | cons p q ih =>
      cases es with
      | nil => exact hc.elim
      | cons e r =>
        rw [aget_cons] at hl
        split at hl
        · injection hl with hl; subst hl; exact hc.1.2.2
        · exact ih r hl hc.2
  · cases hl : A.last[j]? with
    | none => simp
    | some l =>
      have := h.last
      have hv : ∃ v, S.lasts[j]? = some v := ⟨_, List.getElem?_eq_getElem (by rw [lrel_len this]; exact (List.getElem?_eq_some_iff.1 hl).1)⟩
      obtain ⟨v, hv⟩ := hv
      obtain ⟨m, h1, _, h3⟩ := lrel_get this hv
      rw [hl] at h1
      injection h1 with h1
      subst h1
      exact h3
/-- What a region tells. -/
def oneX (A : AD) (ks : List NKey) (j : Nat) : Rec × Bool :=
  match sgetX ks 2 (j : Int) (A.read j) with
  | none => (Rec.zero, false)
  | some (e, _, q) => ((getX q).1, decide ((getX q).2 = 0 ∧ (getX q).1.epoch = e ∧ 1 + (getX q).1.gen.tmod 2 = (j : Int)))
theorem oneX_ok (A : AD) (ks : List NKey) (j : Nat) : (oneX A ks j).1.Ok := by unfold oneX; split; exact Rec.zero_ok; exact getX_ok _
def bumps (A : AD) : Nat → AD
  | 0 => A
  | i + 1 => (bumps A i).bump (i + 1)
theorem bumps_n (A : AD) : ∀ i, (bumps A i).n = A.n
  | 0 => rfl
  | i + 1 => bumps_n A i
/-- The records of the first so many regions. -/
def allL (A : AD) (ks : List NKey) : Nat → List Rec
  | 0 => []
  | i + 1 => allL A ks i ++ (if (oneX (bumps A i) ks (i + 1)).2 = true then [(oneX (bumps A i) ks (i + 1)).1] else [])
theorem allL_yes {A : AD} {ks : List NKey} {i : Nat} (h : (oneX (bumps A i) ks (i + 1)).2 = true) : allL A ks (i + 1) = allL A ks i ++ [(oneX (bumps A i) ks (i + 1)).1] := by rw [allL, if_pos h]
theorem allL_no {A : AD} {ks : List NKey} {i : Nat} (h : (oneX (bumps A i) ks (i + 1)).2 = false) : allL A ks (i + 1) = allL A ks i := by rw [allL, if_neg (by simp [h]), List.append_nil]
theorem allL_len (A : AD) (ks : List NKey) : ∀ i, (allL A ks i).length ≤ i
  | 0 => Nat.le_refl _
  | i + 1 => by
    have := allL_len A ks i
    rw [allL, List.length_append]
    split <;> simp <;> omega
theorem is_get {i : Nat} (h : i < 2) : ([.int .i64 1, .int .i64 2] : List Value)[i]? = some (.int .i64 ((i + 1 : Nat) : Int)) := by
  rcases i with _ | _ | i
  · rfl
  · rfl
  · omega
theorem recs1 {w : World} {v : Value} {r : Rec} (h : Reads 136 w v 1 r.cells) : Recs w v [r] := by
  unfold Recs
  have e : rcs [r] = r.cells := by simp [rcs]
  rw [e]
  exact h
theorem Mem.take {w0 w : World} {O : Nat → Prop} {L R : List Ent} {Φ : World → Prop} (M : Mem w0 O (L ++ R) Φ w) : Mem w0 O L Φ w := M.sub (List.sublist_append_left _ _)
set_option maxRecDepth 100000 in
theorem rWrite_no {D : DV} {N : NV} {g : Nat} {A : AD} {r : Rec} {num : Int} {w0 : World} (H : Has w0 [dkE D, nmE N]) (hD : D.is g A) (hr : r.Ok) (hkz : N.ks.length ≤ 1099511627776) (hm : ¬ r.May) : Does Try.prog 26 [.pointer (some ⟨g, 0, none⟩), .iface 51 (.pointer (some ⟨N.gn, 0, none⟩)), r.val, .int .i64 num] w0 [dkE D, nmE N] (fun _ : DV × NV => .int .i64 7) (fun x => [dkE x.1, nmE x.2]) (fun x => x.1.is g A ∧ x.2.gn = N.gn ∧ x.2.ks = N.ks ∧ x.2.ts = N.ts) := by
  refine enter (n := 40) Try.func26 rfl rfl rfl ?_
  intro fr E
  have M : Mem w0 (feet [dkE D, nmE N]) [dkE D, nmE N] (fun _ => True) w0 := Mem.begin H (fun _ _ => trivial)
  refine code_region ?_
  refine snew (ob := .cells (r.cells.toArray) 29) (fun g => .pointer (some ⟨g, 0, none⟩)) E M rfl rfl rfl rfl rfl (run_boxN (cs := (r.cells.toArray)) rfl rfl) fun g0 fr w M E => ?_
  refine sv (v := _) E rfl rfl rfl rfl rfl (run_assignC rfl) fun fr E => ?_
  refine seq_nil' ?_
  refine code_region ?_
  refine sv (v := .agg r.cells.toArray) E rfl rfl rfl rfl rfl (run_loadAll rfl rfl T.agg29 (M.row (i := 0) rfl) (Rec.size hr)) fun fr E => ?_
  refine sgive E M rfl rfl rfl rfl rfl (run_call rfl rfl T.fn11) (Put_no hr hm) fun fr w M E => ?_
  refine sv (v := _) E rfl rfl rfl rfl rfl (run_move rfl rfl) fun fr E => ?_
  refine sv (v := _) E rfl rfl rfl rfl rfl (run_extract rfl rfl rfl) fun fr E => ?_
  refine sv (v := _) E rfl rfl rfl rfl rfl (run_extract rfl rfl rfl) fun fr E => ?_
  refine sv (v := _) E rfl rfl rfl rfl rfl (run_assign rfl rfl) fun fr E => ?_
  refine sv (v := _) E rfl rfl rfl rfl rfl (run_assign rfl rfl) fun fr E => ?_
  refine seq_nil' ?_
  refine wp_seq ?_
  refine code_region ?_
  refine sv (v := _) E rfl rfl rfl rfl rfl (run_move rfl rfl) fun fr E => ?_
  refine sv (v := .bool _) E rfl rfl rfl rfl rfl (rfl) fun fr E => ?_
  refine seq_nil' ?_
  refine cond_true E rfl (rfl) ?_
  refine code_region ?_
  refine sv (v := _) E rfl rfl rfl rfl rfl (run_move rfl rfl) fun fr E => ?_
  refine sv (v := _) E rfl rfl rfl rfl rfl (run_assign rfl rfl) fun fr E => ?_
  refine seq_nil' ?_
  refine wp_ret ?_
  refine then_ret ?_
  refine ret1 E rfl rfl ?_
  have M := M.pull 2 rfl
  have M := M.pull 2 rfl
  exact ⟨(D, N), rfl, Mem.fin (L := [dkE D, nmE N] ++ _) M (List.sublist_append_left _ _) ⟨hD, rfl, rfl, rfl⟩⟩

set_option maxRecDepth 100000 in
theorem rWrite_range {D : DV} {N : NV} {g : Nat} {A : AD} {r : Rec} {num : Int} {w0 : World} (H : Has w0 [dkE D, nmE N]) (hD : D.is g A) (hr : r.Ok) (hkz : N.ks.length ≤ 1099511627776) (hm : r.May) (hs : ¬ SRight r.epoch num (1 + r.gen.tmod 2)) : Does Try.prog 26 [.pointer (some ⟨g, 0, none⟩), .iface 51 (.pointer (some ⟨N.gn, 0, none⟩)), r.val, .int .i64 num] w0 [dkE D, nmE N] (fun _ : DV × NV => .int .i64 7) (fun x => [dkE x.1, nmE x.2]) (fun x => x.1.is g A ∧ x.2.gn = N.gn ∧ x.2.ks = N.ks ∧ x.2.ts = N.ts) := by
  refine enter (n := 40) Try.func26 rfl rfl rfl ?_
  intro fr E
  have M : Mem w0 (feet [dkE D, nmE N]) [dkE D, nmE N] (fun _ => True) w0 := Mem.begin H (fun _ _ => trivial)
  refine code_region ?_
  refine snew (ob := .cells (r.cells.toArray) 29) (fun g => .pointer (some ⟨g, 0, none⟩)) E M rfl rfl rfl rfl rfl (run_boxN (cs := (r.cells.toArray)) rfl rfl) fun g0 fr w M E => ?_
  refine sv (v := _) E rfl rfl rfl rfl rfl (run_assignC rfl) fun fr E => ?_
  refine seq_nil' ?_
  refine code_region ?_
  refine sv (v := .agg r.cells.toArray) E rfl rfl rfl rfl rfl (run_loadAll rfl rfl T.agg29 (M.row (i := 0) rfl) (Rec.size hr)) fun fr E => ?_
  refine scall E M rfl rfl rfl rfl rfl (run_call rfl rfl T.fn11) (Put_ok hr hm) rfl ?_
  rintro pl fr w - M E
  refine sv (v := _) E rfl rfl rfl rfl rfl (run_move rfl rfl) fun fr E => ?_
  refine sv (v := _) E rfl rfl rfl rfl rfl (run_extract rfl rfl rfl) fun fr E => ?_
  refine sv (v := _) E rfl rfl rfl rfl rfl (run_extract rfl rfl rfl) fun fr E => ?_
  refine sv (v := _) E rfl rfl rfl rfl rfl (run_assign rfl rfl) fun fr E => ?_
  refine sv (v := _) E rfl rfl rfl rfl rfl (run_assign rfl rfl) fun fr E => ?_
  refine seq_nil' ?_
  refine wp_seq ?_
  refine code_region ?_
  refine sv (v := _) E rfl rfl rfl rfl rfl (run_move rfl rfl) fun fr E => ?_
  refine sv (v := .bool _) E rfl rfl rfl rfl rfl (rfl) fun fr E => ?_
  refine seq_nil' ?_
  refine cond_false E rfl (rfl) ?_
  refine wp_skip ?_
  refine then_normal ?_
  refine wp_seq (free_reg (B := T.tab26_4_b) (Vs := (.exact _ :: .exact (.pointer (some ⟨_, 2, none⟩)) :: .exact (.int .i64 r.epoch) :: .exact _ :: .exact (.agg r.cells.toArray) :: .exact (.int .i64 _) :: .exact _ :: .exact (.agg ([.int .i64 2, .int .i64 r.epoch, .int .i64 num, .int .i64 (1 + r.gen.tmod 2), pl]).toArray) :: .exact (.tuple #[.slice none 0 0, .int .i64 7]) :: .exact _ :: .exact (.slice none 0 0) :: .exact (.int .i64 7) :: .exact (.slice none 0 0) :: .exact (.int .i64 7) :: [])) T.tab26_4_i E T.mixed T.tab26_4 rfl (AllS.lasts ⟨trivial, trivial, trivial, trivial, trivial, trivial, trivial, trivial, trivial, trivial, trivial, trivial, trivial, trivial, trivial⟩) ⟨fs_val rfl rfl (fun x w hx hk => ⟨_, _, rfl, rfl, rfl, run_move rfl rfl, Ext.refl _, rfl⟩),
      fs_val rfl rfl (fun x w hx hk => ⟨_, _, rfl, rfl, rfl, run_fieldAddr rfl rfl T.fld29_2, Ext.refl _, rfl⟩),
      fs_val rfl rfl (fun x w hx hk => ⟨_, _, rfl, rfl, rfl, run_loadB rfl rfl T.one3 ((M.ext ((Ext.drew _).trans hx)).row (i := 1) rfl) Rec.c_epoch, Ext.refl _, rfl⟩),
      fs_val rfl rfl (fun x w hx hk => ⟨_, _, rfl, rfl, rfl, run_move rfl rfl, Ext.refl _, rfl⟩),
      fs_val rfl rfl (fun x w hx hk => ⟨_, _, rfl, rfl, rfl, run_loadAll rfl rfl T.agg29 ((M.ext ((Ext.drew _).trans hx)).row (i := 1) rfl) (Rec.size hr), Ext.refl _, rfl⟩),
      fs_ext rfl rfl (fun x w hx hk => ⟨_, _, rfl, rfl, rfl, run_call rfl rfl T.fn62, (at_x hr _).ext⟩),
      fs_val rfl rfl (fun x w hx hk => ⟨_, _, rfl, rfl, rfl, run_move rfl rfl, Ext.refl _, rfl⟩),
      fs_val rfl rfl (fun x w hx hk => ⟨_, _, rfl, rfl, rfl, run_buildP (vs := [.int .i64 2, .int .i64 r.epoch, .int .i64 num, .int .i64 (1 + r.gen.tmod 2), pl]) (us := [.int .i64 2, .int .i64 r.epoch, .int .i64 num, .int .i64 (1 + r.gen.tmod 2), pl]) rfl rfl T.ts96 T.zeroL96 (by obtain ⟨b', c', e'⟩ := Reads.slice ((M.ext ((Ext.drew _).trans hx)).bytes 0 rfl); rw [e']; simp [Value.cells]) rfl rfl (by obtain ⟨b', c', e'⟩ := Reads.slice ((M.ext ((Ext.drew _).trans hx)).bytes 0 rfl); rw [e']; simp [Value.cells]), Ext.refl _, rfl⟩),
      fs_ext rfl rfl (fun x w hx hk => ⟨_, _, rfl, rfl, rfl, run_call rfl rfl T.fn61, (sPut_range (N := N) (kd := 2) ((M.ext ((Ext.drew _).trans hx)).bytes 0 rfl) (by decide) (by decide) hs).ext⟩),
      fs_val rfl rfl (fun x w hx hk => ⟨_, _, rfl, rfl, rfl, run_move rfl rfl, Ext.refl _, rfl⟩),
      fs_val rfl rfl (fun x w hx hk => ⟨_, _, rfl, rfl, rfl, run_extract rfl rfl rfl, Ext.refl _, rfl⟩),
      fs_val rfl rfl (fun x w hx hk => ⟨_, _, rfl, rfl, rfl, run_extract rfl rfl rfl, Ext.refl _, rfl⟩),
      fs_val rfl rfl (fun x w hx hk => ⟨_, _, rfl, rfl, rfl, run_assign rfl rfl, Ext.refl _, rfl⟩),
      fs_val rfl rfl (fun x w hx hk => ⟨_, _, rfl, rfl, rfl, run_assign rfl rfl, Ext.refl _, rfl⟩), trivial⟩ ?_)
  intro x fr w hx hk E
  have M := M.ext hx
  refine then_normal ?_
  refine wp_seq ?_
  refine code_region ?_
  refine sv (v := _) E rfl rfl rfl rfl rfl (run_move rfl rfl) fun fr E => ?_
  refine sv (v := .bool _) E rfl rfl rfl rfl rfl (rfl) fun fr E => ?_
  refine seq_nil' ?_
  refine cond_true E rfl (rfl) ?_
  refine code_region ?_
  refine sv (v := _) E rfl rfl rfl rfl rfl (run_move rfl rfl) fun fr E => ?_
  refine sv (v := _) E rfl rfl rfl rfl rfl (run_assign rfl rfl) fun fr E => ?_
  refine seq_nil' ?_
  refine wp_ret ?_
  refine then_ret ?_
  refine ret1 E rfl rfl ?_
  have M := M.pull 3 rfl
  have M := M.pull 3 rfl
  exact ⟨(D, N), rfl, Mem.fin (L := [dkE D, nmE N] ++ _) M (List.sublist_append_left _ _) ⟨hD, rfl, rfl, rfl⟩⟩

set_option maxRecDepth 100000 in
theorem rWrite_ok {D : DV} {N : NV} {g : Nat} {A : AD} {r : Rec} {num : Int} {w0 : World} (H : Has w0 [dkE D, nmE N]) (hD : D.is g A) (hr : r.Ok) (hkz : N.ks.length ≤ 1099511627776) (hm : r.May) (hs : SRight r.epoch num (1 + r.gen.tmod 2)) : Does Try.prog 26 [.pointer (some ⟨g, 0, none⟩), .iface 51 (.pointer (some ⟨N.gn, 0, none⟩)), r.val, .int .i64 num] w0 [dkE D, nmE N] (fun _ : DV × NV => .int .i64 (A.write (1 + r.gen.tmod 2) (sectB N.ks 2 r.epoch num (1 + r.gen.tmod 2) r.bytes)).1) (fun x => [dkE x.1, nmE x.2]) (fun x => x.1.is g (A.write (1 + r.gen.tmod 2) (sectB N.ks 2 r.epoch num (1 + r.gen.tmod 2) r.bytes)).2 ∧ x.2.gn = N.gn ∧ x.2.ks = sealS N.ks r.epoch num (hdB 2 (1 + r.gen.tmod 2)) r.bytes ∧ x.2.ts = N.ts) := by
  refine enter (n := 40) Try.func26 rfl rfl rfl ?_
  intro fr E
  have M : Mem w0 (feet [dkE D, nmE N]) [dkE D, nmE N] (fun _ => True) w0 := Mem.begin H (fun _ _ => trivial)
  refine code_region ?_
  refine snew (ob := .cells (r.cells.toArray) 29) (fun g => .pointer (some ⟨g, 0, none⟩)) E M rfl rfl rfl rfl rfl (run_boxN (cs := (r.cells.toArray)) rfl rfl) fun g0 fr w M E => ?_
  refine sv (v := _) E rfl rfl rfl rfl rfl (run_assignC rfl) fun fr E => ?_
  refine seq_nil' ?_
  refine code_region ?_
  refine sv (v := .agg r.cells.toArray) E rfl rfl rfl rfl rfl (run_loadAll rfl rfl T.agg29 (M.row (i := 0) rfl) (Rec.size hr)) fun fr E => ?_
  refine scall E M rfl rfl rfl rfl rfl (run_call rfl rfl T.fn11) (Put_ok hr hm) rfl ?_
  rintro pl fr w - M E
  refine sv (v := _) E rfl rfl rfl rfl rfl (run_move rfl rfl) fun fr E => ?_
  refine sv (v := _) E rfl rfl rfl rfl rfl (run_extract rfl rfl rfl) fun fr E => ?_
  refine sv (v := _) E rfl rfl rfl rfl rfl (run_extract rfl rfl rfl) fun fr E => ?_
  refine sv (v := _) E rfl rfl rfl rfl rfl (run_assign rfl rfl) fun fr E => ?_
  refine sv (v := _) E rfl rfl rfl rfl rfl (run_assign rfl rfl) fun fr E => ?_
  refine seq_nil' ?_
  refine wp_seq ?_
  refine code_region ?_
  refine sv (v := _) E rfl rfl rfl rfl rfl (run_move rfl rfl) fun fr E => ?_
  refine sv (v := .bool _) E rfl rfl rfl rfl rfl (rfl) fun fr E => ?_
  refine seq_nil' ?_
  refine cond_false E rfl (rfl) ?_
  refine wp_skip ?_
  refine then_normal ?_
  have M := M.pull 3 rfl
  have M : Mem _ _ ([nmE N] ++ _) _ _ := M
  refine wp_seq (free_regR (B := T.tab26_4_b) (Vs := (.exact _ :: .exact (.pointer (some ⟨_, 2, none⟩)) :: .exact (.int .i64 r.epoch) :: .exact _ :: .exact (.agg r.cells.toArray) :: .exact (.int .i64 _) :: .exact _ :: .exact (.agg ([.int .i64 2, .int .i64 r.epoch, .int .i64 num, .int .i64 (1 + r.gen.tmod 2), pl]).toArray) :: CameI w.heap.size ([nmE N]) (fun x : Value × NV => .tuple #[x.1, .int .i64 0]) (fun x => [Ent.bytes 5 x.1 (sectB N.ks 2 r.epoch num (1 + r.gen.tmod 2) r.bytes), nmE x.2]) (fun x => x.2.gn = N.gn ∧ x.2.ks = sealS N.ks r.epoch num (hdB 2 (1 + r.gen.tmod 2)) r.bytes ∧ x.2.ts = N.ts) :: CameI w.heap.size ([nmE N]) (fun x : Value × NV => .tuple #[x.1, .int .i64 0]) (fun x => [Ent.bytes 5 x.1 (sectB N.ks 2 r.epoch num (1 + r.gen.tmod 2) r.bytes), nmE x.2]) (fun x => x.2.gn = N.gn ∧ x.2.ks = sealS N.ks r.epoch num (hdB 2 (1 + r.gen.tmod 2)) r.bytes ∧ x.2.ts = N.ts) :: CameI w.heap.size ([nmE N]) (fun x : Value × NV => x.1) (fun x => [Ent.bytes 5 x.1 (sectB N.ks 2 r.epoch num (1 + r.gen.tmod 2) r.bytes), nmE x.2]) (fun x => x.2.gn = N.gn ∧ x.2.ks = sealS N.ks r.epoch num (hdB 2 (1 + r.gen.tmod 2)) r.bytes ∧ x.2.ts = N.ts) :: .exact (.int .i64 0) :: CameI w.heap.size ([nmE N]) (fun x : Value × NV => x.1) (fun x => [Ent.bytes 5 x.1 (sectB N.ks 2 r.epoch num (1 + r.gen.tmod 2) r.bytes), nmE x.2]) (fun x => x.2.gn = N.gn ∧ x.2.ks = sealS N.ks r.epoch num (hdB 2 (1 + r.gen.tmod 2)) r.bytes ∧ x.2.ts = N.ts) :: .exact _ :: [])) (ownRoad (oneFs 8 ([nmE N])) w.drew) T.tab26_4_i E T.mixed T.tab26_4 rfl ?_ ⟨fr_val rfl rfl M (fun i g h => h.2) (fun x w' M' hB hk => ⟨_, _, rfl, rfl, rfl, run_move rfl rfl, Ext.refl _, rfl⟩),
      fr_val rfl rfl M (fun i g h => h.2) (fun x w' M' hB hk => ⟨_, _, rfl, rfl, rfl, run_fieldAddr rfl rfl T.fld29_2, Ext.refl _, rfl⟩),
      fr_val rfl rfl M (fun i g h => h.2) (fun x w' M' hB hk => ⟨_, _, rfl, rfl, rfl, run_loadB rfl rfl T.one3 (M'.row (i := 1) rfl) Rec.c_epoch, Ext.refl _, rfl⟩),
      fr_val rfl rfl M (fun i g h => h.2) (fun x w' M' hB hk => ⟨_, _, rfl, rfl, rfl, run_move rfl rfl, Ext.refl _, rfl⟩),
      fr_val rfl rfl M (fun i g h => h.2) (fun x w' M' hB hk => ⟨_, _, rfl, rfl, rfl, run_loadAll rfl rfl T.agg29 (M'.row (i := 1) rfl) (Rec.size hr), Ext.refl _, rfl⟩),
      fr_ext rfl rfl M (fun i g h => h.2) (fun x w' M' hB hk => ⟨_, _, rfl, rfl, rfl, run_call rfl rfl T.fn62, (at_x hr _).ext⟩),
      fr_val rfl rfl M (fun i g h => h.2) (fun x w' M' hB hk => ⟨_, _, rfl, rfl, rfl, run_move rfl rfl, Ext.refl _, rfl⟩),
      fr_val rfl rfl M (fun i g h => h.2) (fun x w' M' hB hk => ⟨_, _, rfl, rfl, rfl, run_buildP (vs := [.int .i64 2, .int .i64 r.epoch, .int .i64 num, .int .i64 (1 + r.gen.tmod 2), pl]) (us := [.int .i64 2, .int .i64 r.epoch, .int .i64 num, .int .i64 (1 + r.gen.tmod 2), pl]) rfl rfl T.ts96 T.zeroL96 (by obtain ⟨b', c', e'⟩ := Reads.slice (M'.bytes 0 rfl); rw [e']; simp [Value.cells]) rfl rfl (by obtain ⟨b', c', e'⟩ := Reads.slice (M'.bytes 0 rfl); rw [e']; simp [Value.cells]), Ext.refl _, rfl⟩),
      fr_call (J := [nmE N]) rfl rfl M (fun i g h => h.2) M.front (fun j hj g hjg => absurd hjg.1 hj) (fun x w' M' H' hB hk => ⟨_, _, rfl, rfl, rfl, run_call rfl rfl T.fn61, (sPut_ok (N := N) (kd := 2) (e := r.epoch) (n := num) (at' := (1 + r.gen.tmod 2)) (M'.bytes 0 rfl) H' (M.off (i := 0) (j := 0 + 1) rfl rfl rfl) hkz (by decide) (by decide) hs (by rw [Rec.bytes_len hr]; decide)).own (Fs := oneFs 8 ([nmE N])) (i := 8) hB (fun g hg => ⟨rfl, hg⟩)⟩),
      fr_on (j := 8) rfl rfl rfl rfl (fun x w y hy => ⟨rfl, rfl, rfl, run_moveV rfl hy⟩),
      fr_on (j := 9) rfl rfl rfl rfl (fun x w y hy => ⟨rfl, rfl, rfl, run_extractV rfl hy rfl⟩),
      fr_of (j := 9) rfl rfl rfl rfl (fun x w y hy => ⟨rfl, rfl, rfl, run_extractV rfl hy rfl⟩),
      fr_on (j := 10) rfl rfl rfl rfl (fun x w y hy => ⟨rfl, rfl, rfl, run_assignV rfl hy⟩),
      fr_val rfl rfl M (fun i g h => h.2) (fun x w' M' hB hk => ⟨_, _, rfl, rfl, rfl, run_assign rfl rfl, Ext.refl _, rfl⟩), trivial⟩ ?_)
  · exact one_okW rfl ((allY_ex (allY_ex (allY_ex (allY_ex (allY_ex (allY_ex (allY_ex (allY_ex (allY_in rfl LastsR.came1 (allY_in rfl LastsR.came1 (allY_in rfl LastsR.came1 (allY_ex (allY_in rfl LastsR.came1 (allY_ex allY_nil)))))))))))))))
  intro x fr w ⟨b, hb, hI⟩ hk E
  obtain ⟨⟨b, N2⟩, hy, hN, M⟩ := M.behind (val := fun x : Value × NV => x.1) (outs := fun x => [Ent.bytes 5 x.1 (sectB N.ks 2 r.epoch num (1 + r.gen.tmod 2) r.bytes), nmE x.2]) (p := fun x => x.2.gn = N.gn ∧ x.2.ks = sealS N.ks r.epoch num (hdB 2 (1 + r.gen.tmod 2)) r.bytes ∧ x.2.ts = N.ts) hI (hk 12 (by decide))
  have E := Env.say (t := 11) E rfl hy
  refine then_normal ?_
  refine wp_seq ?_
  refine code_region ?_
  refine sv (v := _) E rfl rfl rfl rfl rfl (run_move rfl rfl) fun fr E => ?_
  refine sv (v := .bool _) E rfl rfl rfl rfl rfl (rfl) fun fr E => ?_
  refine seq_nil' ?_
  refine cond_false E rfl (rfl) ?_
  refine wp_skip ?_
  refine then_normal ?_
  refine code_region ?_
  refine sv (v := _) E rfl rfl rfl rfl rfl (run_move rfl rfl) fun fr E => ?_
  refine sv (v := .agg r.cells.toArray) E rfl rfl rfl rfl rfl (run_loadAll rfl rfl T.agg29 (M.row (i := 3) rfl) (Rec.size hr)) fun fr E => ?_
  refine sgive E M rfl rfl rfl rfl rfl (run_call rfl rfl T.fn62) (at_x hr _) fun fr w M E => ?_
  refine sv (v := _) E rfl rfl rfl rfl rfl (run_move rfl rfl) fun fr E => ?_
  have M := M.pull 4 rfl
  refine scallI ([dkE D]) E M rfl rfl rfl rfl rfl (run_call rfl rfl T.fn63) rfl (fun H => Write_a H hD (M.bytes 1 rfl) (M.off (i := 0) (j := 1) rfl rfl rfl)) ?_
  rintro D2 fr w hD2 M E
  refine sv (v := _) E rfl rfl rfl rfl rfl (run_assign rfl rfl) fun fr E => ?_
  refine seq_nil' ?_
  refine wp_ret ?_
  refine ret1 E rfl rfl ?_
  have M := M.pull 2 rfl
  have M := M.pull 1 rfl
  exact ⟨(D2, N2), rfl, Mem.fin (L := [dkE D2, nmE N2] ++ _) M (List.sublist_append_left _ _) ⟨hD2, hN⟩⟩

theorem rWrite_x {D : DV} {N : NV} {g : Nat} {A : AD} {r : Rec} {num : Int} {w0 : World} (H : Has w0 [dkE D, nmE N]) (hD : D.is g A) (hr : r.Ok) (hkz : N.ks.length ≤ 1099511627776) : Does Try.prog 26 [.pointer (some ⟨g, 0, none⟩), .iface 51 (.pointer (some ⟨N.gn, 0, none⟩)), r.val, .int .i64 num] w0 [dkE D, nmE N] (fun _ : DV × NV => .int .i64 (regW A N.ks r num).1) (fun x => [dkE x.1, nmE x.2]) (fun x => x.1.is g (regW A N.ks r num).2.1 ∧ x.2.gn = N.gn ∧ x.2.ks = (regW A N.ks r num).2.2 ∧ x.2.ts = N.ts) := by
  by_cases hm : r.May
  · by_cases hs : SRight r.epoch num (1 + r.gen.tmod 2)
    · have e : regW A N.ks r num = ((A.write (1 + r.gen.tmod 2) (sectB N.ks 2 r.epoch num (1 + r.gen.tmod 2) r.bytes)).1, (A.write (1 + r.gen.tmod 2) (sectB N.ks 2 r.epoch num (1 + r.gen.tmod 2) r.bytes)).2, sealS N.ks r.epoch num (hdB 2 (1 + r.gen.tmod 2)) r.bytes) := by unfold regW; rw [if_pos ⟨hm, hs⟩]
      rw [e]
      exact rWrite_ok H hD hr hkz hm hs
    · have e : regW A N.ks r num = (7, A, N.ks) := by unfold regW; rw [if_neg fun c => hs c.2]
      rw [e]
      exact rWrite_range H hD hr hkz hm hs
  · have e : regW A N.ks r num = (7, A, N.ks) := by unfold regW; rw [if_neg fun c => hm c.1]
    rw [e]
    exact rWrite_no H hD hr hkz hm

theorem sGet_err {N : NV} {kd at' : Int} {l : List UInt8} (hkz : N.ks.length ≤ 1099511627776) (h : sgetX N.ks kd at' l = none) : ∃ err : Int, err ≠ 0 ∧ ∀ (w0 : World) (b : Value), Bytes w0 b l → Has w0 [nmE N] → Gives Try.prog 90 [.iface 51 (.pointer (some ⟨N.gn, 0, none⟩)), .int .i64 kd, .int .i64 at', b] w0 (.tuple #[.agg #[.int .i64 0, .int .i64 0, .int .i64 0, .int .i64 0, .slice none 0 0], .int .i64 err]) := by
  unfold sgetX at h
  by_cases h1 : l.length < 17
  · exact ⟨2, by decide, fun w0 b hb H => sGet_short hb h1⟩
  by_cases h2 : 1024 < l.length
  · exact ⟨3, by decide, fun w0 b hb H => sGet_long hb h1 h2⟩
  by_cases h3 : kd = 0
  · exact ⟨5, by decide, fun w0 b hb H => sGet_kind0 hb h1 h2 h3⟩
  by_cases h4 : kindOf l = kd
  · by_cases h5 : SRight (secE l) (secN l) at'
    · rw [if_pos ⟨h1, h2, h3, h4, h5⟩] at h
      have ho : openN N.ks (secE l) (secN l) (hdB kd at') (l.drop 17) = none := by simpa using h
      exact ⟨19, by decide, fun w0 b hb H => sGet_seal hb H hkz h1 h2 h3 h4 h5 ho⟩
    · exact ⟨7, by decide, fun w0 b hb H => sGet_range hb h1 h2 h3 h4 h5⟩
  · exact ⟨5, by decide, fun w0 b hb H => sGet_kind hb h1 h2 h3 h4⟩
theorem sGet_yes {N : NV} {kd at' e n : Int} {b : Value} {l q : List UInt8} {w0 : World} (hb : Bytes w0 b l) (H : Has w0 [nmE N]) (hkz : N.ks.length ≤ 1099511627776) (h : sgetX N.ks kd at' l = some (e, n, q)) : Does Try.prog 90 [.iface 51 (.pointer (some ⟨N.gn, 0, none⟩)), .int .i64 kd, .int .i64 at', b] w0 [] (fun c : Value => .tuple #[.agg #[.int .i64 kd, .int .i64 e, .int .i64 n, .int .i64 at', c], .int .i64 0]) (fun c => [.bytes 5 c q]) (fun _ => True) := by
  unfold sgetX at h
  split at h
  · rename_i hc
    rw [Option.map_eq_some_iff] at h
    obtain ⟨q', h1, h2⟩ := h
    simp only [Prod.mk.injEq] at h2
    obtain ⟨rfl, rfl, rfl⟩ := h2
    exact sGet_ok hb H hkz hc.1 hc.2.1 hc.2.2.1 hc.2.2.2.1 hc.2.2.2.2 h1
  · cases h
theorem gGet_x {b : Value} {l : List UInt8} {w0 : World} (hb : Bytes w0 b l) (hz : l.length ≤ 35184372088832) : Gives Try.prog 17 [b] w0 (.tuple #[(getX l).1.val, .int .i64 (getX l).2]) := by
  unfold getX
  by_cases he : rEnd (rst l 11) = 0
  · rw [if_neg (by simpa using he)]
    by_cases hm : (Rec.read l).May
    · rw [if_pos hm]; exact Get_ok hb hz he hm
    · rw [if_neg hm]; exact Get_no hb hz he hm
  · rw [if_pos he]; exact Get_bad hb hz he

set_option maxRecDepth 100000 in
theorem one_no {D : DV} {N : NV} {g j : Nat} {A : AD} {w0 : World} (H : Has w0 [dkE D, nmE N]) (hD : D.is g A) (hkz : N.ks.length ≤ 1099511627776) (hj : j < A.n) (hl : (A.read j).length ≤ 1024) (err : Int) (he0 : err ≠ 0) (he1 : ∀ (w : World) (c : Value), Bytes w c (A.read j) → Has w [nmE N] → Gives Try.prog 90 [.iface 51 (.pointer (some ⟨N.gn, 0, none⟩)), .int .i64 2, .int .i64 (j : Int), c] w (.tuple #[.agg #[.int .i64 0, .int .i64 0, .int .i64 0, .int .i64 0, .slice none 0 0], .int .i64 err])) : Does Try.prog 64 [.pointer (some ⟨g, 0, none⟩), .iface 51 (.pointer (some ⟨N.gn, 0, none⟩)), .int .i64 (j : Int)] w0 [dkE D, nmE N] (fun _ : DV => .tuple #[Rec.zero.val, .bool false]) (fun x => [dkE x, nmE N]) (fun x => x.is g (A.bump j)) := by
  refine enter (n := 53) Try.func64 rfl rfl rfl ?_
  intro fr E
  have M : Mem w0 (feet [dkE D, nmE N]) [dkE D, nmE N] (fun _ => True) w0 := Mem.begin H (fun _ _ => trivial)
  refine code_region ?_
  refine snew (ob := .cells _ 29) (fun g => .pointer (some ⟨g, 0, none⟩)) E M rfl rfl rfl rfl rfl (run_allocN rfl T.zero29) fun g0 fr w M E => ?_
  refine sv (v := _) E rfl rfl rfl rfl rfl (run_assignC rfl) fun fr E => ?_
  refine seq_nil' ?_
  refine code_region ?_
  refine sv (v := _) E rfl rfl rfl rfl rfl (run_move rfl rfl) fun fr E => ?_
  refine sv (v := _) E rfl rfl rfl rfl rfl (run_move rfl rfl) fun fr E => ?_
  have M := M.pull 1 rfl
  refine scallI ([dkE D]) E M rfl rfl rfl rfl rfl (run_call rfl rfl T.fn37) rfl (fun H => Read_a H hD hj) ?_
  rintro ⟨c, D2⟩ fr w hD2 M E
  refine sv (v := _) E rfl rfl rfl rfl rfl (run_move rfl rfl) fun fr E => ?_
  refine sv (v := _) E rfl rfl rfl rfl rfl (run_extract rfl rfl rfl) fun fr E => ?_
  refine sv (v := _) E rfl rfl rfl rfl rfl (run_extract rfl rfl rfl) fun fr E => ?_
  refine sv (v := _) E rfl rfl rfl rfl rfl (run_assign rfl rfl) fun fr E => ?_
  refine sv (v := _) E rfl rfl rfl rfl rfl (run_assign rfl rfl) fun fr E => ?_
  refine seq_nil' ?_
  refine wp_seq ?_
  refine code_region ?_
  refine sv (v := _) E rfl rfl rfl rfl rfl (run_move rfl rfl) fun fr E => ?_
  refine sv (v := .bool _) E rfl rfl rfl rfl rfl (rfl) fun fr E => ?_
  refine seq_nil' ?_
  refine cond_false E rfl (rfl) ?_
  refine wp_skip ?_
  refine then_normal ?_
  refine code_region ?_
  refine sv (v := _) E rfl rfl rfl rfl rfl (run_move rfl rfl) fun fr E => ?_
  refine sv (v := _) E rfl rfl rfl rfl rfl (run_move rfl rfl) fun fr E => ?_
  refine sv (v := _) E rfl rfl rfl rfl rfl (run_move rfl rfl) fun fr E => ?_
  refine sgive E M rfl rfl rfl rfl rfl (run_call rfl rfl T.fn90) (he1 _ _ (M.bytes 0 rfl) (M.has1 (i := 3) rfl)) fun fr w M E => ?_
  refine sv (v := _) E rfl rfl rfl rfl rfl (run_move rfl rfl) fun fr E => ?_
  refine sv (v := _) E rfl rfl rfl rfl rfl (run_extract rfl rfl rfl) fun fr E => ?_
  refine sv (v := _) E rfl rfl rfl rfl rfl (run_extract rfl rfl rfl) fun fr E => ?_
  refine snew (ob := .cells #[_, _, _, _, _] 96) (fun g => .pointer (some ⟨g, 0, none⟩)) E M rfl rfl rfl rfl rfl (run_allocN rfl T.zero96) fun g1 fr w M E => ?_
  refine sset (i := 0) (cs' := #[.int .i64 0, .int .i64 0, .int .i64 0, .int .i64 0, .slice none 0 0]) E M rfl rfl rfl rfl rfl (run_storeN' (vs := #[_, _, _, _, _]) rfl rfl rfl T.size96 rfl (M.row (i := 0) rfl) rfl rfl rfl) rfl fun fr w M E => ?_
  refine sv (v := _) E rfl rfl rfl rfl rfl (run_assign rfl rfl) fun fr E => ?_
  refine seq_nil' ?_
  refine wp_seq ?_
  refine code_region ?_
  refine sv (v := _) E rfl rfl rfl rfl rfl (run_move rfl rfl) fun fr E => ?_
  refine sv (v := .bool true) E rfl rfl rfl rfl rfl (tst rfl (by simp; exact he0)) fun fr E => ?_
  refine seq_nil' ?_
  refine cond_true E rfl (rfl) ?_
  refine code_region ?_
  refine sv (v := .agg (Rec.zero.cells).toArray) E rfl rfl rfl rfl rfl (run_buildP (vs := []) (us := Rec.zero.cells) rfl rfl T.ts29 T.zeroL29 (rfl) rfl rfl (rfl)) fun fr E => ?_
  refine sset (i := 3) (cs' := Rec.zero.cells.toArray) E M rfl rfl rfl rfl rfl (run_storeAll (vs := Rec.zero.cells.toArray) rfl rfl rfl T.size29 (Rec.size Rec.zero_ok) (M.row (i := 3) rfl) rfl (by simpa using Rec.ones _)) rfl fun fr w M E => ?_
  refine sv (v := _) E rfl rfl rfl rfl rfl (run_assignC rfl) fun fr E => ?_
  refine seq_nil' ?_
  refine wp_ret ?_
  refine then_ret ?_
  refine retC2 E rfl rfl rfl T.agg29 (M.row (i := 3) rfl) (Rec.size Rec.zero_ok) ?_
  have M := M.pull 4 rfl
  have M := M.pull 3 rfl
  exact ⟨D2, rfl, Mem.fin (L := [dkE D2, nmE N] ++ _) M (List.sublist_append_left _ _) hD2⟩

set_option maxRecDepth 100000 in
theorem one_a {D : DV} {N : NV} {g j : Nat} {A : AD} {w0 : World} (H : Has w0 [dkE D, nmE N]) (hD : D.is g A) (hkz : N.ks.length ≤ 1099511627776) (hj : j < A.n) (hl : (A.read j).length ≤ 1024) {e n : Int} {q : List UInt8} (hg : sgetX N.ks 2 (j : Int) (A.read j) = some (e, n, q)) (hq : q.length ≤ 35184372088832) (h1 : ¬ (getX q).2 = 0) : Does Try.prog 64 [.pointer (some ⟨g, 0, none⟩), .iface 51 (.pointer (some ⟨N.gn, 0, none⟩)), .int .i64 (j : Int)] w0 [dkE D, nmE N] (fun _ : DV => .tuple #[(getX q).1.val, .bool false]) (fun x => [dkE x, nmE N]) (fun x => x.is g (A.bump j)) := by
  refine enter (n := 53) Try.func64 rfl rfl rfl ?_
  intro fr E
  have M : Mem w0 (feet [dkE D, nmE N]) [dkE D, nmE N] (fun _ => True) w0 := Mem.begin H (fun _ _ => trivial)
  refine code_region ?_
  refine snew (ob := .cells _ 29) (fun g => .pointer (some ⟨g, 0, none⟩)) E M rfl rfl rfl rfl rfl (run_allocN rfl T.zero29) fun g0 fr w M E => ?_
  refine sv (v := _) E rfl rfl rfl rfl rfl (run_assignC rfl) fun fr E => ?_
  refine seq_nil' ?_
  refine code_region ?_
  refine sv (v := _) E rfl rfl rfl rfl rfl (run_move rfl rfl) fun fr E => ?_
  refine sv (v := _) E rfl rfl rfl rfl rfl (run_move rfl rfl) fun fr E => ?_
  have M := M.pull 1 rfl
  refine scallI ([dkE D]) E M rfl rfl rfl rfl rfl (run_call rfl rfl T.fn37) rfl (fun H => Read_a H hD hj) ?_
  rintro ⟨c, D2⟩ fr w hD2 M E
  refine sv (v := _) E rfl rfl rfl rfl rfl (run_move rfl rfl) fun fr E => ?_
  refine sv (v := _) E rfl rfl rfl rfl rfl (run_extract rfl rfl rfl) fun fr E => ?_
  refine sv (v := _) E rfl rfl rfl rfl rfl (run_extract rfl rfl rfl) fun fr E => ?_
  refine sv (v := _) E rfl rfl rfl rfl rfl (run_assign rfl rfl) fun fr E => ?_
  refine sv (v := _) E rfl rfl rfl rfl rfl (run_assign rfl rfl) fun fr E => ?_
  refine seq_nil' ?_
  refine wp_seq ?_
  refine code_region ?_
  refine sv (v := _) E rfl rfl rfl rfl rfl (run_move rfl rfl) fun fr E => ?_
  refine sv (v := .bool _) E rfl rfl rfl rfl rfl (rfl) fun fr E => ?_
  refine seq_nil' ?_
  refine cond_false E rfl (rfl) ?_
  refine wp_skip ?_
  refine then_normal ?_
  refine code_region ?_
  refine sv (v := _) E rfl rfl rfl rfl rfl (run_move rfl rfl) fun fr E => ?_
  refine sv (v := _) E rfl rfl rfl rfl rfl (run_move rfl rfl) fun fr E => ?_
  refine sv (v := _) E rfl rfl rfl rfl rfl (run_move rfl rfl) fun fr E => ?_
  refine scall E M rfl rfl rfl rfl rfl (run_call rfl rfl T.fn90) (sGet_yes (M.bytes 0 rfl) (M.has1 (i := 3) rfl) hkz hg) rfl ?_
  rintro q' fr w - M E
  refine sv (v := _) E rfl rfl rfl rfl rfl (run_move rfl rfl) fun fr E => ?_
  refine sv (v := _) E rfl rfl rfl rfl rfl (run_extract rfl rfl rfl) fun fr E => ?_
  refine sv (v := _) E rfl rfl rfl rfl rfl (run_extract rfl rfl rfl) fun fr E => ?_
  refine snew (ob := .cells #[_, _, _, _, _] 96) (fun g => .pointer (some ⟨g, 0, none⟩)) E M rfl rfl rfl rfl rfl (run_allocN rfl T.zero96) fun g1 fr w M E => ?_
  refine sset (i := 0) (cs' := #[.int .i64 2, .int .i64 e, .int .i64 n, .int .i64 (j : Int), q']) E M rfl rfl rfl rfl rfl (run_storeN' (vs := #[.int .i64 2, .int .i64 e, .int .i64 n, .int .i64 (j : Int), q']) rfl rfl rfl T.size96 rfl (M.row (i := 0) rfl) rfl (by obtain ⟨b', c', e'⟩ := Reads.slice (M.reads 1 rfl); rw [e']; rfl) rfl) rfl fun fr w M E => ?_
  refine sv (v := _) E rfl rfl rfl rfl rfl (run_assign rfl rfl) fun fr E => ?_
  refine seq_nil' ?_
  refine wp_seq ?_
  refine code_region ?_
  refine sv (v := _) E rfl rfl rfl rfl rfl (run_move rfl rfl) fun fr E => ?_
  refine sv (v := .bool _) E rfl rfl rfl rfl rfl (rfl) fun fr E => ?_
  refine seq_nil' ?_
  refine cond_false E rfl (rfl) ?_
  refine wp_skip ?_
  refine then_normal ?_
  refine code_region ?_
  refine sv (v := .pointer (some ⟨_, 4, none⟩)) E rfl rfl rfl rfl rfl (run_fieldAddr rfl rfl T.fld96_4) fun fr E => ?_
  refine sv (v := _) E rfl rfl rfl rfl rfl (run_loadB rfl rfl T.one30 (M.row (i := 0) rfl) rfl) fun fr E => ?_
  refine sgive E M rfl rfl rfl rfl rfl (run_call rfl rfl T.fn17) (gGet_x (M.bytes 1 rfl) hq) fun fr w M E => ?_
  refine sv (v := _) E rfl rfl rfl rfl rfl (run_move rfl rfl) fun fr E => ?_
  refine sv (v := _) E rfl rfl rfl rfl rfl (run_extract rfl rfl rfl) fun fr E => ?_
  refine sv (v := _) E rfl rfl rfl rfl rfl (run_extract rfl rfl rfl) fun fr E => ?_
  refine snew (ob := .cells _ 29) (fun g => .pointer (some ⟨g, 0, none⟩)) E M rfl rfl rfl rfl rfl (run_allocN rfl T.zero29) fun g2 fr w M E => ?_
  refine sset (i := 0) (cs' := (getX q).1.cells.toArray) E M rfl rfl rfl rfl rfl (run_storeAll (vs := (getX q).1.cells.toArray) rfl rfl rfl T.size29 (Rec.size (getX_ok q)) (M.row (i := 0) rfl) rfl (fun v hv => Rec.ones _ v hv)) rfl fun fr w M E => ?_
  refine sv (v := _) E rfl rfl rfl rfl rfl (run_assign rfl rfl) fun fr E => ?_
  refine seq_nil' ?_
  have M := M.pull 5 rfl
  have M : Mem _ _ ([.blk g0 (.cells Rec.zero.cells.toArray 29)] ++ _) _ _ := M
  refine wp_seq (free_regR (B := T.tab64_8_b) (Vs := (.exact (.agg (getX q).1.cells.toArray) :: .exact _ :: .exact (.bool false) :: .exact _ :: .exact undef :: .exact undef :: .exact undef :: .exact undef :: .exact undef :: .exact (.bool _) :: .exact _ :: .exact undef :: .exact undef :: .exact undef :: .exact undef :: .exact (.bool _) :: CameI w.heap.size ([.blk g0 (.cells Rec.zero.cells.toArray 29)]) (fun _ : Unit => undef) (fun _ => [.blk g0 (.cells (getX q).1.cells.toArray 29)]) (fun _ => True) :: .exact _ :: [])) (ownRoad (oneFs 16 ([.blk g0 (.cells Rec.zero.cells.toArray 29)])) w.drew) T.tab64_8_i E T.mixed T.tab64_8 rfl ?_ ⟨fr_val rfl rfl M (fun i g h => h.2) (fun x w' M' hB hk => ⟨_, _, rfl, rfl, rfl, run_loadAll rfl rfl T.agg29 (M'.row (i := 0) rfl) (Rec.size (getX_ok q)), Ext.refl _, rfl⟩),
      fr_val rfl rfl M (fun i g h => h.2) (fun x w' M' hB hk => ⟨_, _, rfl, rfl, rfl, run_move rfl rfl, Ext.refl _, rfl⟩),
      fr_val rfl rfl M (fun i g h => h.2) (fun x w' M' hB hk => ⟨_, _, rfl, rfl, rfl, tst rfl (decide_eq_false h1), Ext.refl _, rfl⟩),
      fr_val rfl rfl M (fun i g h => h.2) (fun x w' M' hB hk => ⟨_, _, rfl, rfl, rfl, run_move rfl rfl, Ext.refl _, rfl⟩),
      fr_no rfl rfl (fun x => ⟨rfl, rfl⟩),
      fr_no rfl rfl (fun x => ⟨rfl, rfl⟩),
      fr_no rfl rfl (fun x => ⟨rfl, rfl⟩),
      fr_no rfl rfl (fun x => ⟨rfl, rfl⟩),
      fr_no rfl rfl (fun x => ⟨rfl, rfl⟩),
      fr_val rfl rfl M (fun i g h => h.2) (fun x w' M' hB hk => ⟨_, _, rfl, rfl, rfl, rfl, Ext.refl _, rfl⟩),
      fr_val rfl rfl M (fun i g h => h.2) (fun x w' M' hB hk => ⟨_, _, rfl, rfl, rfl, run_move rfl rfl, Ext.refl _, rfl⟩),
      fr_no rfl rfl (fun x => ⟨rfl, rfl⟩),
      fr_no rfl rfl (fun x => ⟨rfl, rfl⟩),
      fr_no rfl rfl (fun x => ⟨rfl, rfl⟩),
      fr_no rfl rfl (fun x => ⟨rfl, rfl⟩),
      fr_val rfl rfl M (fun i g h => h.2) (fun x w' M' hB hk => ⟨_, _, rfl, rfl, rfl, rfl, Ext.refl _, rfl⟩),
      fr_set rfl rfl M (fun x w' M' H' hB hk => ⟨rfl, rfl, rfl, run_storeAll (vs := (getX q).1.cells.toArray) rfl rfl rfl T.size29 (Rec.size (getX_ok q)) (H'.ent 0 rfl) rfl (fun v hv => Rec.ones _ v hv)⟩),
      fr_val rfl rfl M (fun i g h => h.2) (fun x w' M' hB hk => ⟨_, _, rfl, rfl, rfl, run_assign rfl rfl, Ext.refl _, rfl⟩), trivial⟩ ?_)
  · exact one_okW rfl ((allY_ex (allY_ex (allY_ex (allY_ex (allY_ex (allY_ex (allY_ex (allY_ex (allY_ex (allY_ex (allY_ex (allY_ex (allY_ex (allY_ex (allY_ex (allY_ex (allY_in rfl LastsR.came1 (allY_ex allY_nil)))))))))))))))))))
  intro x fr w ⟨b, hb, hI⟩ hk E
  obtain ⟨u, hy, -, M⟩ := M.behind (val := fun _ : Unit => undef) (outs := fun _ => [.blk g0 (.cells (getX q).1.cells.toArray 29)]) (p := fun _ => True) hI (hk 16 (by decide))
  refine then_normal ?_
  refine wp_ret ?_
  refine retC2 E rfl rfl rfl T.agg29 (M.row (i := 0) rfl) (Rec.size (getX_ok q)) ?_
  have M := M.pull 6 rfl
  have M := M.pull 6 rfl
  exact ⟨D2, rfl, Mem.fin (L := [dkE D2, nmE N] ++ _) M (List.sublist_append_left _ _) hD2⟩

set_option maxRecDepth 100000 in
theorem one_b {D : DV} {N : NV} {g j : Nat} {A : AD} {w0 : World} (H : Has w0 [dkE D, nmE N]) (hD : D.is g A) (hkz : N.ks.length ≤ 1099511627776) (hj : j < A.n) (hl : (A.read j).length ≤ 1024) {e n : Int} {q : List UInt8} (hg : sgetX N.ks 2 (j : Int) (A.read j) = some (e, n, q)) (hq : q.length ≤ 35184372088832) (h1 : (getX q).2 = 0) (h2 : ¬ (getX q).1.epoch = e) : Does Try.prog 64 [.pointer (some ⟨g, 0, none⟩), .iface 51 (.pointer (some ⟨N.gn, 0, none⟩)), .int .i64 (j : Int)] w0 [dkE D, nmE N] (fun _ : DV => .tuple #[(getX q).1.val, .bool false]) (fun x => [dkE x, nmE N]) (fun x => x.is g (A.bump j)) := by
  refine enter (n := 53) Try.func64 rfl rfl rfl ?_
  intro fr E
  have M : Mem w0 (feet [dkE D, nmE N]) [dkE D, nmE N] (fun _ => True) w0 := Mem.begin H (fun _ _ => trivial)
  refine code_region ?_
  refine snew (ob := .cells _ 29) (fun g => .pointer (some ⟨g, 0, none⟩)) E M rfl rfl rfl rfl rfl (run_allocN rfl T.zero29) fun g0 fr w M E => ?_
  refine sv (v := _) E rfl rfl rfl rfl rfl (run_assignC rfl) fun fr E => ?_
  refine seq_nil' ?_
  refine code_region ?_
  refine sv (v := _) E rfl rfl rfl rfl rfl (run_move rfl rfl) fun fr E => ?_
  refine sv (v := _) E rfl rfl rfl rfl rfl (run_move rfl rfl) fun fr E => ?_
  have M := M.pull 1 rfl
  refine scallI ([dkE D]) E M rfl rfl rfl rfl rfl (run_call rfl rfl T.fn37) rfl (fun H => Read_a H hD hj) ?_
  rintro ⟨c, D2⟩ fr w hD2 M E
  refine sv (v := _) E rfl rfl rfl rfl rfl (run_move rfl rfl) fun fr E => ?_
  refine sv (v := _) E rfl rfl rfl rfl rfl (run_extract rfl rfl rfl) fun fr E => ?_
  refine sv (v := _) E rfl rfl rfl rfl rfl (run_extract rfl rfl rfl) fun fr E => ?_
  refine sv (v := _) E rfl rfl rfl rfl rfl (run_assign rfl rfl) fun fr E => ?_
  refine sv (v := _) E rfl rfl rfl rfl rfl (run_assign rfl rfl) fun fr E => ?_
  refine seq_nil' ?_
  refine wp_seq ?_
  refine code_region ?_
  refine sv (v := _) E rfl rfl rfl rfl rfl (run_move rfl rfl) fun fr E => ?_
  refine sv (v := .bool _) E rfl rfl rfl rfl rfl (rfl) fun fr E => ?_
  refine seq_nil' ?_
  refine cond_false E rfl (rfl) ?_
  refine wp_skip ?_
  refine then_normal ?_
  refine code_region ?_
  refine sv (v := _) E rfl rfl rfl rfl rfl (run_move rfl rfl) fun fr E => ?_
  refine sv (v := _) E rfl rfl rfl rfl rfl (run_move rfl rfl) fun fr E => ?_
  refine sv (v := _) E rfl rfl rfl rfl rfl (run_move rfl rfl) fun fr E => ?_
  refine scall E M rfl rfl rfl rfl rfl (run_call rfl rfl T.fn90) (sGet_yes (M.bytes 0 rfl) (M.has1 (i := 3) rfl) hkz hg) rfl ?_
  rintro q' fr w - M E
  refine sv (v := _) E rfl rfl rfl rfl rfl (run_move rfl rfl) fun fr E => ?_
  refine sv (v := _) E rfl rfl rfl rfl rfl (run_extract rfl rfl rfl) fun fr E => ?_
  refine sv (v := _) E rfl rfl rfl rfl rfl (run_extract rfl rfl rfl) fun fr E => ?_
  refine snew (ob := .cells #[_, _, _, _, _] 96) (fun g => .pointer (some ⟨g, 0, none⟩)) E M rfl rfl rfl rfl rfl (run_allocN rfl T.zero96) fun g1 fr w M E => ?_
  refine sset (i := 0) (cs' := #[.int .i64 2, .int .i64 e, .int .i64 n, .int .i64 (j : Int), q']) E M rfl rfl rfl rfl rfl (run_storeN' (vs := #[.int .i64 2, .int .i64 e, .int .i64 n, .int .i64 (j : Int), q']) rfl rfl rfl T.size96 rfl (M.row (i := 0) rfl) rfl (by obtain ⟨b', c', e'⟩ := Reads.slice (M.reads 1 rfl); rw [e']; rfl) rfl) rfl fun fr w M E => ?_
  refine sv (v := _) E rfl rfl rfl rfl rfl (run_assign rfl rfl) fun fr E => ?_
  refine seq_nil' ?_
  refine wp_seq ?_
  refine code_region ?_
  refine sv (v := _) E rfl rfl rfl rfl rfl (run_move rfl rfl) fun fr E => ?_
  refine sv (v := .bool _) E rfl rfl rfl rfl rfl (rfl) fun fr E => ?_
  refine seq_nil' ?_
  refine cond_false E rfl (rfl) ?_
  refine wp_skip ?_
  refine then_normal ?_
  refine code_region ?_
  refine sv (v := .pointer (some ⟨_, 4, none⟩)) E rfl rfl rfl rfl rfl (run_fieldAddr rfl rfl T.fld96_4) fun fr E => ?_
  refine sv (v := _) E rfl rfl rfl rfl rfl (run_loadB rfl rfl T.one30 (M.row (i := 0) rfl) rfl) fun fr E => ?_
  refine sgive E M rfl rfl rfl rfl rfl (run_call rfl rfl T.fn17) (gGet_x (M.bytes 1 rfl) hq) fun fr w M E => ?_
  refine sv (v := _) E rfl rfl rfl rfl rfl (run_move rfl rfl) fun fr E => ?_
  refine sv (v := _) E rfl rfl rfl rfl rfl (run_extract rfl rfl rfl) fun fr E => ?_
  refine sv (v := _) E rfl rfl rfl rfl rfl (run_extract rfl rfl rfl) fun fr E => ?_
  refine snew (ob := .cells _ 29) (fun g => .pointer (some ⟨g, 0, none⟩)) E M rfl rfl rfl rfl rfl (run_allocN rfl T.zero29) fun g2 fr w M E => ?_
  refine sset (i := 0) (cs' := (getX q).1.cells.toArray) E M rfl rfl rfl rfl rfl (run_storeAll (vs := (getX q).1.cells.toArray) rfl rfl rfl T.size29 (Rec.size (getX_ok q)) (M.row (i := 0) rfl) rfl (fun v hv => Rec.ones _ v hv)) rfl fun fr w M E => ?_
  refine sv (v := _) E rfl rfl rfl rfl rfl (run_assign rfl rfl) fun fr E => ?_
  refine seq_nil' ?_
  have M := M.pull 5 rfl
  have M : Mem _ _ ([.blk g0 (.cells Rec.zero.cells.toArray 29)] ++ _) _ _ := M
  refine wp_seq (free_regR (B := T.tab64_8_b) (Vs := (.exact (.agg (getX q).1.cells.toArray) :: .exact _ :: .exact (.bool true) :: .exact _ :: .exact (.pointer (some ⟨_, 2, none⟩)) :: .exact (.int .i64 (getX q).1.epoch) :: .exact (.pointer (some ⟨_, 1, none⟩)) :: .exact (.int .i64 _) :: .exact (.bool false) :: .exact (.bool _) :: .exact _ :: .exact undef :: .exact undef :: .exact undef :: .exact undef :: .exact (.bool _) :: CameI w.heap.size ([.blk g0 (.cells Rec.zero.cells.toArray 29)]) (fun _ : Unit => undef) (fun _ => [.blk g0 (.cells (getX q).1.cells.toArray 29)]) (fun _ => True) :: .exact _ :: [])) (ownRoad (oneFs 16 ([.blk g0 (.cells Rec.zero.cells.toArray 29)])) w.drew) T.tab64_8_i E T.mixed T.tab64_8 rfl ?_ ⟨fr_val rfl rfl M (fun i g h => h.2) (fun x w' M' hB hk => ⟨_, _, rfl, rfl, rfl, run_loadAll rfl rfl T.agg29 (M'.row (i := 0) rfl) (Rec.size (getX_ok q)), Ext.refl _, rfl⟩),
      fr_val rfl rfl M (fun i g h => h.2) (fun x w' M' hB hk => ⟨_, _, rfl, rfl, rfl, run_move rfl rfl, Ext.refl _, rfl⟩),
      fr_val rfl rfl M (fun i g h => h.2) (fun x w' M' hB hk => ⟨_, _, rfl, rfl, rfl, tst rfl (decide_eq_true h1), Ext.refl _, rfl⟩),
      fr_val rfl rfl M (fun i g h => h.2) (fun x w' M' hB hk => ⟨_, _, rfl, rfl, rfl, run_move rfl rfl, Ext.refl _, rfl⟩),
      fr_val rfl rfl M (fun i g h => h.2) (fun x w' M' hB hk => ⟨_, _, rfl, rfl, rfl, run_fieldAddr rfl rfl T.fld29_2, Ext.refl _, rfl⟩),
      fr_val rfl rfl M (fun i g h => h.2) (fun x w' M' hB hk => ⟨_, _, rfl, rfl, rfl, run_loadB rfl rfl T.one3 (M'.row (i := 0) rfl) Rec.c_epoch, Ext.refl _, rfl⟩),
      fr_val rfl rfl M (fun i g h => h.2) (fun x w' M' hB hk => ⟨_, _, rfl, rfl, rfl, run_fieldAddr rfl rfl T.fld96_1, Ext.refl _, rfl⟩),
      fr_val rfl rfl M (fun i g h => h.2) (fun x w' M' hB hk => ⟨_, _, rfl, rfl, rfl, run_loadB rfl rfl T.one3 (M'.row (i := 1) rfl) rfl, Ext.refl _, rfl⟩),
      fr_val rfl rfl M (fun i g h => h.2) (fun x w' M' hB hk => ⟨_, _, rfl, rfl, rfl, tst rfl (decide_eq_false h2), Ext.refl _, rfl⟩),
      fr_val rfl rfl M (fun i g h => h.2) (fun x w' M' hB hk => ⟨_, _, rfl, rfl, rfl, rfl, Ext.refl _, rfl⟩),
      fr_val rfl rfl M (fun i g h => h.2) (fun x w' M' hB hk => ⟨_, _, rfl, rfl, rfl, run_move rfl rfl, Ext.refl _, rfl⟩),
      fr_no rfl rfl (fun x => ⟨rfl, rfl⟩),
      fr_no rfl rfl (fun x => ⟨rfl, rfl⟩),
      fr_no rfl rfl (fun x => ⟨rfl, rfl⟩),
      fr_no rfl rfl (fun x => ⟨rfl, rfl⟩),
      fr_val rfl rfl M (fun i g h => h.2) (fun x w' M' hB hk => ⟨_, _, rfl, rfl, rfl, rfl, Ext.refl _, rfl⟩),
      fr_set rfl rfl M (fun x w' M' H' hB hk => ⟨rfl, rfl, rfl, run_storeAll (vs := (getX q).1.cells.toArray) rfl rfl rfl T.size29 (Rec.size (getX_ok q)) (H'.ent 0 rfl) rfl (fun v hv => Rec.ones _ v hv)⟩),
      fr_val rfl rfl M (fun i g h => h.2) (fun x w' M' hB hk => ⟨_, _, rfl, rfl, rfl, run_assign rfl rfl, Ext.refl _, rfl⟩), trivial⟩ ?_)
  · exact one_okW rfl ((allY_ex (allY_ex (allY_ex (allY_ex (allY_ex (allY_ex (allY_ex (allY_ex (allY_ex (allY_ex (allY_ex (allY_ex (allY_ex (allY_ex (allY_ex (allY_ex (allY_in rfl LastsR.came1 (allY_ex allY_nil)))))))))))))))))))
  intro x fr w ⟨b, hb, hI⟩ hk E
  obtain ⟨u, hy, -, M⟩ := M.behind (val := fun _ : Unit => undef) (outs := fun _ => [.blk g0 (.cells (getX q).1.cells.toArray 29)]) (p := fun _ => True) hI (hk 16 (by decide))
  refine then_normal ?_
  refine wp_ret ?_
  refine retC2 E rfl rfl rfl T.agg29 (M.row (i := 0) rfl) (Rec.size (getX_ok q)) ?_
  have M := M.pull 6 rfl
  have M := M.pull 6 rfl
  exact ⟨D2, rfl, Mem.fin (L := [dkE D2, nmE N] ++ _) M (List.sublist_append_left _ _) hD2⟩

set_option maxRecDepth 100000 in
theorem one_c {D : DV} {N : NV} {g j : Nat} {A : AD} {w0 : World} (H : Has w0 [dkE D, nmE N]) (hD : D.is g A) (hkz : N.ks.length ≤ 1099511627776) (hj : j < A.n) (hl : (A.read j).length ≤ 1024) {e n : Int} {q : List UInt8} (hg : sgetX N.ks 2 (j : Int) (A.read j) = some (e, n, q)) (hq : q.length ≤ 35184372088832) (h1 : (getX q).2 = 0) (h2 : (getX q).1.epoch = e) (h3 : ¬ 1 + (getX q).1.gen.tmod 2 = (j : Int)) : Does Try.prog 64 [.pointer (some ⟨g, 0, none⟩), .iface 51 (.pointer (some ⟨N.gn, 0, none⟩)), .int .i64 (j : Int)] w0 [dkE D, nmE N] (fun _ : DV => .tuple #[(getX q).1.val, .bool false]) (fun x => [dkE x, nmE N]) (fun x => x.is g (A.bump j)) := by
  refine enter (n := 53) Try.func64 rfl rfl rfl ?_
  intro fr E
  have M : Mem w0 (feet [dkE D, nmE N]) [dkE D, nmE N] (fun _ => True) w0 := Mem.begin H (fun _ _ => trivial)
  refine code_region ?_
  refine snew (ob := .cells _ 29) (fun g => .pointer (some ⟨g, 0, none⟩)) E M rfl rfl rfl rfl rfl (run_allocN rfl T.zero29) fun g0 fr w M E => ?_
  refine sv (v := _) E rfl rfl rfl rfl rfl (run_assignC rfl) fun fr E => ?_
  refine seq_nil' ?_
  refine code_region ?_
  refine sv (v := _) E rfl rfl rfl rfl rfl (run_move rfl rfl) fun fr E => ?_
  refine sv (v := _) E rfl rfl rfl rfl rfl (run_move rfl rfl) fun fr E => ?_
  have M := M.pull 1 rfl
  refine scallI ([dkE D]) E M rfl rfl rfl rfl rfl (run_call rfl rfl T.fn37) rfl (fun H => Read_a H hD hj) ?_
  rintro ⟨c, D2⟩ fr w hD2 M E
  refine sv (v := _) E rfl rfl rfl rfl rfl (run_move rfl rfl) fun fr E => ?_
  refine sv (v := _) E rfl rfl rfl rfl rfl (run_extract rfl rfl rfl) fun fr E => ?_
  refine sv (v := _) E rfl rfl rfl rfl rfl (run_extract rfl rfl rfl) fun fr E => ?_
  refine sv (v := _) E rfl rfl rfl rfl rfl (run_assign rfl rfl) fun fr E => ?_
  refine sv (v := _) E rfl rfl rfl rfl rfl (run_assign rfl rfl) fun fr E => ?_
  refine seq_nil' ?_
  refine wp_seq ?_
  refine code_region ?_
  refine sv (v := _) E rfl rfl rfl rfl rfl (run_move rfl rfl) fun fr E => ?_
  refine sv (v := .bool _) E rfl rfl rfl rfl rfl (rfl) fun fr E => ?_
  refine seq_nil' ?_
  refine cond_false E rfl (rfl) ?_
  refine wp_skip ?_
  refine then_normal ?_
  refine code_region ?_
  refine sv (v := _) E rfl rfl rfl rfl rfl (run_move rfl rfl) fun fr E => ?_
  refine sv (v := _) E rfl rfl rfl rfl rfl (run_move rfl rfl) fun fr E => ?_
  refine sv (v := _) E rfl rfl rfl rfl rfl (run_move rfl rfl) fun fr E => ?_
  refine scall E M rfl rfl rfl rfl rfl (run_call rfl rfl T.fn90) (sGet_yes (M.bytes 0 rfl) (M.has1 (i := 3) rfl) hkz hg) rfl ?_
  rintro q' fr w - M E
  refine sv (v := _) E rfl rfl rfl rfl rfl (run_move rfl rfl) fun fr E => ?_
  refine sv (v := _) E rfl rfl rfl rfl rfl (run_extract rfl rfl rfl) fun fr E => ?_
  refine sv (v := _) E rfl rfl rfl rfl rfl (run_extract rfl rfl rfl) fun fr E => ?_
  refine snew (ob := .cells #[_, _, _, _, _] 96) (fun g => .pointer (some ⟨g, 0, none⟩)) E M rfl rfl rfl rfl rfl (run_allocN rfl T.zero96) fun g1 fr w M E => ?_
  refine sset (i := 0) (cs' := #[.int .i64 2, .int .i64 e, .int .i64 n, .int .i64 (j : Int), q']) E M rfl rfl rfl rfl rfl (run_storeN' (vs := #[.int .i64 2, .int .i64 e, .int .i64 n, .int .i64 (j : Int), q']) rfl rfl rfl T.size96 rfl (M.row (i := 0) rfl) rfl (by obtain ⟨b', c', e'⟩ := Reads.slice (M.reads 1 rfl); rw [e']; rfl) rfl) rfl fun fr w M E => ?_
  refine sv (v := _) E rfl rfl rfl rfl rfl (run_assign rfl rfl) fun fr E => ?_
  refine seq_nil' ?_
  refine wp_seq ?_
  refine code_region ?_
  refine sv (v := _) E rfl rfl rfl rfl rfl (run_move rfl rfl) fun fr E => ?_
  refine sv (v := .bool _) E rfl rfl rfl rfl rfl (rfl) fun fr E => ?_
  refine seq_nil' ?_
  refine cond_false E rfl (rfl) ?_
  refine wp_skip ?_
  refine then_normal ?_
  refine code_region ?_
  refine sv (v := .pointer (some ⟨_, 4, none⟩)) E rfl rfl rfl rfl rfl (run_fieldAddr rfl rfl T.fld96_4) fun fr E => ?_
  refine sv (v := _) E rfl rfl rfl rfl rfl (run_loadB rfl rfl T.one30 (M.row (i := 0) rfl) rfl) fun fr E => ?_
  refine sgive E M rfl rfl rfl rfl rfl (run_call rfl rfl T.fn17) (gGet_x (M.bytes 1 rfl) hq) fun fr w M E => ?_
  refine sv (v := _) E rfl rfl rfl rfl rfl (run_move rfl rfl) fun fr E => ?_
  refine sv (v := _) E rfl rfl rfl rfl rfl (run_extract rfl rfl rfl) fun fr E => ?_
  refine sv (v := _) E rfl rfl rfl rfl rfl (run_extract rfl rfl rfl) fun fr E => ?_
  refine snew (ob := .cells _ 29) (fun g => .pointer (some ⟨g, 0, none⟩)) E M rfl rfl rfl rfl rfl (run_allocN rfl T.zero29) fun g2 fr w M E => ?_
  refine sset (i := 0) (cs' := (getX q).1.cells.toArray) E M rfl rfl rfl rfl rfl (run_storeAll (vs := (getX q).1.cells.toArray) rfl rfl rfl T.size29 (Rec.size (getX_ok q)) (M.row (i := 0) rfl) rfl (fun v hv => Rec.ones _ v hv)) rfl fun fr w M E => ?_
  refine sv (v := _) E rfl rfl rfl rfl rfl (run_assign rfl rfl) fun fr E => ?_
  refine seq_nil' ?_
  have M := M.pull 5 rfl
  have M : Mem _ _ ([.blk g0 (.cells Rec.zero.cells.toArray 29)] ++ _) _ _ := M
  refine wp_seq (free_regR (B := T.tab64_8_b) (Vs := (.exact (.agg (getX q).1.cells.toArray) :: .exact _ :: .exact (.bool true) :: .exact _ :: .exact (.pointer (some ⟨_, 2, none⟩)) :: .exact (.int .i64 (getX q).1.epoch) :: .exact (.pointer (some ⟨_, 1, none⟩)) :: .exact (.int .i64 _) :: .exact (.bool true) :: .exact (.bool _) :: .exact _ :: .exact (.agg (getX q).1.cells.toArray) :: .exact (.int .i64 (1 + (getX q).1.gen.tmod 2)) :: .exact _ :: .exact (.bool false) :: .exact (.bool _) :: CameI w.heap.size ([.blk g0 (.cells Rec.zero.cells.toArray 29)]) (fun _ : Unit => undef) (fun _ => [.blk g0 (.cells (getX q).1.cells.toArray 29)]) (fun _ => True) :: .exact _ :: [])) (ownRoad (oneFs 16 ([.blk g0 (.cells Rec.zero.cells.toArray 29)])) w.drew) T.tab64_8_i E T.mixed T.tab64_8 rfl ?_ ⟨fr_val rfl rfl M (fun i g h => h.2) (fun x w' M' hB hk => ⟨_, _, rfl, rfl, rfl, run_loadAll rfl rfl T.agg29 (M'.row (i := 0) rfl) (Rec.size (getX_ok q)), Ext.refl _, rfl⟩),
      fr_val rfl rfl M (fun i g h => h.2) (fun x w' M' hB hk => ⟨_, _, rfl, rfl, rfl, run_move rfl rfl, Ext.refl _, rfl⟩),
      fr_val rfl rfl M (fun i g h => h.2) (fun x w' M' hB hk => ⟨_, _, rfl, rfl, rfl, tst rfl (decide_eq_true h1), Ext.refl _, rfl⟩),
      fr_val rfl rfl M (fun i g h => h.2) (fun x w' M' hB hk => ⟨_, _, rfl, rfl, rfl, run_move rfl rfl, Ext.refl _, rfl⟩),
      fr_val rfl rfl M (fun i g h => h.2) (fun x w' M' hB hk => ⟨_, _, rfl, rfl, rfl, run_fieldAddr rfl rfl T.fld29_2, Ext.refl _, rfl⟩),
      fr_val rfl rfl M (fun i g h => h.2) (fun x w' M' hB hk => ⟨_, _, rfl, rfl, rfl, run_loadB rfl rfl T.one3 (M'.row (i := 0) rfl) Rec.c_epoch, Ext.refl _, rfl⟩),
      fr_val rfl rfl M (fun i g h => h.2) (fun x w' M' hB hk => ⟨_, _, rfl, rfl, rfl, run_fieldAddr rfl rfl T.fld96_1, Ext.refl _, rfl⟩),
      fr_val rfl rfl M (fun i g h => h.2) (fun x w' M' hB hk => ⟨_, _, rfl, rfl, rfl, run_loadB rfl rfl T.one3 (M'.row (i := 1) rfl) rfl, Ext.refl _, rfl⟩),
      fr_val rfl rfl M (fun i g h => h.2) (fun x w' M' hB hk => ⟨_, _, rfl, rfl, rfl, tst rfl (decide_eq_true h2), Ext.refl _, rfl⟩),
      fr_val rfl rfl M (fun i g h => h.2) (fun x w' M' hB hk => ⟨_, _, rfl, rfl, rfl, rfl, Ext.refl _, rfl⟩),
      fr_val rfl rfl M (fun i g h => h.2) (fun x w' M' hB hk => ⟨_, _, rfl, rfl, rfl, run_move rfl rfl, Ext.refl _, rfl⟩),
      fr_val rfl rfl M (fun i g h => h.2) (fun x w' M' hB hk => ⟨_, _, rfl, rfl, rfl, run_loadAll rfl rfl T.agg29 (M'.row (i := 0) rfl) (Rec.size (getX_ok q)), Ext.refl _, rfl⟩),
      fr_ext rfl rfl M (fun i g h => h.2) (fun x w' M' hB hk => ⟨_, _, rfl, rfl, rfl, run_call rfl rfl T.fn62, (at_x (getX_ok q) _).ext⟩),
      fr_val rfl rfl M (fun i g h => h.2) (fun x w' M' hB hk => ⟨_, _, rfl, rfl, rfl, run_move rfl rfl, Ext.refl _, rfl⟩),
      fr_val rfl rfl M (fun i g h => h.2) (fun x w' M' hB hk => ⟨_, _, rfl, rfl, rfl, tst rfl (decide_eq_false h3), Ext.refl _, rfl⟩),
      fr_val rfl rfl M (fun i g h => h.2) (fun x w' M' hB hk => ⟨_, _, rfl, rfl, rfl, rfl, Ext.refl _, rfl⟩),
      fr_set rfl rfl M (fun x w' M' H' hB hk => ⟨rfl, rfl, rfl, run_storeAll (vs := (getX q).1.cells.toArray) rfl rfl rfl T.size29 (Rec.size (getX_ok q)) (H'.ent 0 rfl) rfl (fun v hv => Rec.ones _ v hv)⟩),
      fr_val rfl rfl M (fun i g h => h.2) (fun x w' M' hB hk => ⟨_, _, rfl, rfl, rfl, run_assign rfl rfl, Ext.refl _, rfl⟩), trivial⟩ ?_)
  · exact one_okW rfl ((allY_ex (allY_ex (allY_ex (allY_ex (allY_ex (allY_ex (allY_ex (allY_ex (allY_ex (allY_ex (allY_ex (allY_ex (allY_ex (allY_ex (allY_ex (allY_ex (allY_in rfl LastsR.came1 (allY_ex allY_nil)))))))))))))))))))
  intro x fr w ⟨b, hb, hI⟩ hk E
  obtain ⟨u, hy, -, M⟩ := M.behind (val := fun _ : Unit => undef) (outs := fun _ => [.blk g0 (.cells (getX q).1.cells.toArray 29)]) (p := fun _ => True) hI (hk 16 (by decide))
  refine then_normal ?_
  refine wp_ret ?_
  refine retC2 E rfl rfl rfl T.agg29 (M.row (i := 0) rfl) (Rec.size (getX_ok q)) ?_
  have M := M.pull 6 rfl
  have M := M.pull 6 rfl
  exact ⟨D2, rfl, Mem.fin (L := [dkE D2, nmE N] ++ _) M (List.sublist_append_left _ _) hD2⟩

set_option maxRecDepth 100000 in
theorem one_d {D : DV} {N : NV} {g j : Nat} {A : AD} {w0 : World} (H : Has w0 [dkE D, nmE N]) (hD : D.is g A) (hkz : N.ks.length ≤ 1099511627776) (hj : j < A.n) (hl : (A.read j).length ≤ 1024) {e n : Int} {q : List UInt8} (hg : sgetX N.ks 2 (j : Int) (A.read j) = some (e, n, q)) (hq : q.length ≤ 35184372088832) (h1 : (getX q).2 = 0) (h2 : (getX q).1.epoch = e) (h3 : 1 + (getX q).1.gen.tmod 2 = (j : Int)) : Does Try.prog 64 [.pointer (some ⟨g, 0, none⟩), .iface 51 (.pointer (some ⟨N.gn, 0, none⟩)), .int .i64 (j : Int)] w0 [dkE D, nmE N] (fun _ : DV => .tuple #[(getX q).1.val, .bool true]) (fun x => [dkE x, nmE N]) (fun x => x.is g (A.bump j)) := by
  refine enter (n := 53) Try.func64 rfl rfl rfl ?_
  intro fr E
  have M : Mem w0 (feet [dkE D, nmE N]) [dkE D, nmE N] (fun _ => True) w0 := Mem.begin H (fun _ _ => trivial)
  refine code_region ?_
  refine snew (ob := .cells _ 29) (fun g => .pointer (some ⟨g, 0, none⟩)) E M rfl rfl rfl rfl rfl (run_allocN rfl T.zero29) fun g0 fr w M E => ?_
  refine sv (v := _) E rfl rfl rfl rfl rfl (run_assignC rfl) fun fr E => ?_
  refine seq_nil' ?_
  refine code_region ?_
  refine sv (v := _) E rfl rfl rfl rfl rfl (run_move rfl rfl) fun fr E => ?_
  refine sv (v := _) E rfl rfl rfl rfl rfl (run_move rfl rfl) fun fr E => ?_
  have M := M.pull 1 rfl
  refine scallI ([dkE D]) E M rfl rfl rfl rfl rfl (run_call rfl rfl T.fn37) rfl (fun H => Read_a H hD hj) ?_
  rintro ⟨c, D2⟩ fr w hD2 M E
  refine sv (v := _) E rfl rfl rfl rfl rfl (run_move rfl rfl) fun fr E => ?_
  refine sv (v := _) E rfl rfl rfl rfl rfl (run_extract rfl rfl rfl) fun fr E => ?_
  refine sv (v := _) E rfl rfl rfl rfl rfl (run_extract rfl rfl rfl) fun fr E => ?_
  refine sv (v := _) E rfl rfl rfl rfl rfl (run_assign rfl rfl) fun fr E => ?_
  refine sv (v := _) E rfl rfl rfl rfl rfl (run_assign rfl rfl) fun fr E => ?_
  refine seq_nil' ?_
  refine wp_seq ?_
  refine code_region ?_
  refine sv (v := _) E rfl rfl rfl rfl rfl (run_move rfl rfl) fun fr E => ?_
  refine sv (v := .bool _) E rfl rfl rfl rfl rfl (rfl) fun fr E => ?_
  refine seq_nil' ?_
  refine cond_false E rfl (rfl) ?_
  refine wp_skip ?_
  refine then_normal ?_
  refine code_region ?_
  refine sv (v := _) E rfl rfl rfl rfl rfl (run_move rfl rfl) fun fr E => ?_
  refine sv (v := _) E rfl rfl rfl rfl rfl (run_move rfl rfl) fun fr E => ?_
  refine sv (v := _) E rfl rfl rfl rfl rfl (run_move rfl rfl) fun fr E => ?_
  refine scall E M rfl rfl rfl rfl rfl (run_call rfl rfl T.fn90) (sGet_yes (M.bytes 0 rfl) (M.has1 (i := 3) rfl) hkz hg) rfl ?_
  rintro q' fr w - M E
  refine sv (v := _) E rfl rfl rfl rfl rfl (run_move rfl rfl) fun fr E => ?_
  refine sv (v := _) E rfl rfl rfl rfl rfl (run_extract rfl rfl rfl) fun fr E => ?_
  refine sv (v := _) E rfl rfl rfl rfl rfl (run_extract rfl rfl rfl) fun fr E => ?_
  refine snew (ob := .cells #[_, _, _, _, _] 96) (fun g => .pointer (some ⟨g, 0, none⟩)) E M rfl rfl rfl rfl rfl (run_allocN rfl T.zero96) fun g1 fr w M E => ?_
  refine sset (i := 0) (cs' := #[.int .i64 2, .int .i64 e, .int .i64 n, .int .i64 (j : Int), q']) E M rfl rfl rfl rfl rfl (run_storeN' (vs := #[.int .i64 2, .int .i64 e, .int .i64 n, .int .i64 (j : Int), q']) rfl rfl rfl T.size96 rfl (M.row (i := 0) rfl) rfl (by obtain ⟨b', c', e'⟩ := Reads.slice (M.reads 1 rfl); rw [e']; rfl) rfl) rfl fun fr w M E => ?_
  refine sv (v := _) E rfl rfl rfl rfl rfl (run_assign rfl rfl) fun fr E => ?_
  refine seq_nil' ?_
  refine wp_seq ?_
  refine code_region ?_
  refine sv (v := _) E rfl rfl rfl rfl rfl (run_move rfl rfl) fun fr E => ?_
  refine sv (v := .bool _) E rfl rfl rfl rfl rfl (rfl) fun fr E => ?_
  refine seq_nil' ?_
  refine cond_false E rfl (rfl) ?_
  refine wp_skip ?_
  refine then_normal ?_
  refine code_region ?_
  refine sv (v := .pointer (some ⟨_, 4, none⟩)) E rfl rfl rfl rfl rfl (run_fieldAddr rfl rfl T.fld96_4) fun fr E => ?_
  refine sv (v := _) E rfl rfl rfl rfl rfl (run_loadB rfl rfl T.one30 (M.row (i := 0) rfl) rfl) fun fr E => ?_
  refine sgive E M rfl rfl rfl rfl rfl (run_call rfl rfl T.fn17) (gGet_x (M.bytes 1 rfl) hq) fun fr w M E => ?_
  refine sv (v := _) E rfl rfl rfl rfl rfl (run_move rfl rfl) fun fr E => ?_
  refine sv (v := _) E rfl rfl rfl rfl rfl (run_extract rfl rfl rfl) fun fr E => ?_
  refine sv (v := _) E rfl rfl rfl rfl rfl (run_extract rfl rfl rfl) fun fr E => ?_
  refine snew (ob := .cells _ 29) (fun g => .pointer (some ⟨g, 0, none⟩)) E M rfl rfl rfl rfl rfl (run_allocN rfl T.zero29) fun g2 fr w M E => ?_
  refine sset (i := 0) (cs' := (getX q).1.cells.toArray) E M rfl rfl rfl rfl rfl (run_storeAll (vs := (getX q).1.cells.toArray) rfl rfl rfl T.size29 (Rec.size (getX_ok q)) (M.row (i := 0) rfl) rfl (fun v hv => Rec.ones _ v hv)) rfl fun fr w M E => ?_
  refine sv (v := _) E rfl rfl rfl rfl rfl (run_assign rfl rfl) fun fr E => ?_
  refine seq_nil' ?_
  have M := M.pull 5 rfl
  have M : Mem _ _ ([.blk g0 (.cells Rec.zero.cells.toArray 29)] ++ _) _ _ := M
  refine wp_seq (free_regR (B := T.tab64_8_b) (Vs := (.exact (.agg (getX q).1.cells.toArray) :: .exact _ :: .exact (.bool true) :: .exact _ :: .exact (.pointer (some ⟨_, 2, none⟩)) :: .exact (.int .i64 (getX q).1.epoch) :: .exact (.pointer (some ⟨_, 1, none⟩)) :: .exact (.int .i64 _) :: .exact (.bool true) :: .exact (.bool _) :: .exact _ :: .exact (.agg (getX q).1.cells.toArray) :: .exact (.int .i64 (1 + (getX q).1.gen.tmod 2)) :: .exact _ :: .exact (.bool true) :: .exact (.bool _) :: CameI w.heap.size ([.blk g0 (.cells Rec.zero.cells.toArray 29)]) (fun _ : Unit => undef) (fun _ => [.blk g0 (.cells (getX q).1.cells.toArray 29)]) (fun _ => True) :: .exact _ :: [])) (ownRoad (oneFs 16 ([.blk g0 (.cells Rec.zero.cells.toArray 29)])) w.drew) T.tab64_8_i E T.mixed T.tab64_8 rfl ?_ ⟨fr_val rfl rfl M (fun i g h => h.2) (fun x w' M' hB hk => ⟨_, _, rfl, rfl, rfl, run_loadAll rfl rfl T.agg29 (M'.row (i := 0) rfl) (Rec.size (getX_ok q)), Ext.refl _, rfl⟩),
      fr_val rfl rfl M (fun i g h => h.2) (fun x w' M' hB hk => ⟨_, _, rfl, rfl, rfl, run_move rfl rfl, Ext.refl _, rfl⟩),
      fr_val rfl rfl M (fun i g h => h.2) (fun x w' M' hB hk => ⟨_, _, rfl, rfl, rfl, tst rfl (decide_eq_true h1), Ext.refl _, rfl⟩),
      fr_val rfl rfl M (fun i g h => h.2) (fun x w' M' hB hk => ⟨_, _, rfl, rfl, rfl, run_move rfl rfl, Ext.refl _, rfl⟩),
      fr_val rfl rfl M (fun i g h => h.2) (fun x w' M' hB hk => ⟨_, _, rfl, rfl, rfl, run_fieldAddr rfl rfl T.fld29_2, Ext.refl _, rfl⟩),
      fr_val rfl rfl M (fun i g h => h.2) (fun x w' M' hB hk => ⟨_, _, rfl, rfl, rfl, run_loadB rfl rfl T.one3 (M'.row (i := 0) rfl) Rec.c_epoch, Ext.refl _, rfl⟩),
      fr_val rfl rfl M (fun i g h => h.2) (fun x w' M' hB hk => ⟨_, _, rfl, rfl, rfl, run_fieldAddr rfl rfl T.fld96_1, Ext.refl _, rfl⟩),
      fr_val rfl rfl M (fun i g h => h.2) (fun x w' M' hB hk => ⟨_, _, rfl, rfl, rfl, run_loadB rfl rfl T.one3 (M'.row (i := 1) rfl) rfl, Ext.refl _, rfl⟩),
      fr_val rfl rfl M (fun i g h => h.2) (fun x w' M' hB hk => ⟨_, _, rfl, rfl, rfl, tst rfl (decide_eq_true h2), Ext.refl _, rfl⟩),
      fr_val rfl rfl M (fun i g h => h.2) (fun x w' M' hB hk => ⟨_, _, rfl, rfl, rfl, rfl, Ext.refl _, rfl⟩),
      fr_val rfl rfl M (fun i g h => h.2) (fun x w' M' hB hk => ⟨_, _, rfl, rfl, rfl, run_move rfl rfl, Ext.refl _, rfl⟩),
      fr_val rfl rfl M (fun i g h => h.2) (fun x w' M' hB hk => ⟨_, _, rfl, rfl, rfl, run_loadAll rfl rfl T.agg29 (M'.row (i := 0) rfl) (Rec.size (getX_ok q)), Ext.refl _, rfl⟩),
      fr_ext rfl rfl M (fun i g h => h.2) (fun x w' M' hB hk => ⟨_, _, rfl, rfl, rfl, run_call rfl rfl T.fn62, (at_x (getX_ok q) _).ext⟩),
      fr_val rfl rfl M (fun i g h => h.2) (fun x w' M' hB hk => ⟨_, _, rfl, rfl, rfl, run_move rfl rfl, Ext.refl _, rfl⟩),
      fr_val rfl rfl M (fun i g h => h.2) (fun x w' M' hB hk => ⟨_, _, rfl, rfl, rfl, tst rfl (decide_eq_true h3), Ext.refl _, rfl⟩),
      fr_val rfl rfl M (fun i g h => h.2) (fun x w' M' hB hk => ⟨_, _, rfl, rfl, rfl, rfl, Ext.refl _, rfl⟩),
      fr_set rfl rfl M (fun x w' M' H' hB hk => ⟨rfl, rfl, rfl, run_storeAll (vs := (getX q).1.cells.toArray) rfl rfl rfl T.size29 (Rec.size (getX_ok q)) (H'.ent 0 rfl) rfl (fun v hv => Rec.ones _ v hv)⟩),
      fr_val rfl rfl M (fun i g h => h.2) (fun x w' M' hB hk => ⟨_, _, rfl, rfl, rfl, run_assign rfl rfl, Ext.refl _, rfl⟩), trivial⟩ ?_)
  · exact one_okW rfl ((allY_ex (allY_ex (allY_ex (allY_ex (allY_ex (allY_ex (allY_ex (allY_ex (allY_ex (allY_ex (allY_ex (allY_ex (allY_ex (allY_ex (allY_ex (allY_ex (allY_in rfl LastsR.came1 (allY_ex allY_nil)))))))))))))))))))
  intro x fr w ⟨b, hb, hI⟩ hk E
  obtain ⟨u, hy, -, M⟩ := M.behind (val := fun _ : Unit => undef) (outs := fun _ => [.blk g0 (.cells (getX q).1.cells.toArray 29)]) (p := fun _ => True) hI (hk 16 (by decide))
  refine then_normal ?_
  refine wp_ret ?_
  refine retC2 E rfl rfl rfl T.agg29 (M.row (i := 0) rfl) (Rec.size (getX_ok q)) ?_
  have M := M.pull 6 rfl
  have M := M.pull 6 rfl
  exact ⟨D2, rfl, Mem.fin (L := [dkE D2, nmE N] ++ _) M (List.sublist_append_left _ _) hD2⟩

theorem one_x {D : DV} {N : NV} {g j : Nat} {A : AD} {w0 : World} (H : Has w0 [dkE D, nmE N]) (hD : D.is g A) (hkz : N.ks.length ≤ 1099511627776) (hj : j < A.n) : Does Try.prog 64 [.pointer (some ⟨g, 0, none⟩), .iface 51 (.pointer (some ⟨N.gn, 0, none⟩)), .int .i64 (j : Int)] w0 [dkE D, nmE N] (fun _ : DV => .tuple #[(oneX A N.ks j).1.val, .bool (oneX A N.ks j).2]) (fun x => [dkE x, nmE N]) (fun x => x.is g (A.bump j)) := by
  have hl := hD.2.read_len j
  unfold oneX
  cases hg : sgetX N.ks 2 (j : Int) (A.read j) with
  | none =>
    have key : ∃ err : Int, err ≠ 0 ∧ ∀ (w : World) (c : Value), Bytes w c (A.read j) → Has w [nmE N] → Gives Try.prog 90 [.iface 51 (.pointer (some ⟨N.gn, 0, none⟩)), .int .i64 2, .int .i64 (j : Int), c] w (.tuple #[.agg #[.int .i64 0, .int .i64 0, .int .i64 0, .int .i64 0, .slice none 0 0], .int .i64 err]) := sGet_err hkz hg
    obtain ⟨err, he0, he1⟩ := key
    exact one_no H hD hkz hj hl err he0 he1
  | some x =>
    obtain ⟨e, n, q⟩ := x
    have hq : q.length ≤ 35184372088832 := by have := sgetX_len hg; omega
    simp only
    by_cases h1 : (getX q).2 = 0
    · by_cases h2 : (getX q).1.epoch = e
      · by_cases h3 : 1 + (getX q).1.gen.tmod 2 = (j : Int)
        · rw [decide_eq_true (⟨h1, h2, h3⟩ : (getX q).2 = 0 ∧ _ ∧ _)]; exact one_d H hD hkz hj hl hg hq h1 h2 h3
        · rw [decide_eq_false (fun c => h3 c.2.2)]; exact one_c H hD hkz hj hl hg hq h1 h2 h3
      · rw [decide_eq_false (fun c => h2 c.2.1)]; exact one_b H hD hkz hj hl hg hq h1 h2
    · rw [decide_eq_false (fun c => h1 c.1)]; exact one_a H hD hkz hj hl hg hq h1

set_option maxRecDepth 100000 in
theorem All_x {D : DV} {N : NV} {g : Nat} {A : AD} {w0 : World} (H : Has w0 [dkE D, nmE N]) (hD : D.is g A) (hkz : N.ks.length ≤ 1099511627776) (hn : 2 < A.n)  : Does Try.prog 27 [.pointer (some ⟨g, 0, none⟩), .iface 51 (.pointer (some ⟨N.gn, 0, none⟩))] w0 [dkE D, nmE N] (fun x : Value × DV => x.1) (fun x => [.recs 29 x.1 (allL A N.ks 2), dkE x.2, nmE N]) (fun x => x.2.is g (bumps A 2)) := by
  refine enter (n := 30) Try.func27 rfl rfl rfl ?_
  intro fr E
  have M : Mem w0 (feet [dkE D, nmE N]) [dkE D, nmE N] (fun _ => True) w0 := Mem.begin H (fun _ _ => trivial)
  refine code_region ?_
  refine sv (v := _) E rfl rfl rfl rfl rfl (run_assignC rfl) fun fr E => ?_
  refine seq_nil' ?_
  refine code_region ?_
  refine sv (v := _) E rfl rfl rfl rfl rfl (run_assignC rfl) fun fr E => ?_
  refine seq_nil' ?_
  refine wp_seq ?_
  refine code_region ?_
  refine srow (sz := 1) (xs := [.int .i64 1, .int .i64 2]) E M rfl rfl rfl rfl rfl (run_buildSliceA (us := [_, _]) (vs := [_, _]) rfl rfl rfl T.slice58 T.size3 T.zl3 rfl rfl rfl rfl rfl) (rfl) (Nat.le_refl _) (by decide) (rfl) fun is fr w M E => ?_
  refine sv (v := .int .i64 _) E rfl rfl rfl rfl rfl (run_lenR rfl rfl rfl rfl T.slice58 (M.reads 0 rfl)) fun fr E => ?_
  refine sv (v := _) E rfl rfl rfl rfl rfl (run_moveC rfl) fun fr E => ?_
  refine seq_nil' ?_
  refine wp_block ?_
  refine loop_dec (fun d fr w => ∃ (i : Nat) (v is : Value) (D' : DV), d = 2 - i ∧ i ≤ 2 ∧ D'.is g (bumps A i) ∧ Env [(12, .int .i64 i), (11, .int .i64 2), (10, is), (5, v), (1, .iface 51 (.pointer (some ⟨N.gn, 0, none⟩))), (0, .pointer (some ⟨g, 0, none⟩))] 30 fr ∧ Mem w0 (feet [dkE D, nmE N]) [.recs 29 v (allL A N.ks i), .row 3 1 is 2 [.int .i64 1, .int .i64 2], dkE D', nmE N] (fun _ => True) w) (2) ?_ ?_
  · have M := M.nilRecs 29
    refine ⟨0, _, _, D, rfl, by decide, hD, ((((((Env.nil E).add E (t := 0) rfl).add E (t := 1) rfl).add E (t := 5) rfl).add E (t := 10) rfl).add E (t := 11) rfl).add E (t := 12) rfl, M⟩
  · clear E M
    rintro d fr w ⟨i, v, is, D', rfl, hle, hD', E, M⟩
    by_cases hi : i < 2
    · have hj : i + 1 < (bumps A i).n := by rw [bumps_n]; omega
      cases hb : (oneX (bumps A i) N.ks (i + 1)).2
      · refine code_region ?_
        refine sv (v := .bool true) E rfl rfl rfl rfl rfl (tst rfl (decide_eq_true (by omega))) fun fr E => ?_
        refine seq_nil' ?_
        refine wp_seq ?_
        refine cond_true E rfl (rfl) ?_
        refine wp_skip ?_
        refine then_normal ?_
        refine wp_seq ?_
        refine wp_block ?_
        refine code_region ?_
        refine sv (v := _) E rfl rfl rfl rfl rfl (run_indexR (i := i) rfl (M.reads 1 rfl) rfl rfl (rfl) (hi) T.slice58 T.size3) fun fr E => ?_
        refine sv (v := .int .i64 ((i + 1 : Nat) : Int)) E rfl rfl rfl rfl rfl (run_loadR rfl (M.reads 1 rfl) rfl T.one3 (by rw [Nat.mul_one]; exact is_get hi)) fun fr E => ?_
        refine sv (v := _) E rfl rfl rfl rfl rfl (run_assign rfl rfl) fun fr E => ?_
        refine seq_nil' ?_
        refine code_region ?_
        refine sv (v := _) E rfl rfl rfl rfl rfl (run_move rfl rfl) fun fr E => ?_
        refine sv (v := _) E rfl rfl rfl rfl rfl (run_move rfl rfl) fun fr E => ?_
        refine sv (v := _) E rfl rfl rfl rfl rfl (run_move rfl rfl) fun fr E => ?_
        have M := M.pull 3 rfl
        have M := M.pull 3 rfl
        refine scallI ([dkE D', nmE N]) E M rfl rfl rfl rfl rfl (run_call rfl rfl T.fn64) rfl (fun H => one_x H hD' hkz hj) ?_
        rintro D2 fr w hD2 M E
        rw [hb] at E
        refine sv (v := _) E rfl rfl rfl rfl rfl (run_move rfl rfl) fun fr E => ?_
        refine sv (v := (oneX (bumps A i) N.ks (i + 1)).1.val) E rfl rfl rfl rfl rfl (run_extract rfl rfl rfl) fun fr E => ?_
        refine sv (v := _) E rfl rfl rfl rfl rfl (run_extract rfl rfl rfl) fun fr E => ?_
        refine snew (ob := .cells _ 29) (fun g => .pointer (some ⟨g, 0, none⟩)) E M rfl rfl rfl rfl rfl (run_allocN rfl T.zero29) fun g0 fr w M E => ?_
        refine sset (i := 0) (cs' := (oneX (bumps A i) N.ks (i + 1)).1.cells.toArray) E M rfl rfl rfl rfl rfl (run_storeAll (vs := (oneX (bumps A i) N.ks (i + 1)).1.cells.toArray) rfl rfl rfl T.size29 (Rec.size (oneX_ok _ _ _)) (M.row (i := 0) rfl) rfl (fun v hv => Rec.ones _ v hv)) rfl fun fr w M E => ?_
        refine sv (v := _) E rfl rfl rfl rfl rfl (run_assign rfl rfl) fun fr E => ?_
        refine seq_nil' ?_
        refine code_region ?_
        refine sv (v := _) E rfl rfl rfl rfl rfl (run_move rfl rfl) fun fr E => ?_
        refine seq_nil' ?_
        refine cond_false E rfl (rfl) ?_
        refine wp_skip ?_
        refine block_normal ?_
        refine then_normal ?_
        refine code_last ?_
        refine sv (v := .int _ (((i + 1 : Nat) : Int))) E rfl rfl rfl rfl rfl (num rfl ((i64_id (by omega) (by omega)).trans (by omega))) fun fr E => ?_
        refine sv (v := _) E rfl rfl rfl rfl rfl (run_move rfl rfl) fun fr E => ?_
        refine seq_nil ?_
        refine then_any ?_
        have M := M.pull 2 rfl
        have M := M.pull 2 rfl
        have M := M.pull 4 rfl
        have M := M.pull 4 rfl
        refine ⟨2 - (i + 1), by omega, i + 1, _, _, D2, rfl, by omega, by rw [bumps]; exact hD2, ((((((Env.nil E).add E (t := 0) rfl).add E (t := 1) rfl).add E (t := 5) rfl).add E (t := 10) rfl).add E (t := 11) rfl).add E (t := 12) rfl, Mem.take (L := [.recs 29 _ (allL A N.ks (i + 1)), .row 3 1 _ 2 [.int .i64 1, .int .i64 2], dkE D2, nmE N]) (M.as (by rw [allL_no (by simpa using hb)]; rfl))⟩
      · refine code_region ?_
        refine sv (v := .bool true) E rfl rfl rfl rfl rfl (tst rfl (decide_eq_true (by omega))) fun fr E => ?_
        refine seq_nil' ?_
        refine wp_seq ?_
        refine cond_true E rfl (rfl) ?_
        refine wp_skip ?_
        refine then_normal ?_
        refine wp_seq ?_
        refine wp_block ?_
        refine code_region ?_
        refine sv (v := _) E rfl rfl rfl rfl rfl (run_indexR (i := i) rfl (M.reads 1 rfl) rfl rfl (rfl) (hi) T.slice58 T.size3) fun fr E => ?_
        refine sv (v := .int .i64 ((i + 1 : Nat) : Int)) E rfl rfl rfl rfl rfl (run_loadR rfl (M.reads 1 rfl) rfl T.one3 (by rw [Nat.mul_one]; exact is_get hi)) fun fr E => ?_
        refine sv (v := _) E rfl rfl rfl rfl rfl (run_assign rfl rfl) fun fr E => ?_
        refine seq_nil' ?_
        refine code_region ?_
        refine sv (v := _) E rfl rfl rfl rfl rfl (run_move rfl rfl) fun fr E => ?_
        refine sv (v := _) E rfl rfl rfl rfl rfl (run_move rfl rfl) fun fr E => ?_
        refine sv (v := _) E rfl rfl rfl rfl rfl (run_move rfl rfl) fun fr E => ?_
        have M := M.pull 3 rfl
        have M := M.pull 3 rfl
        refine scallI ([dkE D', nmE N]) E M rfl rfl rfl rfl rfl (run_call rfl rfl T.fn64) rfl (fun H => one_x H hD' hkz hj) ?_
        rintro D2 fr w hD2 M E
        rw [hb] at E
        refine sv (v := _) E rfl rfl rfl rfl rfl (run_move rfl rfl) fun fr E => ?_
        refine sv (v := (oneX (bumps A i) N.ks (i + 1)).1.val) E rfl rfl rfl rfl rfl (run_extract rfl rfl rfl) fun fr E => ?_
        refine sv (v := _) E rfl rfl rfl rfl rfl (run_extract rfl rfl rfl) fun fr E => ?_
        refine snew (ob := .cells _ 29) (fun g => .pointer (some ⟨g, 0, none⟩)) E M rfl rfl rfl rfl rfl (run_allocN rfl T.zero29) fun g1 fr w M E => ?_
        refine sset (i := 0) (cs' := (oneX (bumps A i) N.ks (i + 1)).1.cells.toArray) E M rfl rfl rfl rfl rfl (run_storeAll (vs := (oneX (bumps A i) N.ks (i + 1)).1.cells.toArray) rfl rfl rfl T.size29 (Rec.size (oneX_ok _ _ _)) (M.row (i := 0) rfl) rfl (fun v hv => Rec.ones _ v hv)) rfl fun fr w M E => ?_
        refine sv (v := _) E rfl rfl rfl rfl rfl (run_assign rfl rfl) fun fr E => ?_
        refine seq_nil' ?_
        refine code_region ?_
        refine sv (v := _) E rfl rfl rfl rfl rfl (run_move rfl rfl) fun fr E => ?_
        refine seq_nil' ?_
        refine cond_true E rfl (rfl) ?_
        refine code_last ?_
        refine sv (v := _) E rfl rfl rfl rfl rfl (run_move rfl rfl) fun fr E => ?_
        refine sv (v := .agg (oneX (bumps A i) N.ks (i + 1)).1.cells.toArray) E rfl rfl rfl rfl rfl (run_loadAll rfl rfl T.agg29 (M.row (i := 0) rfl) (Rec.size (oneX_ok _ _ _))) fun fr E => ?_
        refine srow (sz := 136) (xs := (oneX (bumps A i) N.ks (i + 1)).1.cells) E M rfl rfl rfl rfl rfl (run_buildSliceA (us := (oneX (bumps A i) N.ks (i + 1)).1.cells) (vs := [.agg (oneX (bumps A i) N.ks (i + 1)).1.cells.toArray]) rfl rfl rfl T.slice42 T.size29 T.zl29 rfl (by simp [Value.cells, Rec.len (oneX_ok (bumps A i) N.ks (i + 1))]) rfl rfl (by simp [Value.cells])) (by simp [Rec.len (oneX_ok (bumps A i) N.ks (i + 1))]) (Nat.le_refl _) (by decide) (by simp [List.take_of_length_le, Rec.len (oneX_ok (bumps A i) N.ks (i + 1))]) fun one fr w M E => ?_
        refine sappRec (i := 4) (xs := allL A N.ks i) (news := [(oneX (bumps A i) N.ks (i + 1)).1]) E M rfl rfl rfl rfl rfl rfl rfl rfl rfl rfl rfl T.slice42 T.slice42 T.zt29 T.by29 (recs1 (M.reads 0 rfl)) (by have := allL_len A N.ks i; simp; omega) fun v fr w M E => ?_
        refine sv (v := _) E rfl rfl rfl rfl rfl (run_assign rfl rfl) fun fr E => ?_
        refine seq_nil ?_
        refine block_normal ?_
        refine then_normal ?_
        refine code_last ?_
        refine sv (v := .int _ (((i + 1 : Nat) : Int))) E rfl rfl rfl rfl rfl (num rfl ((i64_id (by omega) (by omega)).trans (by omega))) fun fr E => ?_
        refine sv (v := _) E rfl rfl rfl rfl rfl (run_move rfl rfl) fun fr E => ?_
        refine seq_nil ?_
        refine then_any ?_
        have M := M.pull 3 rfl
        have M := M.pull 3 rfl
        have M := M.pull 5 rfl
        have M := M.pull 5 rfl
        refine ⟨2 - (i + 1), by omega, i + 1, _, _, D2, rfl, by omega, by rw [bumps]; exact hD2, ((((((Env.nil E).add E (t := 0) rfl).add E (t := 1) rfl).add E (t := 5) rfl).add E (t := 10) rfl).add E (t := 11) rfl).add E (t := 12) rfl, Mem.take (L := [.recs 29 _ (allL A N.ks (i + 1)), .row 3 1 _ 2 [.int .i64 1, .int .i64 2], dkE D2, nmE N]) (M.as (by rw [allL_yes (by simpa using hb)]; rfl))⟩
    · obtain rfl : i = 2 := by omega
      refine code_region ?_
      refine sv (v := .bool false) E rfl rfl rfl rfl rfl (tst rfl (rfl)) fun fr E => ?_
      refine seq_nil' ?_
      refine wp_seq ?_
      refine cond_false E rfl (rfl) ?_
      refine wp_exit ?_
      refine then_exit ?_
      refine then_exit ?_
      refine block_exit ?_
      refine then_normal ?_
      refine code_region ?_
      refine sv (v := _) E rfl rfl rfl rfl rfl (run_move rfl rfl) fun fr E => ?_
      refine sv (v := _) E rfl rfl rfl rfl rfl (run_assign rfl rfl) fun fr E => ?_
      refine seq_nil' ?_
      refine wp_ret ?_
      refine ret1 E rfl rfl ?_
      have M := M.pull 3 rfl
      have M := M.pull 3 rfl
      have M := M.pull 2 rfl
      exact ⟨(v, D'), rfl, Mem.fin (L := [.recs 29 v (allL A N.ks 2), dkE D', nmE N] ++ _) M (List.sublist_append_left _ _) hD'⟩

theorem rWrite_y {D : DV} {N : NV} {g : Nat} {A : AD} {r : Rec} {num : Int} {w0 : World} (H : Has w0 [dkE D, nmE N]) (hD : D.is g A) (hr : r.Ok) (hkz : N.ks.length ≤ 1099511627776) {a : Nat} (ha : N.gn = a) : Does Try.prog 26 [.pointer (some ⟨g, 0, none⟩), .iface 51 (.pointer (some ⟨a, 0, none⟩)), r.val, .int .i64 num] w0 [dkE D, nmE N] (fun _ : DV × NV => .int .i64 (regW A N.ks r num).1) (fun x => [dkE x.1, nmE x.2]) (fun x => x.1.is g (regW A N.ks r num).2.1 ∧ x.2.gn = a ∧ x.2.ks = (regW A N.ks r num).2.2 ∧ x.2.ts = N.ts) := by
  subst ha
  exact rWrite_x H hD hr hkz
theorem All_y {D : DV} {N : NV} {g : Nat} {A : AD} {w0 : World} (H : Has w0 [dkE D, nmE N]) (hD : D.is g A) (hkz : N.ks.length ≤ 1099511627776) (hn : 2 < A.n) {a : Nat} (ha : N.gn = a) : Does Try.prog 27 [.pointer (some ⟨g, 0, none⟩), .iface 51 (.pointer (some ⟨a, 0, none⟩))] w0 [dkE D, nmE N] (fun x : Value × DV => x.1) (fun x => [.recs 29 x.1 (allL A N.ks 2), dkE x.2, nmE N]) (fun x => x.2.is g (bumps A 2)) := by
  subst ha
  exact All_x H hD hkz hn
end Go.Proofs.Ytnojooafgehhaaa.K
end
section
namespace Go.Proofs.Ytnojooafgehhaaa.K
open Go.RowKit Go.Rill Go.Proofs
set_option linter.unusedVariables false
set_option linter.unusedSimpArgs false
theorem rNext_app {n : Nat} {a b : List UInt8} (h : a.length = n) : rNext n (a ++ b, false) = (b, false) := by
  subst h
  unfold rNext
  rw [if_neg (by simp)]
  simp
theorem rInt_app {v : Int} {b : List UInt8} (h0 : -9223372036854775808 ≤ v) (h1 : v ≤ 9223372036854775807) : rInt (be8 v ++ b, false) = v := by
  unfold rInt
  rw [if_neg (by simp [be8_len])]
  simp only
  rw [List.take_left' (be8_len v), num64_be8 v h0 h1]
theorem rSum_app {s b : List UInt8} (h : s.length = 32) : rSum (s ++ b, false) = s := by
  unfold rSum
  rw [if_neg (by simp [h])]
  exact List.take_left' h
theorem rRef_app {v : Int} {s b : List UInt8} (hs : s.length = 32) (h0 : -9223372036854775808 ≤ v) (h1 : v ≤ 9223372036854775807) : rRef (be8 v ++ (s ++ b), false) = (v, s) := by
  unfold rRef
  rw [if_neg (by simp [be8_len, hs]; omega)]
  simp only
  have e : (be8 v ++ (s ++ b)).take 40 = be8 v ++ s := by rw [← List.append_assoc]; exact List.take_left' (by simp [be8_len, hs])
  rw [e, List.take_left' (be8_len v), List.drop_left' (be8_len v), num64_be8 v h0 h1]
/-- A record's bytes, and others behind them, are read as it. -/
theorem read_of {r : Rec} (hr : r.Ok) (hm : r.May) (x : List UInt8) : rst (r.bytes ++ x) 11 = (x, false) ∧ Rec.read (r.bytes ++ x) = r := by
  obtain ⟨⟨h1, h2, h3⟩, h4, ⟨h5, h6⟩, ⟨h7, h8⟩⟩ := hm
  have h1 : 1 ≤ r.gen ∧ r.gen ≤ 1099511627776 := h1
  have h2 : 1 ≤ r.stamp ∧ r.stamp ≤ 1099511627776 := h2
  have h3 : 1 ≤ r.epoch ∧ r.epoch ≤ 1099511627776 := h3
  have h9 : 0 ≤ r.rat ∧ r.rat ≤ 4095 := by rcases h4 with h4 | h4 <;> omega
  obtain ⟨T1, t1⟩ : ∃ T, T = be8 r.stamp ++ (be8 r.epoch ++ (r.super ++ (be8 r.rat ++ (r.rsum ++ (be8 r.bseg ++ (be8 r.bslot ++ (be8 r.tseg ++ (be8 r.tslot ++ (r.bsum ++ (r.tsum ++ x)))))))))) := ⟨_, rfl⟩
  have e0 : rst (r.bytes ++ x) 0 = (be8 r.gen ++ T1, false) := by subst t1; show (r.bytes ++ x, false) = _; simp only [Rec.bytes, List.append_assoc]
  have e1 : rst (r.bytes ++ x) 1 = (T1, false) := (congrArg (rNext 8) e0).trans (rNext_app (be8_len _))
  rw [t1] at e1
  have e2 := (congrArg (rNext 8) e1).trans (rNext_app (be8_len _))
  have e3 := (congrArg (rNext 8) e2).trans (rNext_app (be8_len _))
  have e4 := (congrArg (rNext 32) e3).trans (rNext_app hr.super)
  have e5 : rNext 40 _ = _ := (congrArg (rNext 40) e4).trans ((congrArg (fun l => rNext 40 (l, false)) (List.append_assoc _ _ _).symm).trans (rNext_app (by simp [be8_len, hr.rsum])))
  have e6 := (congrArg (rNext 8) e5).trans (rNext_app (be8_len _))
  have e7 := (congrArg (rNext 8) e6).trans (rNext_app (be8_len _))
  have e8 := (congrArg (rNext 8) e7).trans (rNext_app (be8_len _))
  have e9 := (congrArg (rNext 8) e8).trans (rNext_app (be8_len _))
  have e10 := (congrArg (rNext 32) e9).trans (rNext_app hr.bsum)
  have e11 := (congrArg (rNext 32) e10).trans (rNext_app hr.tsum)
  refine ⟨e11, ?_⟩
  have a0 : rInt (rst (r.bytes ++ x) 0) = r.gen := (congrArg rInt e0).trans (rInt_app (by omega) (by omega))
  have a1 : rInt (rst (r.bytes ++ x) 1) = r.stamp := (congrArg rInt e1).trans (rInt_app (by omega) (by omega))
  have a2 : rInt (rst (r.bytes ++ x) 2) = r.epoch := (congrArg rInt e2).trans (rInt_app (by omega) (by omega))
  have a3 : rSum (rst (r.bytes ++ x) 3) = r.super := (congrArg rSum e3).trans (rSum_app hr.super)
  have a4 : rRef (rst (r.bytes ++ x) 4) = (r.rat, r.rsum) := (congrArg rRef e4).trans (rRef_app hr.rsum (by omega) (by omega))
  have a5 : rInt (rst (r.bytes ++ x) 5) = r.bseg := (congrArg rInt e5).trans (rInt_app (by omega) (by omega))
  have a6 : rInt (rst (r.bytes ++ x) 6) = r.bslot := (congrArg rInt e6).trans (rInt_app (by omega) (by omega))
  have a7 : rInt (rst (r.bytes ++ x) 7) = r.tseg := (congrArg rInt e7).trans (rInt_app (by omega) (by omega))
  have a8 : rInt (rst (r.bytes ++ x) 8) = r.tslot := (congrArg rInt e8).trans (rInt_app (by omega) (by omega))
  have a9 : rSum (rst (r.bytes ++ x) 9) = r.bsum := (congrArg rSum e9).trans (rSum_app hr.bsum)
  have a10 : rSum (rst (r.bytes ++ x) 10) = r.tsum := (congrArg rSum e10).trans (rSum_app hr.tsum)
  obtain ⟨b0, b1, b2, b3, b4, b5, b6, b7, b8, b9, b10, b11⟩ := r
  simp only at a0 a1 a2 a3 a4 a5 a6 a7 a8 a9 a10
  simp only [Rec.read, Rec.r10, Rec.r9, Rec.r7, Rec.r5, a0, a1, a2, a3, a4, a5, a6, a7, a8, a9, a10]
theorem getX_of {r : Rec} (hr : r.Ok) (hm : r.May) : getX r.bytes = (r, 0) := by
  obtain ⟨h1, h2⟩ := read_of hr hm []
  rw [List.append_nil] at h1 h2
  unfold getX
  rw [h1, h2, if_neg (by simp [rEnd]), if_pos hm]
theorem bump_read (A : AD) (i j : Nat) : (A.bump i).read j = A.read j := rfl
theorem bumps_read (A : AD) (j : Nat) : ∀ i, (bumps A i).read j = A.read j
  | 0 => rfl
  | i + 1 => (bump_read _ _ _).trans (bumps_read A j i)
theorem one_bumps (A : AD) (ks : List NKey) (i j : Nat) : oneX (bumps A i) ks j = oneX A ks j := by
  unfold oneX
  rw [bumps_read]
/-! ### What is sealed is opened -/
theorem kind_first {kd : Int} (h : 1 ≤ kd ∧ kd ≤ 5) : ((UInt8.ofInt kd).toNat : Int) = kd := by
  rw [ofInt_toNat]
  show kd % 256 = kd
  omega
theorem sectB_len (ks : List NKey) (kd e n at' : Int) (pl : List UInt8) : (sectB ks kd e n at' pl).length = 17 + (sealB ks e n (hdB kd at') pl).length := by
  simp [sectB, be8_len]
  omega
theorem sget_of {ks ks' : List NKey} {kd e n at' : Int} {pl : List UInt8} {m : Nat} (h1 : 1 ≤ kd ∧ kd ≤ 5) (h3 : SRight e n at') (h4 : pl.length ≤ 975) (hk : nat' (⟨e, n, hdB kd at', pl⟩ : NKey) ks' 0 = some m) (hm : sealNo ks ⟨e, n, hdB kd at', pl⟩ = m + 1) : sgetX ks' kd at' (sectB ks kd e n at' pl) = some (e, n, pl) := by
  have hin : inNum e ∧ inNum n := ⟨⟨h3.1.1, h3.2.1.1⟩, ⟨h3.1.2.1, h3.2.1.2⟩⟩
  have hs : sealB ks e n (hdB kd at') pl = pl ++ tagOf (m + 1) := by unfold sealB; rw [if_pos hin, hm]
  have ht : (tagOf (m + 1)).length = 32 := by simp [tagOf, be8_len]
  have hlen : (sectB ks kd e n at' pl).length = 17 + (pl.length + 32) := by rw [sectB_len, hs, List.length_append, ht]
  have hd17 : (sectB ks kd e n at' pl).drop 17 = pl ++ tagOf (m + 1) := by
    rw [← hs]
    unfold sectB
    exact List.drop_left' (by simp [be8_len])
  have h16 : ((sectB ks kd e n at' pl).drop 1).take 16 = be8 e ++ be8 n := by
    show ((be8 e ++ be8 n) ++ sealB ks e n (hdB kd at') pl).take 16 = be8 e ++ be8 n
    exact List.take_left' (by simp [be8_len])
  have hE : secE (sectB ks kd e n at' pl) = e := by
    unfold secE
    rw [h16]
    exact rInt_app (by have := h3.1.1; omega) (by have := h3.2.1.1; omega)
  have hN : secN (sectB ks kd e n at' pl) = n := by
    unfold secN
    rw [h16, rNext_app (be8_len _)]
    have := rInt_app (v := n) (b := []) (by have := h3.1.2.1; omega) (by have := h3.2.1.2; omega)
    rwa [List.append_nil] at this
  have h0 : ((sectB ks kd e n at' pl)[0]'(by omega)) = UInt8.ofInt kd := by simp [sectB]
  have hK : kindOf (sectB ks kd e n at' pl) = kd := by
    have := kind_first h1
    unfold kindOf
    rw [dif_pos (by omega)]
    simp only [h0]
    rw [if_neg (by omega), if_neg (by omega)]
    exact this
  unfold sgetX
  rw [if_pos ⟨by omega, by omega, by omega, hK, by rw [hE, hN]; exact h3⟩, hE, hN, hd17]
  unfold openN
  have e1 : (pl ++ tagOf (m + 1)).length - 32 = pl.length := by rw [List.length_append, ht]; omega
  rw [if_neg (by rw [List.length_append, ht]; omega), e1, List.take_left' rfl, hk]
  simp only
  rw [List.drop_left' rfl, if_pos rfl]
  rfl
theorem at_of {r : Rec} (hm : r.May) : 1 + r.gen.tmod 2 = 1 ∨ 1 + r.gen.tmod 2 = 2 := by
  have h : 1 ≤ r.gen := hm.1.1.1
  have h1 := Int.tmod_lt_of_pos r.gen (show (0 : Int) < 2 by decide)
  have h2 := Int.tmod_nonneg (2 : Int) (show (0 : Int) ≤ r.gen by omega)
  omega
theorem right_of {r : Rec} (hm : r.May) {num : Int} (h0 : 0 ≤ num) (h1 : num ≤ 1099511627776) : SRight r.epoch num (1 + r.gen.tmod 2) := by
  have h : 1 ≤ r.epoch ∧ r.epoch ≤ 1099511627776 := hm.1.2.2
  have := at_of hm
  exact ⟨⟨by omega, h0, by omega⟩, ⟨h.2, h1⟩, by omega⟩
theorem nat_app {K : Type} [DecidableEq K] {k : K} {r : List K} : ∀ {ks : List K} {i m : Nat}, nat' k ks i = some m → nat' k (ks ++ r) i = some m
  | [], _, _, h => by cases h
  | q :: ks, i, m, h => by
    unfold nat' at h
    rw [List.cons_append]
    unfold nat'
    split
    · rename_i e
      rwa [if_pos e] at h
    · rename_i e
      rw [if_neg e] at h
      exact nat_app h
theorem nat_last {K : Type} [DecidableEq K] {k : K} : ∀ {ks : List K} {i : Nat}, k ∉ ks → nat' k (ks ++ [k]) i = some (i + ks.length)
  | [], i, _ => by simp [nat']
  | q :: ks, i, h => by
    rw [List.cons_append]
    unfold nat'
    rw [if_neg (fun e : k = q => h (e ▸ List.mem_cons_self ..)), nat_last fun hm => h (List.mem_cons_of_mem _ hm)]
    simp
    omega
/-- Behind a seal its key is where its number says. -/
theorem seal_at (ks : List NKey) (k : NKey) : ∃ m, nat' k (sealKs ks k) 0 = some m ∧ sealNo ks k = m + 1 := by
  by_cases h : k ∈ ks
  · obtain ⟨m, hm⟩ := nat_mem h
    exact ⟨m, by unfold sealKs; rw [if_pos h]; exact hm, by unfold sealNo; rw [hm]⟩
  · exact ⟨ks.length, by unfold sealKs; rw [if_neg h, nat_last h, Nat.zero_add], by unfold sealNo; rw [nat_none h]⟩
theorem sealKs_app (ks : List NKey) (k : NKey) : ∃ r, sealKs ks k = ks ++ r := by
  unfold sealKs
  split
  · exact ⟨[], by simp⟩
  · exact ⟨[k], rfl⟩
theorem sealKs_len (ks : List NKey) (k : NKey) : (sealKs ks k).length ≤ ks.length + 1 := by
  unfold sealKs
  split <;> simp
/-- A sector is written. -/
def AD.put (A : AD) (i : Int) (l : List UInt8) : AD := { A with left := w64 (A.left - 1), cache := aput i l A.cache, writes := w64 (A.writes + 1) }
theorem aget_put (i k : Int) (l : List UInt8) : ∀ c : List (Int × List UInt8), aget (aput i l c) k = if k = i then some l else aget c k
  | [] => by
    show aget [(i, l)] k = _
    rw [aget_cons]
  | p :: r => by
    have ih := aget_put i k l r
    unfold aput
    by_cases h : i = p.1
    · rw [if_pos h, aget_cons, aget_cons]
      by_cases h2 : k = i
      · rw [if_pos h2, if_pos h2]
      · rw [if_neg h2, if_neg h2, if_neg (fun e => h2 (e.trans h.symm))]
    · rw [if_neg h, aget_cons, aget_cons, ih]
      by_cases h2 : k = p.1
      · rw [if_pos h2, if_pos h2, if_neg (fun e => h (e.symm.trans h2))]
      · rw [if_neg h2, if_neg h2]
theorem put_read (A : AD) (i : Int) (l : List UInt8) (j : Nat) : (A.put i l).read j = if (j : Int) = i then l else A.read j := by
  unfold AD.read
  have e : aget (A.put i l).cache (j : Int) = if (j : Int) = i then some l else aget A.cache (j : Int) := aget_put i j l A.cache
  rw [e]
  by_cases h : (j : Int) = i
  · rw [if_pos h, if_pos h]
  · rw [if_neg h, if_neg h]
    rfl
abbrev _root_.Go.Rill.Rec.at' (r : Rec) : Int := 1 + r.gen.tmod 2
abbrev _root_.Go.Rill.Rec.key (r : Rec) (num : Int) : NKey := ⟨r.epoch, num, hdB 2 r.at', r.bytes⟩
theorem regW_ok {A : AD} {ks : List NKey} {r : Rec} (hr : r.Ok) (hm : r.May) {num : Int} (h0 : 0 ≤ num) (h1 : num ≤ 1099511627776) (ho : A.off = false) (ha : A.armed = false) (hn : 2 < A.n) :
    regW A ks r num = (0, A.put r.at' (sectB ks 2 r.epoch num r.at' r.bytes), sealKs ks (r.key num)) := by
  have hs := right_of hm h0 h1
  have hw : A.write r.at' (sectB ks 2 r.epoch num r.at' r.bytes) = (0, A.put r.at' (sectB ks 2 r.epoch num r.at' r.bytes)) := by
    have hl := sealB_len ks r.epoch num (hdB 2 r.at') r.bytes
    have hb := Rec.bytes_len hr
    have hat := at_of hm
    unfold AD.write
    rw [if_neg (by rw [ho]; decide), if_neg (by
      simp only [Decidable.not_not]
      show 0 ≤ 1 + r.gen.tmod 2 ∧ 1 + r.gen.tmod 2 < (A.n : Int)
      omega), if_neg (by rw [sectB_len]; omega), if_neg (by rw [ha]; simp)]
    rfl
  have hin : inNum r.epoch ∧ inNum num := ⟨⟨hs.1.1, hs.2.1.1⟩, ⟨h0, h1⟩⟩
  unfold regW
  rw [if_pos ⟨hm, hs⟩, hw]
  unfold sealS
  rw [if_pos hin]
/-- .. and told. -/
theorem one_at {A : AD} {ks ks' : List NKey} {r : Rec} {num : Int} {j m : Nat} (hr : r.Ok) (hm : r.May) (h0 : 0 ≤ num) (h1 : num ≤ 1099511627776) (hj : (j : Int) = r.at') (hrd : A.read j = sectB ks 2 r.epoch num r.at' r.bytes) (hk : nat' (r.key num) ks' 0 = some m) (hno : sealNo ks (r.key num) = m + 1) : oneX A ks' j = (r, true) := by
  have hg := sget_of (kd := 2) (by decide) (right_of hm h0 h1) (by rw [Rec.bytes_len hr]; decide) hk hno
  unfold oneX
  rw [hrd, hj, hg]
  simp only
  rw [getX_of hr hm]
  simp
end Go.Proofs.Ytnojooafgehhaaa.K
end
section
namespace Go.Rill.T
open Go.Proofs
theorem fn21 : goFn Try.prog 21 = true := by kernel_rfl
theorem fn24 : goFn Try.prog 24 = true := by kernel_rfl
theorem fn25 : goFn Try.prog 25 = true := by kernel_rfl
theorem fn26 : goFn Try.prog 26 = true := by kernel_rfl
theorem fn27 : goFn Try.prog 27 = true := by kernel_rfl
theorem fn31 : goFn Try.prog 31 = true := by kernel_rfl
abbrev tab15_10_b : List Nat := [0, 1, 3, 7, 15, 31, 63, 127, 255, 511, 1023, 2047, 4095, 8191, 16383, 32767, 65535, 131071, 262143, 524287, 1048575, 2097151, 4194303, 8388607, 2097151, 33554431, 67108863, 134217727, 268435455, 536870911, 1073741823, 2147483647, 2147483647, 8589934591, 17179869183, 34359738367]
abbrev tab15_10_i : List Nat := [0, 1, 2, 3, 4, 5, 6, 7, 8, 9, 10, 11, 12, 13, 14, 15, 16, 17, 18, 19, 20, 21, 22, 23, 24, 25, 26, 27, 28, 29, 30, 31, 32, 33, 34, 35]
theorem tab15_10 : tabOk (regOps Try.f15 10) tab15_10_b 77 = true := by kernel_rfl
end Go.Rill.T
end
section
namespace Go.Rill.T
open Go.Proofs
theorem fn57 : goFn Try.prog 57 = true := by kernel_rfl
theorem fn58 : goFn Try.prog 58 = true := by kernel_rfl
theorem fn59 : goFn Try.prog 59 = true := by kernel_rfl
theorem fn87 : goFn Try.prog 87 = true := by kernel_rfl
theorem zvrec : zeroOf Try.prog 29 = some Rec.zero.val := by kernel_rfl
end Go.Rill.T
end
section
namespace Go.Proofs.Ytnojooafgehhaaa.K
open Go.RowKit Go.Rill Go.Proofs
set_option linter.unusedVariables false
set_option linter.unusedSimpArgs false
/-- A record that is too late for a level. -/
def late (lv : Int) (r : Rec) : Bool := decide (lv + 1 < r.stamp)
def idxA (q : Rec → Bool) (l : List Rec) : Int := match l.findIdx? q with | some i => i | none => -1
theorem idxA_none {q : Rec → Bool} {l : List Rec} (h : ∀ j, ∀ hj : j < l.length, q l[j] = false) : idxA q l = -1 := by
  have : l.findIdx? q = none := by
    rw [List.findIdx?_eq_none_iff]
    intro x hx
    obtain ⟨j, hj, rfl⟩ := List.getElem_of_mem hx
    simp [h j hj]
  simp [idxA, this]
theorem idxA_some {q : Rec → Bool} {l : List Rec} {i : Nat} (hi : i < l.length) (h : q l[i] = true) (hno : ∀ j, j < i → ∀ hj : j < l.length, q l[j] = false) : idxA q l = (i : Int) := by
  have : l.findIdx? q = some i := by
    rw [List.findIdx?_eq_some_iff_getElem]
    exact ⟨hi, h, fun j hj => by simp [hno j hj (by omega)]⟩
  simp [idxA, this]
theorem first_late {lv : Int} {l : List Rec} (h : ¬ ∀ j, ∀ hj : j < l.length, late lv l[j] = false) : ∃ i, ∃ hi : i < l.length, late lv l[i] = true ∧ ∀ j, j < i → ∀ hj : j < l.length, late lv l[j] = false := by
  cases hf : l.findIdx? (late lv) with
  | none =>
    rw [List.findIdx?_eq_none_iff] at hf
    exact absurd (fun j hj => by simpa using hf _ (List.getElem_mem hj)) h
  | some i =>
    rw [List.findIdx?_eq_some_iff_getElem] at hf
    obtain ⟨hi, h1, h2⟩ := hf
    exact ⟨i, hi, h1, fun j hj hj2 => by simpa using h2 j hj⟩
theorem filter_all {lv : Int} {l : List Rec} (h : ∀ j, ∀ hj : j < l.length, late lv l[j] = false) : (l.filter fun r => !late lv r) = l := by
  rw [List.filter_eq_self]
  intro x hx
  obtain ⟨j, hj, rfl⟩ := List.getElem_of_mem hx
  simp [h j hj]
theorem filter_step {lv : Int} {l : List Rec} {j : Nat} (hj : j < l.length) : ((l.take (j + 1)).filter fun r => !late lv r) = ((l.take j).filter fun r => !late lv r) ++ (if late lv l[j] then [] else [l[j]]) := by
  rw [List.take_succ_eq_append_getElem hj, List.filter_append]
  cases h : late lv l[j] <;> simp [h]
theorem filter_late {lv : Int} {l : List Rec} {j : Nat} (hj : j < l.length) (h : late lv l[j] = true) : ((l.take (j + 1)).filter fun r => !late lv r) = ((l.take j).filter fun r => !late lv r) := by
  rw [filter_step hj, h]; simp
theorem first_step {lv : Int} {l : List Rec} {i : Nat} (hi : i < l.length) (h : late lv l[i] = true) (hno : ∀ j, j < i → ∀ hj : j < l.length, late lv l[j] = false) : l.take i = ((l.take (i + 1)).filter fun r => !late lv r) := by
  rw [filter_late hi h, filter_all]
  intro j hj
  rw [List.getElem_take]
  exact hno j (by simp at hj; omega) _
theorem drop_get {a b : List Rec} {j : Nat} (h : a.drop j = b.drop j) (ha : j < a.length) (hb : j < b.length) : a[j] = b[j] := by
  have := congrArg (fun l => l[0]?) h
  simpa [List.getElem?_drop, ha, hb] using this
theorem drop_step {a b : List Rec} {j : Nat} (h : a.drop j = b.drop j) : a.drop (j + 1) = b.drop (j + 1) := by
  have := congrArg (fun l => l.drop 1) h
  simpa [List.drop_drop] using this
theorem keep_drop {a b : List Rec} {j k : Nat} {r : Rec} (h : a.drop j = b.drop j) (hk : k < j) : (a.set k r).drop (j + 1) = b.drop (j + 1) := by
  rw [List.drop_set_of_lt (by omega)]
  exact drop_step h
theorem keep_step {lv : Int} {l cur : List Rec} {j k : Nat} (hk : k < cur.length) (h : cur.take k = ((l.take j).filter fun r => !late lv r)) (hj : j < l.length) (hq : late lv l[j] = false) : (cur.set k l[j]).take (k + 1) = ((l.take (j + 1)).filter fun r => !late lv r) := by
  rw [filter_step hj, hq, ← h, List.take_succ_eq_append_getElem (by simpa using hk), List.take_set_of_le (Nat.le_refl k), List.getElem_set_self]
  rfl
/-- The greatest stamp's, the first of these. -/
def pickR (b : Rec) (l : List Rec) : Rec := l.foldl (fun b r => if b.stamp < r.stamp then r else b) b
theorem pickR_ok {b : Rec} {l : List Rec} (hb : b.Ok) (hl : Oks l) : (pickR b l).Ok := by
  induction l generalizing b with
  | nil => exact hb
  | cons r l ih =>
    refine ih (b := if b.stamp < r.stamp then r else b) ?_ fun x hx => hl x (List.mem_cons_of_mem _ hx)
    split
    · exact hl r (List.mem_cons_self ..)
    · exact hb
theorem pickR_snoc (b : Rec) (l : List Rec) (r : Rec) : pickR b (l ++ [r]) = if (pickR b l).stamp < r.stamp then r else pickR b l := by
  unfold pickR
  rw [List.foldl_append]
  rfl
theorem pickR_step {b : Rec} {l : List Rec} {i : Nat} (hi : i < l.length) : pickR b (l.take (i + 1)) = if (pickR b (l.take i)).stamp < (l[i]).stamp then l[i] else pickR b (l.take i) := by
  rw [List.take_succ_eq_append_getElem hi, pickR_snoc]
def choice (lv : Int) (l : List Rec) : Option Rec := match l.filter fun r => !late lv r with | [] => none | r :: k => some (pickR r (r :: k))
theorem choice_some {lv : Int} {l : List Rec} {r : Rec} (h : choice lv l = some r) : ∃ hF : 0 < (l.filter fun r => !late lv r).length, pickR ((l.filter fun r => !late lv r)[0]) (l.filter fun r => !late lv r) = r := by
  unfold choice at h
  split at h
  · cases h
  · rename_i x k hk
    injection h with h
    simp only [hk]
    exact ⟨by simp, h⟩
theorem choice_snoc (lv : Int) (l : List Rec) (r : Rec) : choice lv (l ++ [r]) = if late lv r then choice lv l else match choice lv l with | none => some r | some b => if b.stamp < r.stamp then some r else some b := by
  unfold choice
  rw [List.filter_append]
  cases h : late lv r with
  | true => simp [h]
  | false =>
    cases hf : l.filter fun r => !late lv r with
    | nil => simp [h, pickR]
    | cons x k =>
      simp only [List.filter_cons, List.filter_nil, h, Bool.not_false, if_true, List.cons_append]
      rw [← List.cons_append, pickR_snoc]
      split <;> simp
/-- What the document knows behind so many records. -/
def BestAt (lv : Int) (l : List Rec) (i : Nat) (b : Int) : Prop := (b = -1 ∧ choice lv (l.take i) = none) ∨ ∃ k, ∃ hk : k < l.length, b = (k : Int) ∧ choice lv (l.take i) = some l[k]
theorem BestAt.late {lv : Int} {l : List Rec} {i : Nat} {b : Int} (h : BestAt lv l i b) (hi : i < l.length) (hq : K.late lv l[i] = true) : BestAt lv l (i + 1) b := by
  unfold BestAt
  rw [List.take_succ_eq_append_getElem hi, choice_snoc, hq]
  exact h
theorem BestAt.first {lv : Int} {l : List Rec} {i : Nat} (hi : i < l.length) (h : choice lv (l.take i) = none) (hq : K.late lv l[i] = false) : BestAt lv l (i + 1) (i : Int) := by
  refine .inr ⟨i, hi, rfl, ?_⟩
  rw [List.take_succ_eq_append_getElem hi, choice_snoc, hq, h]
  rfl
theorem BestAt.more {lv : Int} {l : List Rec} {i k : Nat} (hi : i < l.length) (hk : k < l.length) (h : choice lv (l.take i) = some l[k]) (hq : K.late lv l[i] = false) (h3 : (l[k]).stamp < (l[i]).stamp) : BestAt lv l (i + 1) (i : Int) := by
  refine .inr ⟨i, hi, rfl, ?_⟩
  rw [List.take_succ_eq_append_getElem hi, choice_snoc, hq, h]
  simp [h3]
theorem BestAt.less {lv : Int} {l : List Rec} {i k : Nat} (hi : i < l.length) (hk : k < l.length) (h : choice lv (l.take i) = some l[k]) (hq : K.late lv l[i] = false) (h3 : ¬ (l[k]).stamp < (l[i]).stamp) : BestAt lv l (i + 1) (k : Int) := by
  refine .inr ⟨k, hk, rfl, ?_⟩
  rw [List.take_succ_eq_append_getElem hi, choice_snoc, hq, h]
  simp [h3]
set_option maxRecDepth 100000 in
theorem late_A {r : Rec} {lv : Int} {g : Nat} {w0 : World} (hr : r.Ok) (hs1 : -9223372036854775808 ≤ r.stamp) (hs2 : r.stamp ≤ 9223372036854775807) (hlv : -9223372036854775808 ≤ lv) (hg : w0.heap[g]? = some (.cells #[.int .i64 lv] 3)) (h1 : lv < r.stamp) (h2 : ¬ r.stamp - 1 = lv) : Gives Try.prog 57 [r.val, .pointer (some ⟨g, 0, none⟩)] w0 (.bool true) := by
  refine enter (n := 15) Try.func57 rfl rfl rfl ?_
  intro fr E
  have M : Mem w0 (feet []) [] (fun w' => w'.heap[g]? = some (.cells #[.int .i64 lv] 3)) w0 := Mem.begin (Has.nil w0) (fun w' h => held_at hg h)
  refine code_region ?_
  refine snew (ob := .cells (r.cells.toArray) 29) (fun g => .pointer (some ⟨g, 0, none⟩)) E M rfl rfl rfl rfl rfl (run_boxN (cs := (r.cells.toArray)) rfl rfl) fun g0 fr w M E => ?_
  refine sv (v := _) E rfl rfl rfl rfl rfl (run_assignC rfl) fun fr E => ?_
  refine seq_nil' ?_
  refine code_region ?_
  refine sv (v := .pointer (some ⟨_, 1, none⟩)) E rfl rfl rfl rfl rfl (run_fieldAddr rfl rfl T.fld29_1) fun fr E => ?_
  refine sv (v := .int .i64 _) E rfl rfl rfl rfl rfl (run_loadB rfl rfl T.one3 (M.row (i := 0) rfl) Rec.c_stamp) fun fr E => ?_
  refine sv (v := .int .i64 lv) E rfl rfl rfl rfl rfl (run_loadB rfl rfl T.one3 (M.fact) rfl) fun fr E => ?_
  refine sv (v := .bool true) E rfl rfl rfl rfl rfl (tst rfl (decide_eq_true (by omega))) fun fr E => ?_
  refine sv (v := _) E rfl rfl rfl rfl rfl (run_move rfl rfl) fun fr E => ?_
  refine sv (v := .pointer (some ⟨_, 1, none⟩)) E rfl rfl rfl rfl rfl (run_fieldAddr rfl rfl T.fld29_1) fun fr E => ?_
  refine sv (v := .int .i64 _) E rfl rfl rfl rfl rfl (run_loadB rfl rfl T.one3 (M.row (i := 0) rfl) Rec.c_stamp) fun fr E => ?_
  refine sv (v := .int _ (r.stamp - 1)) E rfl rfl rfl rfl rfl (num rfl (i64_id (by omega) (by omega))) fun fr E => ?_
  refine sv (v := .int .i64 lv) E rfl rfl rfl rfl rfl (run_loadB rfl rfl T.one3 (M.fact) rfl) fun fr E => ?_
  refine sv (v := .bool true) E rfl rfl rfl rfl rfl (tst rfl (by simp; omega)) fun fr E => ?_
  refine sv (v := .bool _) E rfl rfl rfl rfl rfl (rfl) fun fr E => ?_
  refine sv (v := _) E rfl rfl rfl rfl rfl (run_assign rfl rfl) fun fr E => ?_
  refine seq_nil' ?_
  refine wp_ret ?_
  refine ret1 E rfl rfl ?_
  exact given M

set_option maxRecDepth 100000 in
theorem late_B {r : Rec} {lv : Int} {g : Nat} {w0 : World} (hr : r.Ok) (hs1 : -9223372036854775808 ≤ r.stamp) (hs2 : r.stamp ≤ 9223372036854775807) (hlv : -9223372036854775808 ≤ lv) (hg : w0.heap[g]? = some (.cells #[.int .i64 lv] 3)) (h1 : lv < r.stamp) (h2 : r.stamp - 1 = lv) : Gives Try.prog 57 [r.val, .pointer (some ⟨g, 0, none⟩)] w0 (.bool false) := by
  refine enter (n := 15) Try.func57 rfl rfl rfl ?_
  intro fr E
  have M : Mem w0 (feet []) [] (fun w' => w'.heap[g]? = some (.cells #[.int .i64 lv] 3)) w0 := Mem.begin (Has.nil w0) (fun w' h => held_at hg h)
  refine code_region ?_
  refine snew (ob := .cells (r.cells.toArray) 29) (fun g => .pointer (some ⟨g, 0, none⟩)) E M rfl rfl rfl rfl rfl (run_boxN (cs := (r.cells.toArray)) rfl rfl) fun g0 fr w M E => ?_
  refine sv (v := _) E rfl rfl rfl rfl rfl (run_assignC rfl) fun fr E => ?_
  refine seq_nil' ?_
  refine code_region ?_
  refine sv (v := .pointer (some ⟨_, 1, none⟩)) E rfl rfl rfl rfl rfl (run_fieldAddr rfl rfl T.fld29_1) fun fr E => ?_
  refine sv (v := .int .i64 _) E rfl rfl rfl rfl rfl (run_loadB rfl rfl T.one3 (M.row (i := 0) rfl) Rec.c_stamp) fun fr E => ?_
  refine sv (v := .int .i64 lv) E rfl rfl rfl rfl rfl (run_loadB rfl rfl T.one3 (M.fact) rfl) fun fr E => ?_
  refine sv (v := .bool true) E rfl rfl rfl rfl rfl (tst rfl (decide_eq_true (by omega))) fun fr E => ?_
  refine sv (v := _) E rfl rfl rfl rfl rfl (run_move rfl rfl) fun fr E => ?_
  refine sv (v := .pointer (some ⟨_, 1, none⟩)) E rfl rfl rfl rfl rfl (run_fieldAddr rfl rfl T.fld29_1) fun fr E => ?_
  refine sv (v := .int .i64 _) E rfl rfl rfl rfl rfl (run_loadB rfl rfl T.one3 (M.row (i := 0) rfl) Rec.c_stamp) fun fr E => ?_
  refine sv (v := .int _ (r.stamp - 1)) E rfl rfl rfl rfl rfl (num rfl (i64_id (by omega) (by omega))) fun fr E => ?_
  refine sv (v := .int .i64 lv) E rfl rfl rfl rfl rfl (run_loadB rfl rfl T.one3 (M.fact) rfl) fun fr E => ?_
  refine sv (v := .bool false) E rfl rfl rfl rfl rfl (tst rfl (by simp; omega)) fun fr E => ?_
  refine sv (v := .bool _) E rfl rfl rfl rfl rfl (rfl) fun fr E => ?_
  refine sv (v := _) E rfl rfl rfl rfl rfl (run_assign rfl rfl) fun fr E => ?_
  refine seq_nil' ?_
  refine wp_ret ?_
  refine ret1 E rfl rfl ?_
  exact given M

set_option maxRecDepth 100000 in
theorem late_C {r : Rec} {lv : Int} {g : Nat} {w0 : World} (hr : r.Ok) (hs1 : -9223372036854775808 ≤ r.stamp) (hs2 : r.stamp ≤ 9223372036854775807) (hlv : -9223372036854775808 ≤ lv) (hg : w0.heap[g]? = some (.cells #[.int .i64 lv] 3)) (h1 : ¬ lv < r.stamp) : Gives Try.prog 57 [r.val, .pointer (some ⟨g, 0, none⟩)] w0 (.bool false) := by
  refine enter (n := 15) Try.func57 rfl rfl rfl ?_
  intro fr E
  have M : Mem w0 (feet []) [] (fun w' => w'.heap[g]? = some (.cells #[.int .i64 lv] 3)) w0 := Mem.begin (Has.nil w0) (fun w' h => held_at hg h)
  refine code_region ?_
  refine snew (ob := .cells (r.cells.toArray) 29) (fun g => .pointer (some ⟨g, 0, none⟩)) E M rfl rfl rfl rfl rfl (run_boxN (cs := (r.cells.toArray)) rfl rfl) fun g0 fr w M E => ?_
  refine sv (v := _) E rfl rfl rfl rfl rfl (run_assignC rfl) fun fr E => ?_
  refine seq_nil' ?_
  refine code_region ?_
  refine sv (v := .pointer (some ⟨_, 1, none⟩)) E rfl rfl rfl rfl rfl (run_fieldAddr rfl rfl T.fld29_1) fun fr E => ?_
  refine sv (v := .int .i64 _) E rfl rfl rfl rfl rfl (run_loadB rfl rfl T.one3 (M.row (i := 0) rfl) Rec.c_stamp) fun fr E => ?_
  refine sv (v := .int .i64 lv) E rfl rfl rfl rfl rfl (run_loadB rfl rfl T.one3 (M.fact) rfl) fun fr E => ?_
  refine sv (v := .bool false) E rfl rfl rfl rfl rfl (tst rfl (decide_eq_false (by omega))) fun fr E => ?_
  refine sv (v := _) E rfl rfl rfl rfl rfl (run_move rfl rfl) fun fr E => ?_
  refine sno E rfl rfl rfl rfl fun fr E => ?_
  refine sno E rfl rfl rfl rfl fun fr E => ?_
  refine sno E rfl rfl rfl rfl fun fr E => ?_
  refine sno E rfl rfl rfl rfl fun fr E => ?_
  refine sno E rfl rfl rfl rfl fun fr E => ?_
  refine sv (v := .bool _) E rfl rfl rfl rfl rfl (rfl) fun fr E => ?_
  refine sv (v := _) E rfl rfl rfl rfl rfl (run_assign rfl rfl) fun fr E => ?_
  refine seq_nil' ?_
  refine wp_ret ?_
  refine ret1 E rfl rfl ?_
  exact given M

theorem late_x {r : Rec} {lv : Int} {g : Nat} {w0 : World} (hr : r.Ok) (hs : StampIn r) (hlv : -9223372036854775808 ≤ lv) (hg : w0.heap[g]? = some (.cells #[.int .i64 lv] 3)) : Gives Try.prog 57 [r.val, .pointer (some ⟨g, 0, none⟩)] w0 (.bool (late lv r)) := by
  by_cases h1 : lv < r.stamp
  · by_cases h2 : r.stamp - 1 = lv
    · rw [show late lv r = false from decide_eq_false (by omega)]; exact late_B hr hs.1 hs.2 hlv hg h1 h2
    · rw [show late lv r = true from decide_eq_true (by omega)]; exact late_A hr hs.1 hs.2 hlv hg h1 h2
  · rw [show late lv r = false from decide_eq_false (by omega)]; exact late_C hr hs.1 hs.2 hlv hg h1

set_option maxRecDepth 100000 in
theorem IndexFunc_rec {b : Value} {l : List Rec} {lv : Int} {g : Nat} {w0 : World} (hb : Recs w0 b l) (hg : w0.heap[g]? = some (.cells #[.int .i64 lv] 3)) (ho : Oks l) (hs : ∀ r ∈ l, StampIn r) (hlv : -9223372036854775808 ≤ lv) (hz : l.length ≤ 300)  : Gives Try.prog 87 [b, (.func (.func 57) #[] #[.pointer (some ⟨g, 0, none⟩)])] w0 (.int .i64 (idxA (late lv) l)) := by
  refine enter (n := 19) Try.func87 rfl rfl rfl ?_
  intro fr E
  have M : Mem w0 (feet []) [] (fun w' => Recs w' b l ∧ w'.heap[g]? = some (.cells #[.int .i64 lv] 3)) w0 := Mem.begin (Has.nil w0) (fun w' h => ⟨hb.held0 h, held_at hg h⟩)
  refine code_region ?_
  refine sv (v := _) E rfl rfl rfl rfl rfl (run_assignC rfl) fun fr E => ?_
  refine seq_nil' ?_
  refine wp_seq ?_
  refine code_region ?_
  refine sv (v := _) E rfl rfl rfl rfl rfl (run_move rfl rfl) fun fr E => ?_
  refine sv (v := .int .i64 _) E rfl rfl rfl rfl rfl (run_lenR rfl rfl rfl rfl T.slice42 M.fact.1) fun fr E => ?_
  refine sv (v := _) E rfl rfl rfl rfl rfl (run_moveC rfl) fun fr E => ?_
  refine seq_nil' ?_
  refine wp_block ?_
  refine loop_dec (fun d fr w => ∃ i : Nat, d = l.length - i ∧ i ≤ l.length ∧ (∀ j, j < i → ∀ hj : j < l.length, late lv l[j] = false) ∧ Env [(8, .int .i64 i), (7, .int .i64 l.length), (6, b), (1, (.func (.func 57) #[] #[.pointer (some ⟨g, 0, none⟩)])), (0, b)] 19 fr ∧ Mem w0 (feet []) [] (fun w' => Recs w' b l ∧ w'.heap[g]? = some (.cells #[.int .i64 lv] 3)) w) (l.length) ?_ ?_
  · refine ⟨0, rfl, Nat.zero_le _, fun j hj => absurd hj (by omega), (((((Env.nil E).add E (t := 0) rfl).add E (t := 1) rfl).add E (t := 6) rfl).add E (t := 7) rfl).add E (t := 8) rfl, M⟩
  · clear E M
    rintro d fr w ⟨i, rfl, hle, hno, E, M⟩
    by_cases hi : i < l.length
    · cases hq' : late lv l[i] with
      | false =>
        refine code_region ?_
        refine sv (v := .bool true) E rfl rfl rfl rfl rfl (tst rfl (decide_eq_true (by omega))) fun fr E => ?_
        refine seq_nil' ?_
        refine wp_seq ?_
        refine cond_true E rfl (rfl) ?_
        refine wp_skip ?_
        refine then_normal ?_
        refine wp_seq ?_
        refine wp_block ?_
        refine code_region ?_
        refine sv (v := _) E rfl rfl rfl rfl rfl (run_move rfl rfl) fun fr E => ?_
        refine sv (v := _) E rfl rfl rfl rfl rfl (run_assign rfl rfl) fun fr E => ?_
        refine seq_nil' ?_
        refine code_region ?_
        refine sv (v := _) E rfl rfl rfl rfl rfl (run_move rfl rfl) fun fr E => ?_
        refine sv (v := _) E rfl rfl rfl rfl rfl (run_move rfl rfl) fun fr E => ?_
        refine sv (v := _) E rfl rfl rfl rfl rfl (run_move rfl rfl) fun fr E => ?_
        refine sv (v := _) E rfl rfl rfl rfl rfl (run_indexR (i := i) rfl M.fact.1 rfl rfl (rfl) (hi) T.slice42 T.size29) fun fr E => ?_
        refine sv (v := .agg (l[i]).cells.toArray) E rfl rfl rfl rfl rfl (run_loadRN rfl M.fact.1 rfl T.agg29 (by omega) (by omega) (rcs_get ho hi)) fun fr E => ?_
        refine sgive E M rfl rfl rfl rfl rfl (run_callC (cs := [.pointer (some ⟨g, 0, none⟩)]) rfl rfl T.fn57) (late_x (ho.get hi) (hs _ (List.getElem_mem hi)) hlv M.fact.2) fun fr w M E => ?_
        rw [hq'] at E
        refine seq_nil' ?_
        refine cond_false E rfl (rfl) ?_
        refine wp_skip ?_
        refine block_normal ?_
        refine then_normal ?_
        refine code_last ?_
        refine sv (v := .int _ (((i + 1 : Nat) : Int))) E rfl rfl rfl rfl rfl (num rfl ((i64_id (by omega) (by omega)).trans (by omega))) fun fr E => ?_
        refine sv (v := _) E rfl rfl rfl rfl rfl (run_move rfl rfl) fun fr E => ?_
        refine seq_nil ?_
        refine then_any ?_
        refine ⟨l.length - (i + 1), by omega, i + 1, rfl, by omega, fun j hj hj2 => ?_, (((((Env.nil E).add E (t := 0) rfl).add E (t := 1) rfl).add E (t := 6) rfl).add E (t := 7) rfl).add E (t := 8) rfl, M⟩
        rcases Nat.lt_or_eq_of_le (Nat.le_of_lt_succ hj) with h | rfl
        · exact hno j h hj2
        · exact hq'
      | true =>
        refine code_region ?_
        refine sv (v := .bool true) E rfl rfl rfl rfl rfl (tst rfl (decide_eq_true (by omega))) fun fr E => ?_
        refine seq_nil' ?_
        refine wp_seq ?_
        refine cond_true E rfl (rfl) ?_
        refine wp_skip ?_
        refine then_normal ?_
        refine wp_seq ?_
        refine wp_block ?_
        refine code_region ?_
        refine sv (v := _) E rfl rfl rfl rfl rfl (run_move rfl rfl) fun fr E => ?_
        refine sv (v := _) E rfl rfl rfl rfl rfl (run_assign rfl rfl) fun fr E => ?_
        refine seq_nil' ?_
        refine code_region ?_
        refine sv (v := _) E rfl rfl rfl rfl rfl (run_move rfl rfl) fun fr E => ?_
        refine sv (v := _) E rfl rfl rfl rfl rfl (run_move rfl rfl) fun fr E => ?_
        refine sv (v := _) E rfl rfl rfl rfl rfl (run_move rfl rfl) fun fr E => ?_
        refine sv (v := _) E rfl rfl rfl rfl rfl (run_indexR (i := i) rfl M.fact.1 rfl rfl (rfl) (hi) T.slice42 T.size29) fun fr E => ?_
        refine sv (v := .agg (l[i]).cells.toArray) E rfl rfl rfl rfl rfl (run_loadRN rfl M.fact.1 rfl T.agg29 (by omega) (by omega) (rcs_get ho hi)) fun fr E => ?_
        refine sgive E M rfl rfl rfl rfl rfl (run_callC (cs := [.pointer (some ⟨g, 0, none⟩)]) rfl rfl T.fn57) (late_x (ho.get hi) (hs _ (List.getElem_mem hi)) hlv M.fact.2) fun fr w M E => ?_
        rw [hq'] at E
        refine seq_nil' ?_
        refine cond_true E rfl (rfl) ?_
        refine code_region ?_
        refine sv (v := _) E rfl rfl rfl rfl rfl (run_move rfl rfl) fun fr E => ?_
        refine sv (v := _) E rfl rfl rfl rfl rfl (run_assign rfl rfl) fun fr E => ?_
        refine seq_nil' ?_
        refine wp_ret ?_
        refine block_ret ?_
        refine then_ret ?_
        refine then_ret ?_
        refine block_ret ?_
        refine then_ret ?_
        refine ret1 E rfl rfl ?_
        have e : idxA (late lv) l = (i : Int) := idxA_some hi hq' hno
        rw [e]
        exact given M
    · refine code_region ?_
      refine sv (v := .bool false) E rfl rfl rfl rfl rfl (tst rfl (decide_eq_false (by omega))) fun fr E => ?_
      refine seq_nil' ?_
      refine wp_seq ?_
      refine cond_false E rfl (rfl) ?_
      refine wp_exit ?_
      refine then_exit ?_
      refine then_exit ?_
      refine block_exit ?_
      refine then_normal ?_
      refine code_region ?_
      refine sv (v := _) E rfl rfl rfl rfl rfl (run_assignC rfl) fun fr E => ?_
      refine seq_nil' ?_
      refine wp_ret ?_
      refine ret1 E rfl rfl ?_
      have e : idxA (late lv) l = -1 := idxA_none fun j hj => hno j (by omega) hj
      rw [e]
      exact given M

set_option maxRecDepth 100000 in
theorem DeleteFunc_none {v : Value} {l : List Rec} {lv : Int} {g : Nat} {w0 : World} (H : Has w0 [.recs 29 v l, .blk g (.cells #[.int .i64 lv] 3)]) (ho : Oks l) (hs : ∀ r ∈ l, StampIn r) (hlv : -9223372036854775808 ≤ lv) (hz : l.length ≤ 300) (hn : ∀ j, ∀ hj : j < l.length, late lv l[j] = false) : Does Try.prog 58 [v, (.func (.func 57) #[] #[.pointer (some ⟨g, 0, none⟩)])] w0 [.recs 29 v l, .blk g (.cells #[.int .i64 lv] 3)] (fun x : Value => x) (fun x => [.subr x (l.filter fun r => !late lv r), .blk g (.cells #[.int .i64 lv] 3)]) (fun _ => True) := by
  refine enter (n := 42) Try.func58 rfl rfl rfl ?_
  intro fr E
  have M : Mem w0 (feet [.recs 29 v l, .blk g (.cells #[.int .i64 lv] 3)]) [.recs 29 v l, .blk g (.cells #[.int .i64 lv] 3)] (fun _ => True) w0 := Mem.begin H (fun _ _ => trivial)
  refine code_region ?_
  refine sv (v := _) E rfl rfl rfl rfl rfl (run_assignC rfl) fun fr E => ?_
  refine seq_nil' ?_
  refine code_region ?_
  refine sv (v := _) E rfl rfl rfl rfl rfl (run_move rfl rfl) fun fr E => ?_
  refine sv (v := _) E rfl rfl rfl rfl rfl (run_move rfl rfl) fun fr E => ?_
  refine sgive E M rfl rfl rfl rfl rfl (run_call rfl rfl T.fn87) (IndexFunc_rec (M.reads 0 rfl) (M.row (i := 1) rfl) ho hs hlv hz) fun fr w M E => ?_
  rw [idxA_none hn] at E
  refine sv (v := _) E rfl rfl rfl rfl rfl (run_assign rfl rfl) fun fr E => ?_
  refine seq_nil' ?_
  refine wp_seq ?_
  refine code_region ?_
  refine sv (v := _) E rfl rfl rfl rfl rfl (run_move rfl rfl) fun fr E => ?_
  refine sv (v := .bool true) E rfl rfl rfl rfl rfl (tst rfl (rfl)) fun fr E => ?_
  refine seq_nil' ?_
  refine cond_true E rfl (rfl) ?_
  refine code_region ?_
  refine sv (v := _) E rfl rfl rfl rfl rfl (run_move rfl rfl) fun fr E => ?_
  refine sv (v := _) E rfl rfl rfl rfl rfl (run_assign rfl rfl) fun fr E => ?_
  refine seq_nil' ?_
  refine wp_ret ?_
  refine then_ret ?_
  refine ret1 E rfl rfl ?_
  have M := (M.asWhole 0 rfl).as (L' := [.subr v (l.filter fun r => !late lv r), .blk g (.cells #[.int .i64 lv] 3)]) (by rw [filter_all hn]; rfl)
  exact ⟨_, rfl, M.fin (.refl _) trivial⟩

set_option maxRecDepth 100000 in
theorem DeleteFunc_some {v : Value} {l : List Rec} {lv : Int} {g : Nat} {w0 : World} (H : Has w0 [.recs 29 v l, .blk g (.cells #[.int .i64 lv] 3)]) (ho : Oks l) (hs : ∀ r ∈ l, StampIn r) (hlv : -9223372036854775808 ≤ lv) (hz : l.length ≤ 300) {i : Nat} (hi : i < l.length) (hl : late lv l[i] = true) (hno : ∀ j, j < i → ∀ hj : j < l.length, late lv l[j] = false) : Does Try.prog 58 [v, (.func (.func 57) #[] #[.pointer (some ⟨g, 0, none⟩)])] w0 [.recs 29 v l, .blk g (.cells #[.int .i64 lv] 3)] (fun x : Value => x) (fun x => [.subr x (l.filter fun r => !late lv r), .blk g (.cells #[.int .i64 lv] 3)]) (fun _ => True) := by
  refine enter (n := 42) Try.func58 rfl rfl rfl ?_
  intro fr E
  have M : Mem w0 (feet [.recs 29 v l, .blk g (.cells #[.int .i64 lv] 3)]) [.recs 29 v l, .blk g (.cells #[.int .i64 lv] 3)] (fun _ => True) w0 := Mem.begin H (fun _ _ => trivial)
  refine code_region ?_
  refine sv (v := _) E rfl rfl rfl rfl rfl (run_assignC rfl) fun fr E => ?_
  refine seq_nil' ?_
  refine code_region ?_
  refine sv (v := _) E rfl rfl rfl rfl rfl (run_move rfl rfl) fun fr E => ?_
  refine sv (v := _) E rfl rfl rfl rfl rfl (run_move rfl rfl) fun fr E => ?_
  refine sgive E M rfl rfl rfl rfl rfl (run_call rfl rfl T.fn87) (IndexFunc_rec (M.reads 0 rfl) (M.row (i := 1) rfl) ho hs hlv hz) fun fr w M E => ?_
  rw [idxA_some hi hl hno] at E
  refine sv (v := _) E rfl rfl rfl rfl rfl (run_assign rfl rfl) fun fr E => ?_
  refine seq_nil' ?_
  refine wp_seq ?_
  refine code_region ?_
  refine sv (v := _) E rfl rfl rfl rfl rfl (run_move rfl rfl) fun fr E => ?_
  refine sv (v := .bool false) E rfl rfl rfl rfl rfl (tst rfl (decide_eq_false (by omega))) fun fr E => ?_
  refine seq_nil' ?_
  refine cond_false E rfl (rfl) ?_
  refine wp_skip ?_
  refine then_normal ?_
  refine wp_seq ?_
  refine code_region ?_
  refine sv (v := _) E rfl rfl rfl rfl rfl (run_move rfl rfl) fun fr E => ?_
  refine sv (v := .int _ (((i + 1 : Nat) : Int))) E rfl rfl rfl rfl rfl (num rfl ((i64_id (by omega) (by omega)).trans (by omega))) fun fr E => ?_
  refine sv (v := _) E rfl rfl rfl rfl rfl (run_assign rfl rfl) fun fr E => ?_
  refine seq_nil' ?_
  refine wp_block ?_
  refine loop_dec (fun d fr w => ∃ (j k : Nat) (cur : List Rec), d = l.length - j ∧ j ≤ l.length ∧ k < j ∧ Oks cur ∧ cur.length = l.length ∧ cur.take k = ((l.take j).filter fun r => !late lv r) ∧ cur.drop j = l.drop j ∧ Env [(6, .int .i64 j), (5, .int .i64 k), (1, (.func (.func 57) #[] #[.pointer (some ⟨g, 0, none⟩)])), (0, v)] 42 fr ∧ Mem w0 (feet [.recs 29 v l, .blk g (.cells #[.int .i64 lv] 3)]) [.recs 29 v cur, .blk g (.cells #[.int .i64 lv] 3)] (fun _ => True) w) (l.length - (i + 1)) ?_ ?_
  · refine ⟨i + 1, i, l, rfl, by omega, by omega, ho, rfl, first_step hi hl hno, rfl, ((((Env.nil E).add E (t := 0) rfl).add E (t := 1) rfl).add E (t := 5) rfl).add E (t := 6) rfl, M⟩
  · clear E M
    rintro d fr w ⟨j, k, cur, rfl, hle, hkj, hco, hcl, htk, hdr, E, M⟩
    by_cases hj : j < l.length
    · have hcj : cur[j]'(by omega) = l[j] := drop_get hdr (by omega) hj
      cases hq' : late lv l[j] with
      | false =>
        refine wp_seq ?_
        refine code_region ?_
        refine sv (v := _) E rfl rfl rfl rfl rfl (run_move rfl rfl) fun fr E => ?_
        refine sv (v := _) E rfl rfl rfl rfl rfl (run_move rfl rfl) fun fr E => ?_
        refine sv (v := .int .i64 _) E rfl rfl rfl rfl rfl (run_lenR rfl rfl rfl rfl T.slice42 (M.reads 0 rfl)) fun fr E => ?_
        refine sv (v := .bool true) E rfl rfl rfl rfl rfl (tst rfl (decide_eq_true (by omega))) fun fr E => ?_
        refine seq_nil' ?_
        refine cond_true E rfl (rfl) ?_
        refine wp_skip ?_
        refine then_normal ?_
        refine wp_seq ?_
        refine wp_block ?_
        refine code_region ?_
        refine sv (v := _) E rfl rfl rfl rfl rfl (run_move rfl rfl) fun fr E => ?_
        refine sv (v := _) E rfl rfl rfl rfl rfl (run_move rfl rfl) fun fr E => ?_
        refine sv (v := _) E rfl rfl rfl rfl rfl (run_indexR (i := j) rfl (M.reads 0 rfl) rfl rfl (rfl) ((by omega)) T.slice42 T.size29) fun fr E => ?_
        refine sv (v := .agg (l[j]).cells.toArray) E rfl rfl rfl rfl rfl (run_loadRN rfl (M.reads 0 rfl) rfl T.agg29 (by omega) (by omega) ((rcs_get hco (by omega)).trans (congrArg Rec.cells hcj))) fun fr E => ?_
        refine snew (ob := .cells _ 29) (fun g => .pointer (some ⟨g, 0, none⟩)) E M rfl rfl rfl rfl rfl (run_allocN rfl T.zero29) fun g0 fr w M E => ?_
        refine sset (i := 0) (cs' := (l[j]).cells.toArray) E M rfl rfl rfl rfl rfl (run_storeAll (vs := (l[j]).cells.toArray) rfl rfl rfl T.size29 (Rec.size (ho.get hj)) (M.row (i := 0) rfl) rfl (fun v hv => Rec.ones _ v hv)) rfl fun fr w M E => ?_
        refine seq_nil' ?_
        refine code_region ?_
        refine sv (v := _) E rfl rfl rfl rfl rfl (run_move rfl rfl) fun fr E => ?_
        refine sv (v := .agg (l[j]).cells.toArray) E rfl rfl rfl rfl rfl (run_loadAll rfl rfl T.agg29 (M.row (i := 0) rfl) (Rec.size (ho.get hj))) fun fr E => ?_
        refine sgive E M rfl rfl rfl rfl rfl (run_callC (cs := [.pointer (some ⟨g, 0, none⟩)]) rfl rfl T.fn57) (late_x (ho.get hj) (hs _ (List.getElem_mem hj)) hlv (M.row (i := 2) rfl)) fun fr w M E => ?_
        rw [hq'] at E
        refine sv (v := .bool true) E rfl rfl rfl rfl rfl (tst rfl (rfl)) fun fr E => ?_
        refine seq_nil' ?_
        refine cond_true E rfl (rfl) ?_
        refine code_region ?_
        refine sv (v := _) E rfl rfl rfl rfl rfl (run_move rfl rfl) fun fr E => ?_
        refine sv (v := _) E rfl rfl rfl rfl rfl (run_move rfl rfl) fun fr E => ?_
        refine sv (v := .agg (l[j]).cells.toArray) E rfl rfl rfl rfl rfl (run_loadAll rfl rfl T.agg29 (M.row (i := 0) rfl) (Rec.size (ho.get hj))) fun fr E => ?_
        refine sv (v := _) E rfl rfl rfl rfl rfl (run_indexR (i := k) rfl (M.reads 1 rfl) rfl rfl (rfl) ((by omega)) T.slice42 T.size29) fun fr E => ?_
        refine ssetRec (i := 1) (k := k) (r := l[j]) E M rfl rfl rfl rfl rfl rfl rfl rfl T.size29 (by omega) (ho.get hj) (hco) fun fr w M E => ?_
        refine seq_nil' ?_
        refine code_last ?_
        refine sv (v := _) E rfl rfl rfl rfl rfl (run_move rfl rfl) fun fr E => ?_
        refine sv (v := .int _ (((k + 1 : Nat) : Int))) E rfl rfl rfl rfl rfl (num rfl ((i64_id (by omega) (by omega)).trans (by omega))) fun fr E => ?_
        refine sv (v := _) E rfl rfl rfl rfl rfl (run_assign rfl rfl) fun fr E => ?_
        refine seq_nil ?_
        refine block_normal ?_
        refine then_normal ?_
        refine code_last ?_
        refine sv (v := _) E rfl rfl rfl rfl rfl (run_move rfl rfl) fun fr E => ?_
        refine sv (v := .int _ (((j + 1 : Nat) : Int))) E rfl rfl rfl rfl rfl (num rfl ((i64_id (by omega) (by omega)).trans (by omega))) fun fr E => ?_
        refine sv (v := _) E rfl rfl rfl rfl rfl (run_assign rfl rfl) fun fr E => ?_
        refine seq_nil ?_
        refine then_any ?_
        refine ⟨l.length - (j + 1), by omega, j + 1, k + 1, cur.set k l[j], rfl, by omega, by omega, hco.set (ho.get hj), (List.length_set ..).trans hcl, keep_step (by omega) htk hj hq', keep_drop hdr hkj, ((((Env.nil E).add E (t := 0) rfl).add E (t := 1) rfl).add E (t := 5) rfl).add E (t := 6) rfl, M.sub (.cons _ (.refl _))⟩
      | true =>
        refine wp_seq ?_
        refine code_region ?_
        refine sv (v := _) E rfl rfl rfl rfl rfl (run_move rfl rfl) fun fr E => ?_
        refine sv (v := _) E rfl rfl rfl rfl rfl (run_move rfl rfl) fun fr E => ?_
        refine sv (v := .int .i64 _) E rfl rfl rfl rfl rfl (run_lenR rfl rfl rfl rfl T.slice42 (M.reads 0 rfl)) fun fr E => ?_
        refine sv (v := .bool true) E rfl rfl rfl rfl rfl (tst rfl (decide_eq_true (by omega))) fun fr E => ?_
        refine seq_nil' ?_
        refine cond_true E rfl (rfl) ?_
        refine wp_skip ?_
        refine then_normal ?_
        refine wp_seq ?_
        refine wp_block ?_
        refine code_region ?_
        refine sv (v := _) E rfl rfl rfl rfl rfl (run_move rfl rfl) fun fr E => ?_
        refine sv (v := _) E rfl rfl rfl rfl rfl (run_move rfl rfl) fun fr E => ?_
        refine sv (v := _) E rfl rfl rfl rfl rfl (run_indexR (i := j) rfl (M.reads 0 rfl) rfl rfl (rfl) ((by omega)) T.slice42 T.size29) fun fr E => ?_
        refine sv (v := .agg (l[j]).cells.toArray) E rfl rfl rfl rfl rfl (run_loadRN rfl (M.reads 0 rfl) rfl T.agg29 (by omega) (by omega) ((rcs_get hco (by omega)).trans (congrArg Rec.cells hcj))) fun fr E => ?_
        refine snew (ob := .cells _ 29) (fun g => .pointer (some ⟨g, 0, none⟩)) E M rfl rfl rfl rfl rfl (run_allocN rfl T.zero29) fun g1 fr w M E => ?_
        refine sset (i := 0) (cs' := (l[j]).cells.toArray) E M rfl rfl rfl rfl rfl (run_storeAll (vs := (l[j]).cells.toArray) rfl rfl rfl T.size29 (Rec.size (ho.get hj)) (M.row (i := 0) rfl) rfl (fun v hv => Rec.ones _ v hv)) rfl fun fr w M E => ?_
        refine seq_nil' ?_
        refine code_region ?_
        refine sv (v := _) E rfl rfl rfl rfl rfl (run_move rfl rfl) fun fr E => ?_
        refine sv (v := .agg (l[j]).cells.toArray) E rfl rfl rfl rfl rfl (run_loadAll rfl rfl T.agg29 (M.row (i := 0) rfl) (Rec.size (ho.get hj))) fun fr E => ?_
        refine sgive E M rfl rfl rfl rfl rfl (run_callC (cs := [.pointer (some ⟨g, 0, none⟩)]) rfl rfl T.fn57) (late_x (ho.get hj) (hs _ (List.getElem_mem hj)) hlv (M.row (i := 2) rfl)) fun fr w M E => ?_
        rw [hq'] at E
        refine sv (v := .bool false) E rfl rfl rfl rfl rfl (tst rfl (rfl)) fun fr E => ?_
        refine seq_nil' ?_
        refine cond_false E rfl (rfl) ?_
        refine wp_skip ?_
        refine block_normal ?_
        refine then_normal ?_
        refine code_last ?_
        refine sv (v := _) E rfl rfl rfl rfl rfl (run_move rfl rfl) fun fr E => ?_
        refine sv (v := .int _ (((j + 1 : Nat) : Int))) E rfl rfl rfl rfl rfl (num rfl ((i64_id (by omega) (by omega)).trans (by omega))) fun fr E => ?_
        refine sv (v := _) E rfl rfl rfl rfl rfl (run_assign rfl rfl) fun fr E => ?_
        refine seq_nil ?_
        refine then_any ?_
        refine ⟨l.length - (j + 1), by omega, j + 1, k, cur, rfl, by omega, by omega, hco, hcl, htk.trans (filter_late hj hq').symm, drop_step hdr, ((((Env.nil E).add E (t := 0) rfl).add E (t := 1) rfl).add E (t := 5) rfl).add E (t := 6) rfl, M.sub (.cons _ (.refl _))⟩
    · obtain rfl : j = l.length := by omega
      refine wp_seq ?_
      refine code_region ?_
      refine sv (v := _) E rfl rfl rfl rfl rfl (run_move rfl rfl) fun fr E => ?_
      refine sv (v := _) E rfl rfl rfl rfl rfl (run_move rfl rfl) fun fr E => ?_
      refine sv (v := .int .i64 _) E rfl rfl rfl rfl rfl (run_lenR rfl rfl rfl rfl T.slice42 (M.reads 0 rfl)) fun fr E => ?_
      refine sv (v := .bool false) E rfl rfl rfl rfl rfl (tst rfl (decide_eq_false (by omega))) fun fr E => ?_
      refine seq_nil' ?_
      refine cond_false E rfl (rfl) ?_
      refine wp_exit ?_
      refine then_exit ?_
      refine then_exit ?_
      refine block_exit ?_
      refine then_normal ?_
      refine code_region ?_
      refine sv (v := _) E rfl rfl rfl rfl rfl (run_move rfl rfl) fun fr E => ?_
      refine sv (v := _) E rfl rfl rfl rfl rfl (run_move rfl rfl) fun fr E => ?_
      refine sv (v := _) E rfl rfl rfl rfl rfl (run_sliceR (lo := k) (hi := cur.length) rfl (M.reads 0 rfl) rfl T.slice42 T.size29 (⟨_, _, rfl, rfl⟩) (rfl) (by omega) (Nat.le_refl _)) fun fr E => ?_
      refine sclear (i := 0) (k := k) (m := cur.length) E M rfl rfl rfl rfl rfl rfl rfl rfl rfl (by omega) T.slice42 T.zvrec (Rec.size Rec.zero_ok) (by decide) (Rec.ones _) fun cur2 fr w hc2 hp2 M E => ?_
      refine seq_nil' ?_
      refine code_region ?_
      refine sv (v := _) E rfl rfl rfl rfl rfl (run_move rfl rfl) fun fr E => ?_
      refine sv (v := _) E rfl rfl rfl rfl rfl (run_move rfl rfl) fun fr E => ?_
      refine sv (v := _) E rfl rfl rfl rfl rfl (run_sliceR (lo := 0) (hi := k) rfl (M.reads 0 rfl) rfl T.slice42 T.size29 (rfl) (⟨_, _, rfl, rfl⟩) (Nat.zero_le _) (by omega)) fun fr E => ?_
      refine sv (v := _) E rfl rfl rfl rfl rfl (run_assign rfl rfl) fun fr E => ?_
      refine seq_nil' ?_
      refine wp_ret ?_
      refine ret1 E rfl rfl ?_
      have hk2 : k = ((l.filter fun r => !late lv r)).length := by rw [List.take_length] at htk; rw [← htk, List.length_take]; omega
      have M := (M.asPart 0 k rfl (by omega)).as (L' := [.subr (cutV 136 v 0 k) (l.filter fun r => !late lv r), .blk g (.cells #[.int .i64 lv] 3)]) (by rw [hp2, rcs_take hco (by omega), htk, List.take_length]; unfold Ent.subr; rw [← hk2]; rfl)
      exact ⟨_, rfl, M.fin (.refl _) trivial⟩

theorem DeleteFunc_x {v : Value} {l : List Rec} {lv : Int} {g : Nat} {w0 : World} (H : Has w0 [.recs 29 v l, .blk g (.cells #[.int .i64 lv] 3)]) (ho : Oks l) (hs : ∀ r ∈ l, StampIn r) (hlv : -9223372036854775808 ≤ lv) (hz : l.length ≤ 300) : Does Try.prog 58 [v, (.func (.func 57) #[] #[.pointer (some ⟨g, 0, none⟩)])] w0 [.recs 29 v l, .blk g (.cells #[.int .i64 lv] 3)] (fun x : Value => x) (fun x => [.subr x (l.filter fun r => !late lv r), .blk g (.cells #[.int .i64 lv] 3)]) (fun _ => True) := by
  by_cases hn : ∀ j, ∀ hj : j < l.length, late lv l[j] = false
  · exact DeleteFunc_none H ho hs hlv hz hn
  · obtain ⟨i, hi, hl, hno⟩ := first_late hn
    exact DeleteFunc_some H ho hs hlv hz hi hl hno

set_option maxRecDepth 100000 in
theorem CloneR_nil (w0 : World) : Does Try.prog 59 [.slice none 0 0] w0 [] (fun s : Value => s) (fun s => [.recs 29 s []]) (fun _ => True) := by
  refine enter (n := 8) Try.func59 rfl rfl rfl ?_
  intro fr E
  have M : Mem w0 (feet []) [] (fun _ => True) w0 := Mem.begin (Has.nil w0) (fun _ _ => trivial)
  refine code_region ?_
  refine sv (v := _) E rfl rfl rfl rfl rfl (run_assignC rfl) fun fr E => ?_
  refine seq_nil' ?_
  refine wp_seq ?_
  refine code_region ?_
  refine sv (v := _) E rfl rfl rfl rfl rfl (run_move rfl rfl) fun fr E => ?_
  refine sv (v := .bool true) E rfl rfl rfl rfl rfl (run_sliceNil rfl rfl rfl T.slice42 rfl) fun fr E => ?_
  refine seq_nil' ?_
  refine cond_true E rfl (rfl) ?_
  refine code_region ?_
  refine sv (v := _) E rfl rfl rfl rfl rfl (run_assignC rfl) fun fr E => ?_
  refine seq_nil' ?_
  refine wp_ret ?_
  refine then_ret ?_
  refine ret1 E rfl rfl ?_
  have M := M.nilRecs 29
  exact ⟨_, rfl, M.fin (.refl _) trivial⟩

set_option maxRecDepth 100000 in
theorem CloneR_some {g off c : Nat} {l : List Rec} {w0 : World} (hb : Recs w0 (.slice (some ⟨g, off, none⟩) l.length c) l) (hz : l.length ≤ 300) : Does Try.prog 59 [.slice (some ⟨g, off, none⟩) l.length c] w0 [] (fun s : Value => s) (fun s => [.recs 29 s l]) (fun _ => True) := by
  refine enter (n := 8) Try.func59 rfl rfl rfl ?_
  intro fr E
  have M : Mem w0 (feet []) [] (fun w' => Recs w' (.slice (some ⟨g, off, none⟩) l.length c) l) w0 := Mem.begin (Has.nil w0) (fun w' h => hb.held0 h)
  refine code_region ?_
  refine sv (v := _) E rfl rfl rfl rfl rfl (run_assignC rfl) fun fr E => ?_
  refine seq_nil' ?_
  refine wp_seq ?_
  refine code_region ?_
  refine sv (v := _) E rfl rfl rfl rfl rfl (run_move rfl rfl) fun fr E => ?_
  refine sv (v := .bool false) E rfl rfl rfl rfl rfl (run_sliceNil rfl rfl rfl T.slice42 rfl) fun fr E => ?_
  refine seq_nil' ?_
  refine cond_false E rfl (rfl) ?_
  refine wp_skip ?_
  refine then_normal ?_
  refine code_region ?_
  refine srow (sz := 136) (xs := rcs []) E M rfl rfl rfl rfl rfl (run_buildSlice0 rfl T.slice42 rfl) (rfl) (Nat.le_refl _) (by decide) (rfl) fun o fr w M E => ?_
  refine sv (v := _) E rfl rfl rfl rfl rfl (run_move rfl rfl) fun fr E => ?_
  refine sapp (i := 0) E M rfl rfl rfl rfl rfl rfl rfl rfl rfl rfl rfl T.slice42 T.slice42 T.zt29 T.by29 (by decide) M.fact (rcs_one l) (by omega) fun o fr w M E => ?_
  refine sv (v := _) E rfl rfl rfl rfl rfl (run_assign rfl rfl) fun fr E => ?_
  refine seq_nil' ?_
  refine wp_ret ?_
  refine ret1 E rfl rfl ?_
  have M := M.as (L' := [.recs 29 o l]) (by simp)
  exact ⟨_, rfl, M.fin (.refl _) trivial⟩

theorem CloneR_x {b : Value} {l : List Rec} {w0 : World} (hb : Recs w0 b l) (hz : l.length ≤ 300) : Does Try.prog 59 [b] w0 [] (fun s : Value => s) (fun s => [.recs 29 s l]) (fun _ => True) := by
  rcases hb.2 with ⟨rfl, h⟩ | ⟨g, off, c, rfl, _⟩
  · have e : l = [] := List.eq_nil_of_length_eq_zero h
    subst e
    exact CloneR_nil w0
  · exact CloneR_some hb hz

set_option maxRecDepth 100000 in
theorem Choose_some {a : Value} {l : List Rec} {lv : Int} {w0 : World} (ha : Recs w0 a l) (ho : Oks l) (hs : ∀ r ∈ l, StampIn r) (hlv : -9223372036854775808 ≤ lv) (hz : l.length ≤ 300) {r : Rec} (hc : choice lv l = some r) : Gives Try.prog 21 [a, .int .i64 lv] w0 (.tuple #[r.val, .bool true]) := by
  refine enter (n := 36) Try.func21 rfl rfl rfl ?_
  intro fr E
  have M : Mem w0 (feet []) [] (fun w' => Recs w' a l) w0 := Mem.begin (Has.nil w0) (fun w' h => ha.held0 h)
  obtain ⟨hF, hr⟩ := choice_some hc
  subst hr
  have hFo : Oks (l.filter fun r => !late lv r) := ho.sub fun r hr => (List.mem_filter.1 hr).1
  have hFz : ((l.filter fun r => !late lv r)).length ≤ 300 := Nat.le_trans (List.length_filter_le _ _) hz
  generalize hFe : (l.filter fun r => !late lv r) = F at *
  refine code_region ?_
  refine snew (ob := .cells #[_] 3) (fun g => .pointer (some ⟨g, 0, none⟩)) E M rfl rfl rfl rfl rfl (run_box1 (v := _) rfl rfl rfl) fun g0 fr w M E => ?_
  refine snew (ob := .cells _ 29) (fun g => .pointer (some ⟨g, 0, none⟩)) E M rfl rfl rfl rfl rfl (run_allocN rfl T.zero29) fun g1 fr w M E => ?_
  refine sv (v := _) E rfl rfl rfl rfl rfl (run_assignC rfl) fun fr E => ?_
  refine seq_nil' ?_
  refine code_region ?_
  refine sv (v := .func (.func 57) #[] #[.pointer (some ⟨g0, 0, none⟩)]) E rfl rfl rfl rfl rfl (run_mkF rfl rfl) fun fr E => ?_
  refine sv (v := _) E rfl rfl rfl rfl rfl (run_assign rfl rfl) fun fr E => ?_
  refine seq_nil' ?_
  refine code_region ?_
  refine sv (v := _) E rfl rfl rfl rfl rfl (run_move rfl rfl) fun fr E => ?_
  refine scall E M rfl rfl rfl rfl rfl (run_call rfl rfl T.fn59) (CloneR_x M.fact hz) rfl ?_
  rintro cv fr w - M E
  refine sv (v := _) E rfl rfl rfl rfl rfl (run_move rfl rfl) fun fr E => ?_
  have M := M.pull 2 rfl
  have M := M.pull 1 rfl
  refine scallI ([.recs 29 cv l, .blk g0 (.cells #[.int .i64 lv] 3)]) E M rfl rfl rfl rfl rfl (run_call rfl rfl T.fn58) rfl (fun H => DeleteFunc_x (lv := lv) (g := g0) H ho hs hlv hz) ?_
  rintro dv fr w - M E
  rw [hFe] at M
  refine sv (v := _) E rfl rfl rfl rfl rfl (run_assign rfl rfl) fun fr E => ?_
  refine seq_nil' ?_
  refine wp_seq ?_
  refine code_region ?_
  refine sv (v := _) E rfl rfl rfl rfl rfl (run_move rfl rfl) fun fr E => ?_
  refine sv (v := .int .i64 _) E rfl rfl rfl rfl rfl (run_lenR rfl rfl rfl rfl T.slice42 (M.parts 0 rfl)) fun fr E => ?_
  refine sv (v := .bool false) E rfl rfl rfl rfl rfl (tst rfl (decide_eq_false (by omega))) fun fr E => ?_
  refine seq_nil' ?_
  refine cond_false E rfl (rfl) ?_
  refine wp_skip ?_
  refine then_normal ?_
  refine code_region ?_
  refine sv (v := _) E rfl rfl rfl rfl rfl (run_move rfl rfl) fun fr E => ?_
  refine sv (v := _) E rfl rfl rfl rfl rfl (run_indexR (i := 0) rfl (M.parts 0 rfl) rfl rfl (rfl) (hF) T.slice42 T.size29) fun fr E => ?_
  refine sv (v := .agg (F[0]).cells.toArray) E rfl rfl rfl rfl rfl (run_loadRN rfl (M.parts 0 rfl) rfl T.agg29 (by omega) (by omega) (rcs_get hFo hF)) fun fr E => ?_
  refine snew (ob := .cells _ 29) (fun g => .pointer (some ⟨g, 0, none⟩)) E M rfl rfl rfl rfl rfl (run_allocN rfl T.zero29) fun g2 fr w M E => ?_
  refine sset (i := 0) (cs' := (F[0]).cells.toArray) E M rfl rfl rfl rfl rfl (run_storeAll (vs := (F[0]).cells.toArray) rfl rfl rfl T.size29 (Rec.size (hFo.get hF)) (M.row (i := 0) rfl) rfl (fun v hv => Rec.ones _ v hv)) rfl fun fr w M E => ?_
  refine seq_nil' ?_
  refine wp_seq ?_
  refine code_region ?_
  refine sv (v := _) E rfl rfl rfl rfl rfl (run_move rfl rfl) fun fr E => ?_
  refine sv (v := .int .i64 _) E rfl rfl rfl rfl rfl (run_lenR rfl rfl rfl rfl T.slice42 (M.parts 1 rfl)) fun fr E => ?_
  refine sv (v := _) E rfl rfl rfl rfl rfl (run_moveC rfl) fun fr E => ?_
  refine seq_nil' ?_
  refine wp_block ?_
  refine loop_dec (fun d fr w => ∃ i : Nat, d = F.length - i ∧ i ≤ F.length ∧ Env [(24, .int .i64 i), (23, .int .i64 F.length), (22, dv), (7, .pointer (some ⟨g2, 0, none⟩)), (4, .pointer (some ⟨g1, 0, none⟩))] 36 fr ∧ Mem w0 (feet []) [.blk g2 (.cells (pickR F[0] (F.take i)).cells.toArray 29), .subr dv F, .blk g0 (.cells #[.int .i64 lv] 3), .blk g1 (.cells Rec.zero.cells.toArray 29)] (fun w' => Recs w' a l) w) (F.length) ?_ ?_
  · refine ⟨0, rfl, Nat.zero_le _, (((((Env.nil E).add E (t := 4) rfl).add E (t := 7) rfl).add E (t := 22) rfl).add E (t := 23) rfl).add E (t := 24) rfl, M⟩
  · clear E M
    rintro d fr w ⟨i, rfl, hle, E, M⟩
    by_cases hi : i < F.length
    · have hbo : (pickR F[0] (F.take i)).Ok := pickR_ok (hFo.get hF) (hFo.take i)
      by_cases hc2 : (pickR F[0] (F.take i)).stamp < (F[i]).stamp
      · refine code_region ?_
        refine sv (v := .bool true) E rfl rfl rfl rfl rfl (tst rfl (decide_eq_true (by omega))) fun fr E => ?_
        refine seq_nil' ?_
        refine wp_seq ?_
        refine cond_true E rfl (rfl) ?_
        refine wp_skip ?_
        refine then_normal ?_
        refine wp_seq ?_
        refine wp_block ?_
        refine code_region ?_
        refine sv (v := _) E rfl rfl rfl rfl rfl (run_indexR (i := i) rfl (M.parts 1 rfl) rfl rfl (rfl) (hi) T.slice42 T.size29) fun fr E => ?_
        refine sv (v := .agg (F[i]).cells.toArray) E rfl rfl rfl rfl rfl (run_loadRN rfl (M.parts 1 rfl) rfl T.agg29 (by omega) (by omega) (rcs_get hFo hi)) fun fr E => ?_
        refine snew (ob := .cells _ 29) (fun g => .pointer (some ⟨g, 0, none⟩)) E M rfl rfl rfl rfl rfl (run_allocN rfl T.zero29) fun g3 fr w M E => ?_
        refine sset (i := 0) (cs' := (F[i]).cells.toArray) E M rfl rfl rfl rfl rfl (run_storeAll (vs := (F[i]).cells.toArray) rfl rfl rfl T.size29 (Rec.size (hFo.get hi)) (M.row (i := 0) rfl) rfl (fun v hv => Rec.ones _ v hv)) rfl fun fr w M E => ?_
        refine seq_nil' ?_
        refine code_region ?_
        refine sv (v := .pointer (some ⟨_, 1, none⟩)) E rfl rfl rfl rfl rfl (run_fieldAddr rfl rfl T.fld29_1) fun fr E => ?_
        refine sv (v := .int .i64 _) E rfl rfl rfl rfl rfl (run_loadB rfl rfl T.one3 (M.row (i := 0) rfl) Rec.c_stamp) fun fr E => ?_
        refine sv (v := .pointer (some ⟨_, 1, none⟩)) E rfl rfl rfl rfl rfl (run_fieldAddr rfl rfl T.fld29_1) fun fr E => ?_
        refine sv (v := .int .i64 _) E rfl rfl rfl rfl rfl (run_loadB rfl rfl T.one3 (M.row (i := 1) rfl) Rec.c_stamp) fun fr E => ?_
        refine sv (v := .bool true) E rfl rfl rfl rfl rfl (tst rfl (decide_eq_true (by omega))) fun fr E => ?_
        refine seq_nil' ?_
        refine cond_true E rfl (rfl) ?_
        refine code_last ?_
        refine sv (v := .agg (F[i]).cells.toArray) E rfl rfl rfl rfl rfl (run_loadAll rfl rfl T.agg29 (M.row (i := 0) rfl) (Rec.size (hFo.get hi))) fun fr E => ?_
        refine sset (i := 1) (cs' := (F[i]).cells.toArray) E M rfl rfl rfl rfl rfl (run_storeAll (vs := (F[i]).cells.toArray) rfl rfl rfl T.size29 (Rec.size (hFo.get hi)) (M.row (i := 1) rfl) (Rec.size hbo) (fun v hv => Rec.ones _ v hv)) rfl fun fr w M E => ?_
        refine seq_nil ?_
        refine block_normal ?_
        refine then_normal ?_
        refine code_last ?_
        refine sv (v := .int _ (((i + 1 : Nat) : Int))) E rfl rfl rfl rfl rfl (num rfl ((i64_id (by omega) (by omega)).trans (by omega))) fun fr E => ?_
        refine sv (v := _) E rfl rfl rfl rfl rfl (run_move rfl rfl) fun fr E => ?_
        refine seq_nil ?_
        refine then_any ?_
        refine ⟨F.length - (i + 1), by omega, i + 1, rfl, by omega, (((((Env.nil E).add E (t := 4) rfl).add E (t := 7) rfl).add E (t := 22) rfl).add E (t := 23) rfl).add E (t := 24) rfl, (M.sub (.cons _ (.refl _))).as ?_⟩
        rw [pickR_step hi, if_pos hc2]
        rfl
      · refine code_region ?_
        refine sv (v := .bool true) E rfl rfl rfl rfl rfl (tst rfl (decide_eq_true (by omega))) fun fr E => ?_
        refine seq_nil' ?_
        refine wp_seq ?_
        refine cond_true E rfl (rfl) ?_
        refine wp_skip ?_
        refine then_normal ?_
        refine wp_seq ?_
        refine wp_block ?_
        refine code_region ?_
        refine sv (v := _) E rfl rfl rfl rfl rfl (run_indexR (i := i) rfl (M.parts 1 rfl) rfl rfl (rfl) (hi) T.slice42 T.size29) fun fr E => ?_
        refine sv (v := .agg (F[i]).cells.toArray) E rfl rfl rfl rfl rfl (run_loadRN rfl (M.parts 1 rfl) rfl T.agg29 (by omega) (by omega) (rcs_get hFo hi)) fun fr E => ?_
        refine snew (ob := .cells _ 29) (fun g => .pointer (some ⟨g, 0, none⟩)) E M rfl rfl rfl rfl rfl (run_allocN rfl T.zero29) fun g4 fr w M E => ?_
        refine sset (i := 0) (cs' := (F[i]).cells.toArray) E M rfl rfl rfl rfl rfl (run_storeAll (vs := (F[i]).cells.toArray) rfl rfl rfl T.size29 (Rec.size (hFo.get hi)) (M.row (i := 0) rfl) rfl (fun v hv => Rec.ones _ v hv)) rfl fun fr w M E => ?_
        refine seq_nil' ?_
        refine code_region ?_
        refine sv (v := .pointer (some ⟨_, 1, none⟩)) E rfl rfl rfl rfl rfl (run_fieldAddr rfl rfl T.fld29_1) fun fr E => ?_
        refine sv (v := .int .i64 _) E rfl rfl rfl rfl rfl (run_loadB rfl rfl T.one3 (M.row (i := 0) rfl) Rec.c_stamp) fun fr E => ?_
        refine sv (v := .pointer (some ⟨_, 1, none⟩)) E rfl rfl rfl rfl rfl (run_fieldAddr rfl rfl T.fld29_1) fun fr E => ?_
        refine sv (v := .int .i64 _) E rfl rfl rfl rfl rfl (run_loadB rfl rfl T.one3 (M.row (i := 1) rfl) Rec.c_stamp) fun fr E => ?_
        refine sv (v := .bool false) E rfl rfl rfl rfl rfl (tst rfl (decide_eq_false (by omega))) fun fr E => ?_
        refine seq_nil' ?_
        refine cond_false E rfl (rfl) ?_
        refine wp_skip ?_
        refine block_normal ?_
        refine then_normal ?_
        refine code_last ?_
        refine sv (v := .int _ (((i + 1 : Nat) : Int))) E rfl rfl rfl rfl rfl (num rfl ((i64_id (by omega) (by omega)).trans (by omega))) fun fr E => ?_
        refine sv (v := _) E rfl rfl rfl rfl rfl (run_move rfl rfl) fun fr E => ?_
        refine seq_nil ?_
        refine then_any ?_
        refine ⟨F.length - (i + 1), by omega, i + 1, rfl, by omega, (((((Env.nil E).add E (t := 4) rfl).add E (t := 7) rfl).add E (t := 22) rfl).add E (t := 23) rfl).add E (t := 24) rfl, (M.sub (.cons _ (.refl _))).as ?_⟩
        rw [pickR_step hi, if_neg hc2]
    · obtain rfl : i = F.length := by omega
      rw [List.take_length] at M
      have hbo : (pickR F[0] F).Ok := pickR_ok (hFo.get hF) hFo
      refine code_region ?_
      refine sv (v := .bool false) E rfl rfl rfl rfl rfl (tst rfl (decide_eq_false (by omega))) fun fr E => ?_
      refine seq_nil' ?_
      refine wp_seq ?_
      refine cond_false E rfl (rfl) ?_
      refine wp_exit ?_
      refine then_exit ?_
      refine then_exit ?_
      refine block_exit ?_
      refine then_normal ?_
      refine code_region ?_
      refine sv (v := .agg (pickR F[0] F).cells.toArray) E rfl rfl rfl rfl rfl (run_loadAll rfl rfl T.agg29 (M.row (i := 0) rfl) (Rec.size hbo)) fun fr E => ?_
      refine sset (i := 3) (cs' := (pickR F[0] F).cells.toArray) E M rfl rfl rfl rfl rfl (run_storeAll (vs := (pickR F[0] F).cells.toArray) rfl rfl rfl T.size29 (Rec.size hbo) (M.row (i := 3) rfl) (Rec.size Rec.zero_ok) (fun v hv => Rec.ones _ v hv)) rfl fun fr w M E => ?_
      refine sv (v := _) E rfl rfl rfl rfl rfl (run_assignC rfl) fun fr E => ?_
      refine seq_nil' ?_
      refine wp_ret ?_
      refine retC2 E rfl rfl rfl T.agg29 (M.row (i := 3) rfl) (Rec.size hbo) ?_
      exact given M

end Go.Proofs.Ytnojooafgehhaaa.K
end
section
namespace Go.Proofs.Ytnojooafgehhaaa.K
open Go.RowKit Go.Rill Go.Proofs
set_option linter.unusedVariables false
set_option linter.unusedSimpArgs false
theorem mk3_may {a b : Int} (ha : RNum a) (hb : RNum b) : (Rec.mk3 a b).May := ⟨⟨ha, hb, (by decide : RNum 2)⟩, .inl ⟨rfl, rfl⟩, (by decide : RPl 0 0), (by decide : RPl 0 0)⟩
abbrev W1 : AD := (AD.new 4).put (Rec.mk3 1 2).at' (sectB [] 2 (Rec.mk3 1 2).epoch 1 (Rec.mk3 1 2).at' (Rec.mk3 1 2).bytes)
abbrev W2 : AD := W1.put (Rec.mk3 2 3).at' (sectB (sealKs [] ((Rec.mk3 1 2).key 1)) 2 (Rec.mk3 2 3).epoch 5 (Rec.mk3 2 3).at' (Rec.mk3 2 3).bytes)
theorem works_all : allL W2 (sealKs (sealKs [] ((Rec.mk3 1 2).key 1)) ((Rec.mk3 2 3).key 5)) 2 = [Rec.mk3 2 3, Rec.mk3 1 2] := by
  obtain ⟨m1, a1, b1⟩ := seal_at [] ((Rec.mk3 1 2).key 1)
  obtain ⟨m2, a2, b2⟩ := seal_at (sealKs [] ((Rec.mk3 1 2).key 1)) ((Rec.mk3 2 3).key 5)
  obtain ⟨r, hr⟩ := sealKs_app (sealKs [] ((Rec.mk3 1 2).key 1)) ((Rec.mk3 2 3).key 5)
  have e1 : oneX W2 (sealKs (sealKs [] ((Rec.mk3 1 2).key 1)) ((Rec.mk3 2 3).key 5)) 1 = (Rec.mk3 2 3, true) := one_at (Rec.mk3_ok 2 3) (mk3_may (by decide) (by decide)) (by decide) (by decide) rfl (by rw [put_read, if_pos (by decide)]) a2 b2
  have e2 : oneX W2 (sealKs (sealKs [] ((Rec.mk3 1 2).key 1)) ((Rec.mk3 2 3).key 5)) 2 = (Rec.mk3 1 2, true) := one_at (Rec.mk3_ok 1 2) (mk3_may (by decide) (by decide)) (by decide) (by decide) rfl (by rw [put_read, if_neg (by decide), put_read, if_pos (by decide)]) (by rw [hr]; exact nat_app a1) b1
  rw [allL_yes (by rw [one_bumps, e2]), allL_yes (by rw [one_bumps, e1]), one_bumps, one_bumps, e1, e2]
  rfl
theorem oks2 {a b : Rec} (ha : a.Ok) (hb : b.Ok) : Oks [a, b] := fun r hr => by
  simp only [List.mem_cons, List.not_mem_nil, or_false] at hr
  rcases hr with rfl | rfl <;> assumption
theorem stamps2 : ∀ r ∈ [Rec.mk3 2 3, Rec.mk3 1 2], StampIn r := fun r hr => by
  simp only [List.mem_cons, List.not_mem_nil, or_false] at hr
  rcases hr with rfl | rfl <;> (unfold StampIn Rec.mk3; decide)
set_option maxRecDepth 100000 in
theorem works_c (w0 : World) : Gives Try.prog 15 [] w0 (.bool true) := by
  refine enter (n := 77) Try.func15 rfl rfl rfl ?_
  intro fr E
  have M : Mem w0 (feet []) [] (fun _ => True) w0 := Mem.begin (Has.nil w0) (fun _ _ => trivial)
  refine code_region ?_
  refine sv (v := _) E rfl rfl rfl rfl rfl (run_assignC rfl) fun fr E => ?_
  refine seq_nil' ?_
  refine code_region ?_
  refine scall E M rfl rfl rfl rfl rfl (run_call rfl rfl T.fn24) (dNew_ok (k := 4) (by decide) (by decide)) rfl ?_
  rintro D0 fr w hD0 M E
  refine sv (v := _) E rfl rfl rfl rfl rfl (run_move rfl rfl) fun fr E => ?_
  refine sv (v := _) E rfl rfl rfl rfl rfl (run_extract rfl rfl rfl) fun fr E => ?_
  refine sv (v := _) E rfl rfl rfl rfl rfl (run_extract rfl rfl rfl) fun fr E => ?_
  refine sv (v := _) E rfl rfl rfl rfl rfl (run_assign rfl rfl) fun fr E => ?_
  refine sv (v := _) E rfl rfl rfl rfl rfl (run_assign rfl rfl) fun fr E => ?_
  refine seq_nil' ?_
  refine wp_seq ?_
  refine code_region ?_
  refine sv (v := _) E rfl rfl rfl rfl rfl (run_move rfl rfl) fun fr E => ?_
  refine sv (v := .bool false) E rfl rfl rfl rfl rfl (tst rfl (rfl)) fun fr E => ?_
  refine seq_nil' ?_
  refine cond_false E rfl (rfl) ?_
  refine wp_skip ?_
  refine then_normal ?_
  refine code_region ?_
  refine scall E M rfl rfl rfl rfl rfl (run_call rfl rfl T.fn25) (nNew_x _) rfl ?_
  rintro N0 fr w ⟨hk0, ht0⟩ M E
  refine sv (v := _) E rfl rfl rfl rfl rfl (run_assign rfl rfl) fun fr E => ?_
  refine seq_nil' ?_
  refine code_region ?_
  refine sv (v := _) E rfl rfl rfl rfl rfl (run_move rfl rfl) fun fr E => ?_
  refine sv (v := _) E rfl rfl rfl rfl rfl (run_move rfl rfl) fun fr E => ?_
  refine sv (v := _) E rfl rfl rfl rfl rfl (rfl) fun fr E => ?_
  refine sgive E M rfl rfl rfl rfl rfl (run_call rfl rfl T.fn31) (rec_x 1 2 _) fun fr w M E => ?_
  have M := M.pull 1 rfl
  refine scallI ([dkE D0, nmE N0]) E M rfl rfl rfl rfl rfl (run_call rfl rfl T.fn26) rfl (fun H => rWrite_y (g := D0.gd) (A := AD.new 4) (r := Rec.mk3 1 2) (num := 1) H hD0 (Rec.mk3_ok 1 2) (by rw [hk0]; decide) rfl) ?_
  rintro ⟨D1, N1⟩ fr w ⟨hD1, hg1, hk1, ht1⟩ M E
  rw [hk0, regW_ok (Rec.mk3_ok 1 2) (mk3_may (by decide) (by decide)) (by decide) (by decide) rfl rfl (by show 2 < 4; decide)] at hD1 hk1 E
  replace hk1 : N1.ks = sealKs [] ((Rec.mk3 1 2).key 1) := hk1
  replace hD1 : D1.is D0.gd W1 := hD1
  refine sv (v := _) E rfl rfl rfl rfl rfl (run_assign rfl rfl) fun fr E => ?_
  refine seq_nil' ?_
  refine code_region ?_
  refine sv (v := _) E rfl rfl rfl rfl rfl (run_move rfl rfl) fun fr E => ?_
  refine sv (v := _) E rfl rfl rfl rfl rfl (run_move rfl rfl) fun fr E => ?_
  refine sv (v := _) E rfl rfl rfl rfl rfl (rfl) fun fr E => ?_
  refine sgive E M rfl rfl rfl rfl rfl (run_call rfl rfl T.fn31) (rec_x 2 3 _) fun fr w M E => ?_
  refine scallI ([dkE D1, nmE N1]) E M rfl rfl rfl rfl rfl (run_call rfl rfl T.fn26) rfl (fun H => rWrite_y (g := D0.gd) (A := W1) (r := Rec.mk3 2 3) (num := 5) H hD1 (Rec.mk3_ok 2 3) (by rw [hk1]; exact Nat.le_trans (sealKs_len _ _) (by decide)) hg1) ?_
  rintro ⟨D2, N2⟩ fr w ⟨hD2, hg2, hk2, ht2⟩ M E
  rw [hk1, regW_ok (Rec.mk3_ok 2 3) (mk3_may (by decide) (by decide)) (by decide) (by decide) rfl rfl (by show 2 < 4; decide)] at hD2 hk2 E
  replace hk2 : N2.ks = sealKs (sealKs [] ((Rec.mk3 1 2).key 1)) ((Rec.mk3 2 3).key 5) := hk2
  replace hD2 : D2.is D0.gd W2 := hD2
  refine sv (v := _) E rfl rfl rfl rfl rfl (run_assign rfl rfl) fun fr E => ?_
  refine seq_nil' ?_
  refine code_region ?_
  refine sv (v := _) E rfl rfl rfl rfl rfl (run_move rfl rfl) fun fr E => ?_
  refine sv (v := _) E rfl rfl rfl rfl rfl (run_move rfl rfl) fun fr E => ?_
  refine sv (v := _) E rfl rfl rfl rfl rfl (rfl) fun fr E => ?_
  refine scallI ([dkE D2, nmE N2]) E M rfl rfl rfl rfl rfl (run_call rfl rfl T.fn27) rfl (fun H => All_y (A := W2) (N := N2) (g := D0.gd) H hD2 (by rw [hk2]; exact Nat.le_trans (sealKs_len _ _) (Nat.le_trans (Nat.succ_le_succ (sealKs_len _ _)) (by decide))) (by show 2 < 4; decide) hg2) ?_
  rintro ⟨lv, D3⟩ fr w hD3 M E
  have hal : allL W2 N2.ks 2 = [Rec.mk3 2 3, Rec.mk3 1 2] := by rw [hk2]; exact works_all
  rw [hal] at M
  refine sv (v := _) E rfl rfl rfl rfl rfl (run_assign rfl rfl) fun fr E => ?_
  refine seq_nil' ?_
  refine code_region ?_
  refine sgive E M rfl rfl rfl rfl rfl (run_call rfl rfl T.fn31) (rec_x 1 2 _) fun fr w M E => ?_
  refine scall E M rfl rfl rfl rfl rfl (run_call rfl rfl T.fn11) (Put_ok (Rec.mk3_ok 1 2) (mk3_may (by decide) (by decide))) rfl ?_
  rintro pb fr w - M E
  refine sv (v := _) E rfl rfl rfl rfl rfl (run_move rfl rfl) fun fr E => ?_
  refine sv (v := _) E rfl rfl rfl rfl rfl (run_extract rfl rfl rfl) fun fr E => ?_
  refine sv (v := _) E rfl rfl rfl rfl rfl (run_extract rfl rfl rfl) fun fr E => ?_
  refine sv (v := _) E rfl rfl rfl rfl rfl (run_assign rfl rfl) fun fr E => ?_
  refine sv (v := _) E rfl rfl rfl rfl rfl (run_assign rfl rfl) fun fr E => ?_
  refine seq_nil' ?_
  refine code_region ?_
  refine sv (v := _) E rfl rfl rfl rfl rfl (run_move rfl rfl) fun fr E => ?_
  refine sgive E M rfl rfl rfl rfl rfl (run_call rfl rfl T.fn21) (Choose_some (l := [Rec.mk3 2 3, Rec.mk3 1 2]) (lv := 1) (r := Rec.mk3 1 2) (M.reads 1 rfl) (oks2 (Rec.mk3_ok 2 3) (Rec.mk3_ok 1 2)) stamps2 (by decide) (by decide) (by rfl)) fun fr w M E => ?_
  refine sv (v := _) E rfl rfl rfl rfl rfl (run_move rfl rfl) fun fr E => ?_
  refine sv (v := _) E rfl rfl rfl rfl rfl (run_extract rfl rfl rfl) fun fr E => ?_
  refine sv (v := _) E rfl rfl rfl rfl rfl (run_extract rfl rfl rfl) fun fr E => ?_
  refine snew (ob := .cells _ 29) (fun g => .pointer (some ⟨g, 0, none⟩)) E M rfl rfl rfl rfl rfl (run_allocN rfl T.zero29) fun g0 fr w M E => ?_
  refine sset (i := 0) (cs' := (Rec.mk3 1 2).cells.toArray) E M rfl rfl rfl rfl rfl (run_storeAll (vs := (Rec.mk3 1 2).cells.toArray) rfl rfl rfl T.size29 (Rec.size (Rec.mk3_ok 1 2)) (M.row (i := 0) rfl) rfl (fun v hv => Rec.ones _ v hv)) rfl fun fr w M E => ?_
  refine sv (v := _) E rfl rfl rfl rfl rfl (run_assign rfl rfl) fun fr E => ?_
  refine seq_nil' ?_
  refine wp_seq (free_reg (B := T.tab15_10_b) (Vs := (.exact _ :: .exact (.bool true) :: .exact _ :: .exact _ :: .exact (.bool true) :: .exact (.bool _) :: .exact _ :: .exact _ :: .exact (.bool true) :: .exact (.bool _) :: .exact _ :: .exact _ :: .exact (.int .i64 _) :: .exact (.bool true) :: .exact (.bool _) :: .exact _ :: .exact _ :: .exact (.int .i64 _) :: .exact (.bool true) :: .exact (.bool _) :: .exact _ :: .exact _ :: .exact _ :: .exact (.agg (Rec.mk3 2 3).cells.toArray) :: .exact ((Rec.mk3 2 3).val) :: .exact (.bool true) :: .exact (.bool _) :: .exact _ :: .exact _ :: .exact (.bool _) :: .exact _ :: .exact (.agg (Rec.mk3 1 2).cells.toArray) :: .exact ((Rec.mk3 1 2).val) :: .exact (.bool true) :: .exact (.bool _) :: .exact _ :: [])) T.tab15_10_i E T.mixed T.tab15_10 rfl (AllS.lasts ⟨trivial, trivial, trivial, trivial, trivial, trivial, trivial, trivial, trivial, trivial, trivial, trivial, trivial, trivial, trivial, trivial, trivial, trivial, trivial, trivial, trivial, trivial, trivial, trivial, trivial, trivial, trivial, trivial, trivial, trivial, trivial, trivial, trivial, trivial, trivial, trivial, trivial⟩) ⟨fs_val rfl rfl (fun x w hx hk => ⟨_, _, rfl, rfl, rfl, run_move rfl rfl, Ext.refl _, rfl⟩),
      fs_val rfl rfl (fun x w hx hk => ⟨_, _, rfl, rfl, rfl, tst rfl (rfl), Ext.refl _, rfl⟩),
      fs_val rfl rfl (fun x w hx hk => ⟨_, _, rfl, rfl, rfl, run_move rfl rfl, Ext.refl _, rfl⟩),
      fs_val rfl rfl (fun x w hx hk => ⟨_, _, rfl, rfl, rfl, run_move rfl rfl, Ext.refl _, rfl⟩),
      fs_val rfl rfl (fun x w hx hk => ⟨_, _, rfl, rfl, rfl, tst rfl (rfl), Ext.refl _, rfl⟩),
      fs_val rfl rfl (fun x w hx hk => ⟨_, _, rfl, rfl, rfl, rfl, Ext.refl _, rfl⟩),
      fs_val rfl rfl (fun x w hx hk => ⟨_, _, rfl, rfl, rfl, run_move rfl rfl, Ext.refl _, rfl⟩),
      fs_val rfl rfl (fun x w hx hk => ⟨_, _, rfl, rfl, rfl, run_move rfl rfl, Ext.refl _, rfl⟩),
      fs_val rfl rfl (fun x w hx hk => ⟨_, _, rfl, rfl, rfl, tst rfl (rfl), Ext.refl _, rfl⟩),
      fs_val rfl rfl (fun x w hx hk => ⟨_, _, rfl, rfl, rfl, rfl, Ext.refl _, rfl⟩),
      fs_val rfl rfl (fun x w hx hk => ⟨_, _, rfl, rfl, rfl, run_move rfl rfl, Ext.refl _, rfl⟩),
      fs_val rfl rfl (fun x w hx hk => ⟨_, _, rfl, rfl, rfl, run_move rfl rfl, Ext.refl _, rfl⟩),
      fs_val rfl rfl (fun x w hx hk => ⟨_, _, rfl, rfl, rfl, run_lenR rfl rfl rfl rfl T.slice30 ((M.ext ((Ext.drew _).trans hx)).reads 1 rfl), Ext.refl _, rfl⟩),
      fs_val rfl rfl (fun x w hx hk => ⟨_, _, rfl, rfl, rfl, tst rfl (by rw [Rec.bytes_len (Rec.mk3_ok 1 2)]; rfl), Ext.refl _, rfl⟩),
      fs_val rfl rfl (fun x w hx hk => ⟨_, _, rfl, rfl, rfl, rfl, Ext.refl _, rfl⟩),
      fs_val rfl rfl (fun x w hx hk => ⟨_, _, rfl, rfl, rfl, run_move rfl rfl, Ext.refl _, rfl⟩),
      fs_val rfl rfl (fun x w hx hk => ⟨_, _, rfl, rfl, rfl, run_move rfl rfl, Ext.refl _, rfl⟩),
      fs_val rfl rfl (fun x w hx hk => ⟨_, _, rfl, rfl, rfl, run_lenR rfl rfl rfl rfl T.slice42 ((M.ext ((Ext.drew _).trans hx)).reads 2 rfl), Ext.refl _, rfl⟩),
      fs_val rfl rfl (fun x w hx hk => ⟨_, _, rfl, rfl, rfl, tst rfl (rfl), Ext.refl _, rfl⟩),
      fs_val rfl rfl (fun x w hx hk => ⟨_, _, rfl, rfl, rfl, rfl, Ext.refl _, rfl⟩),
      fs_val rfl rfl (fun x w hx hk => ⟨_, _, rfl, rfl, rfl, run_move rfl rfl, Ext.refl _, rfl⟩),
      fs_val rfl rfl (fun x w hx hk => ⟨_, _, rfl, rfl, rfl, run_move rfl rfl, Ext.refl _, rfl⟩),
      fs_val rfl rfl (fun x w hx hk => ⟨_, _, rfl, rfl, rfl, run_indexR (i := 0) rfl ((M.ext ((Ext.drew _).trans hx)).reads 2 rfl) rfl rfl (rfl) (by simp) T.slice42 T.size29, Ext.refl _, rfl⟩),
      fs_val rfl rfl (fun x w hx hk => ⟨_, _, rfl, rfl, rfl, run_loadRN (k := 0 * 136) rfl ((M.ext ((Ext.drew _).trans hx)).reads 2 rfl) rfl T.agg29 (by simp) (by decide) (by simp [rcs, List.take_left' (Rec.len (Rec.mk3_ok 2 3))]), Ext.refl _, rfl⟩),
      fs_ext rfl rfl (fun x w hx hk => ⟨_, _, rfl, rfl, rfl, run_call rfl rfl T.fn31, (rec_x 2 3 _).ext⟩),
      fs_val rfl rfl (fun x w hx hk => ⟨_, _, rfl, rfl, rfl, run_eqF (b := true) (xs := (Rec.mk3 2 3).cells) (ys := (Rec.mk3 2 3).cells) rfl rfl rfl T.flat29 (Rec.fit (Rec.mk3_ok 2 3)) (Rec.fit (Rec.mk3_ok 2 3)) (by simp), Ext.refl _, rfl⟩),
      fs_val rfl rfl (fun x w hx hk => ⟨_, _, rfl, rfl, rfl, rfl, Ext.refl _, rfl⟩),
      fs_val rfl rfl (fun x w hx hk => ⟨_, _, rfl, rfl, rfl, run_move rfl rfl, Ext.refl _, rfl⟩),
      fs_val rfl rfl (fun x w hx hk => ⟨_, _, rfl, rfl, rfl, run_move rfl rfl, Ext.refl _, rfl⟩),
      fs_val rfl rfl (fun x w hx hk => ⟨_, _, rfl, rfl, rfl, rfl, Ext.refl _, rfl⟩),
      fs_val rfl rfl (fun x w hx hk => ⟨_, _, rfl, rfl, rfl, run_move rfl rfl, Ext.refl _, rfl⟩),
      fs_val rfl rfl (fun x w hx hk => ⟨_, _, rfl, rfl, rfl, run_loadAll rfl rfl T.agg29 ((M.ext ((Ext.drew _).trans hx)).row (i := 0) rfl) (Rec.size (Rec.mk3_ok 1 2)), Ext.refl _, rfl⟩),
      fs_ext rfl rfl (fun x w hx hk => ⟨_, _, rfl, rfl, rfl, run_call rfl rfl T.fn31, (rec_x 1 2 _).ext⟩),
      fs_val rfl rfl (fun x w hx hk => ⟨_, _, rfl, rfl, rfl, run_eqF (b := true) (xs := (Rec.mk3 1 2).cells) (ys := (Rec.mk3 1 2).cells) rfl rfl rfl T.flat29 (Rec.fit (Rec.mk3_ok 1 2)) (Rec.fit (Rec.mk3_ok 1 2)) (by simp), Ext.refl _, rfl⟩),
      fs_val rfl rfl (fun x w hx hk => ⟨_, _, rfl, rfl, rfl, rfl, Ext.refl _, rfl⟩),
      fs_val rfl rfl (fun x w hx hk => ⟨_, _, rfl, rfl, rfl, run_assign rfl rfl, Ext.refl _, rfl⟩), trivial⟩ ?_)
  intro x fr w hx hk E
  have M := M.ext hx
  refine then_normal ?_
  refine wp_ret ?_
  refine ret1 E rfl rfl ?_
  exact given M
end Go.Proofs.Ytnojooafgehhaaa.K
end
section
namespace Go.Proofs.Ytnojooafgehhaaa.K
open Go.RowKit Go.Rill Go.Proofs
set_option linter.unusedVariables false
set_option linter.unusedSimpArgs false
def pickN (k : Int) (m : Nat) : Nat := (if k.tmod m < 0 then k.tmod m + m else k.tmod m).toNat
theorem pickN_eq {k : Int} {m : Nat} (hm : 0 < m) : ((pickN k m : Nat) : Int) = if k.tmod m < 0 then k.tmod m + m else k.tmod m := by
  unfold pickN
  have := tmod_bounds k (show (0 : Int) < m by omega)
  split <;> omega
theorem pickN_lt {k : Int} {m : Nat} (hm : 0 < m) : pickN k m < m := by
  have h1 := pickN_eq (k := k) hm
  have := tmod_bounds k (show (0 : Int) < m by omega)
  split at h1 <;> omega
theorem Pick_x {k : Int} {m : Nat} {w0 : World} (hm : 0 < m) (hz : m ≤ 4611686018427387904) : Gives Try.prog 28 [.int .i64 k, .int .i64 (m : Int)] w0 (.int .i64 ((pickN k m : Nat) : Int)) := by
  rw [pickN_eq hm]
  split
  · exact Pick_neg (by omega) (by omega) ‹_›
  · exact Pick_pos (by omega) (by omega) ‹_›
end Go.Proofs.Ytnojooafgehhaaa.K
end
section
namespace Go.Rill.T
open Go.Proofs
theorem fn66 : goFn Try.prog 66 = true := by kernel_rfl
theorem fn91 : goFn Try.prog 91 = true := by kernel_rfl
theorem fn92 : goFn Try.prog 92 = true := by kernel_rfl
end Go.Rill.T
end
section
namespace Go.Rill.T
open Go.Proofs
end Go.Rill.T
end
section
namespace Go.Proofs.Ytnojooafgehhaaa.K
open Go.RowKit Go.Rill Go.Proofs
set_option linter.unusedVariables false
set_option linter.unusedSimpArgs false
def Dsk.sync (S : Dsk) : Dsk := { S with left := w64 (S.left - 1), lasts := S.lasts.mapIdx fun j v => (iget S.cache (j : Int)).getD v, cache := [] }
set_option maxRecDepth 100000 in
theorem Sync_off {gd gm : Nat} {lv rv : Value} {S : Dsk} {w0 : World} (H : Has w0 (dsk gd gm lv rv S)) (hS : S.Ok) (h : S.off = true) : Does Try.prog 32 [.pointer (some ⟨gd, 0, none⟩)] w0 (dsk gd gm lv rv S) (fun _ : Unit => .int .i64 12) (fun _ => dsk gd gm lv rv S) (fun _ => True) := by
  refine enter (n := 32) Try.func32 rfl rfl rfl ?_
  intro fr E
  have M : Mem w0 (feet (dsk gd gm lv rv S)) (dsk gd gm lv rv S) (fun _ => True) w0 := Mem.begin H (fun _ _ => trivial)
  refine code_region ?_
  refine sv (v := _) E rfl rfl rfl rfl rfl (run_assignC rfl) fun fr E => ?_
  refine seq_nil' ?_
  refine wp_seq ?_
  refine code_region ?_
  refine sv (v := _) E rfl rfl rfl rfl rfl (run_move rfl rfl) fun fr E => ?_
  refine scallI (dsk gd gm lv rv S) E M rfl rfl rfl rfl rfl (run_call rfl rfl T.fn65) rfl (fun H => Spend_off H hS h) ?_
  rintro _ fr w - M E
  refine sv (v := _) E rfl rfl rfl rfl rfl (run_assign rfl rfl) fun fr E => ?_
  refine seq_nil' ?_
  refine code_region ?_
  refine sv (v := _) E rfl rfl rfl rfl rfl (run_move rfl rfl) fun fr E => ?_
  refine sv (v := .bool _) E rfl rfl rfl rfl rfl (rfl) fun fr E => ?_
  refine seq_nil' ?_
  refine cond_true E rfl (rfl) ?_
  refine code_region ?_
  refine sv (v := _) E rfl rfl rfl rfl rfl (run_move rfl rfl) fun fr E => ?_
  refine sv (v := _) E rfl rfl rfl rfl rfl (run_assign rfl rfl) fun fr E => ?_
  refine seq_nil' ?_
  refine wp_ret ?_
  refine then_ret ?_
  refine ret1 E rfl rfl ?_
  exact ⟨(), rfl, M.fin (List.Sublist.refl _) trivial⟩

set_option maxRecDepth 100000 in
theorem Sync_fail {gd gm : Nat} {lv rv : Value} {S : Dsk} {w0 : World} (H : Has w0 (dsk gd gm lv rv S)) (hS : S.Ok) (h : S.off = false) (ha : S.armed = true) (hl : S.left = 0) : Does Try.prog 32 [.pointer (some ⟨gd, 0, none⟩)] w0 (dsk gd gm lv rv S) (fun _ : Unit => .int .i64 12) (fun _ => dsk gd gm lv rv { S with off := true }) (fun _ => True) := by
  refine enter (n := 32) Try.func32 rfl rfl rfl ?_
  intro fr E
  have M : Mem w0 (feet (dsk gd gm lv rv S)) (dsk gd gm lv rv S) (fun _ => True) w0 := Mem.begin H (fun _ _ => trivial)
  refine code_region ?_
  refine sv (v := _) E rfl rfl rfl rfl rfl (run_assignC rfl) fun fr E => ?_
  refine seq_nil' ?_
  refine wp_seq ?_
  refine code_region ?_
  refine sv (v := _) E rfl rfl rfl rfl rfl (run_move rfl rfl) fun fr E => ?_
  refine scallI (dsk gd gm lv rv S) E M rfl rfl rfl rfl rfl (run_call rfl rfl T.fn65) rfl (fun H => Spend_fail H hS h ha hl) ?_
  rintro _ fr w - M E
  refine sv (v := _) E rfl rfl rfl rfl rfl (run_assign rfl rfl) fun fr E => ?_
  refine seq_nil' ?_
  refine code_region ?_
  refine sv (v := _) E rfl rfl rfl rfl rfl (run_move rfl rfl) fun fr E => ?_
  refine sv (v := .bool _) E rfl rfl rfl rfl rfl (rfl) fun fr E => ?_
  refine seq_nil' ?_
  refine cond_true E rfl (rfl) ?_
  refine code_region ?_
  refine sv (v := _) E rfl rfl rfl rfl rfl (run_move rfl rfl) fun fr E => ?_
  refine sv (v := _) E rfl rfl rfl rfl rfl (run_assign rfl rfl) fun fr E => ?_
  refine seq_nil' ?_
  refine wp_ret ?_
  refine then_ret ?_
  refine ret1 E rfl rfl ?_
  exact ⟨(), rfl, M.fin (List.Sublist.refl _) trivial⟩

set_option maxRecDepth 100000 in
theorem Sync_armed {gd gm : Nat} {lv rv : Value} {S : Dsk} {w0 : World} (H : Has w0 (dsk gd gm lv rv S)) (hS : S.Ok) (h : S.off = false) (ha : S.armed = true) (hl : ¬ S.left = 0) (hkn : (S.cache.map (·.key)).Nodup) (hkr : ∀ e ∈ S.cache, 0 ≤ e.key ∧ e.key < (S.n : Int)) (hbn : (S.cache.map (·.born)).Nodup) (hbo : ∀ e ∈ S.cache, e.born < S.clock) : Does Try.prog 32 [.pointer (some ⟨gd, 0, none⟩)] w0 (dsk gd gm lv rv S) (fun _ : Unit => .int .i64 0) (fun _ => dsk gd gm lv rv S.sync) (fun _ => True) := by
  refine enter (n := 32) Try.func32 rfl rfl rfl ?_
  intro fr E
  have M : Mem w0 (feet (dsk gd gm lv rv S)) (dsk gd gm lv rv S) (fun _ => True) w0 := Mem.begin H (fun _ _ => trivial)
  refine code_region ?_
  refine sv (v := _) E rfl rfl rfl rfl rfl (run_assignC rfl) fun fr E => ?_
  refine seq_nil' ?_
  refine wp_seq ?_
  refine code_region ?_
  refine sv (v := _) E rfl rfl rfl rfl rfl (run_move rfl rfl) fun fr E => ?_
  refine scallI (dsk gd gm lv rv S) E M rfl rfl rfl rfl rfl (run_call rfl rfl T.fn65) rfl (fun H => Spend_armed H hS h ha hl) ?_
  rintro _ fr w - M E
  refine sv (v := _) E rfl rfl rfl rfl rfl (run_assign rfl rfl) fun fr E => ?_
  refine seq_nil' ?_
  refine code_region ?_
  refine sv (v := _) E rfl rfl rfl rfl rfl (run_move rfl rfl) fun fr E => ?_
  refine sv (v := .bool _) E rfl rfl rfl rfl rfl (rfl) fun fr E => ?_
  refine seq_nil' ?_
  refine cond_false E rfl (rfl) ?_
  refine wp_skip ?_
  refine then_normal ?_
  refine wp_seq ?_
  refine code_region ?_
  refine sv (v := _) E rfl rfl rfl rfl rfl (run_move rfl rfl) fun fr E => ?_
  refine sv (v := _) E rfl rfl rfl rfl rfl (run_nilCheck rfl rfl) fun fr E => ?_
  refine sv (v := .pointer (some ⟨_, 1, none⟩)) E rfl rfl rfl rfl rfl (run_fieldAddr rfl rfl T.fld85_1) fun fr E => ?_
  refine sv (v := .map _) E rfl rfl rfl rfl rfl (run_loadB rfl rfl T.one83 (M.row (i := 0) rfl) rfl) fun fr E => ?_
  refine snew (ob := .mapIter (some gm) S.clock #[] S.clock) (fun g => .pointer (some ⟨g, 0, none⟩)) E M rfl rfl rfl rfl rfl (run_rangeI rfl rfl T.map83 (M.ent 2 rfl)) fun gi fr w M E => ?_
  refine seq_nil' ?_
  refine wp_block ?_
  refine loop_dec (fun d fr w => ∃ seen : Array Nat, d = (leftOf (imap S.cache) seen).size ∧ Env [(0, .pointer (some ⟨gd, 0, none⟩)), (2, .int .i64 0), (15, .pointer (some ⟨gi, 0, none⟩))] 32 fr ∧ Mem w0 (feet (dsk gd gm lv rv S)) (.blk gi (.mapIter (some gm) S.clock seen S.clock) :: dsk gd gm lv rv { S with left := w64 (S.left - 1), lasts := syn S.cache seen S.lasts }) (fun _ => True) w) ((leftOf (imap S.cache) #[]).size) ?_ ?_
  · refine ⟨#[], rfl, (((Env.nil E).add E (t := 15) rfl).add E (t := 2) rfl).add E (t := 0) rfl, ?_⟩
    rw [syn_none]
    exact M
  · clear E M
    rintro d fr w ⟨seen, hd, E, M⟩
    by_cases h0 : (leftOf (imap S.cache) seen).size = 0
    · have hall : ∀ e ∈ S.cache, seen.contains e.born = true := fun e he => all_seen _ _ h0 _ (imap_has he)
      refine code_region ?_
      refine sv (v := .tuple #[.bool false]) E rfl rfl rfl rfl rfl (run_nextNo rfl rfl (M.ent 0 rfl) (M.ent 3 rfl) hbo h0) fun fr E => ?_
      refine sv (v := _) E rfl rfl rfl rfl rfl (run_extract rfl rfl rfl) fun fr E => ?_
      refine seq_nil' ?_
      refine wp_seq ?_
      refine cond_false E rfl (rfl) ?_
      refine wp_exit ?_
      refine then_exit ?_
      refine then_exit ?_
      refine block_exit ?_
      refine then_normal ?_
      refine code_region ?_
      refine sv (v := _) E rfl rfl rfl rfl rfl (run_move rfl rfl) fun fr E => ?_
      refine sv (v := _) E rfl rfl rfl rfl rfl (run_nilCheck rfl rfl) fun fr E => ?_
      refine sv (v := .pointer (some ⟨_, 1, none⟩)) E rfl rfl rfl rfl rfl (run_fieldAddr rfl rfl T.fld85_1) fun fr E => ?_
      refine sv (v := .map _) E rfl rfl rfl rfl rfl (run_loadB rfl rfl T.one83 (M.row (i := 1) rfl) rfl) fun fr E => ?_
      refine smclear (i := 3) E M rfl rfl rfl rfl rfl rfl rfl rfl rfl T.map83 fun fr w M E => ?_
      refine seq_nil' ?_
      refine code_region ?_
      refine sv (v := _) E rfl rfl rfl rfl rfl (run_assignC rfl) fun fr E => ?_
      refine seq_nil' ?_
      refine wp_ret ?_
      refine ret1 E rfl rfl ?_
      rw [syn_all hall] at M
      exact ⟨(), rfl, Mem.fin (L := _ :: dsk gd gm lv rv S.sync) M (List.sublist_cons_self _ _) trivial⟩
    · refine code_region ?_
      refine snext (i := 0) (j := 3) E M rfl rfl rfl rfl rfl rfl rfl rfl rfl hbo h0 fun e he hse hsm fr w M E => ?_
      refine sv (v := _) E rfl rfl rfl rfl rfl (run_extract rfl rfl rfl) fun fr E => ?_
      refine seq_nil' ?_
      refine wp_seq ?_
      refine cond_true E rfl (rfl) ?_
      refine wp_skip ?_
      refine then_normal ?_
      refine wp_block ?_
      refine code_region ?_
      obtain ⟨i, hi, hin⟩ : ∃ i : Nat, e.key = (i : Int) ∧ i < S.n := ⟨e.key.toNat, by have := hkr e he; omega, by have := hkr e he; omega⟩
      obtain ⟨l, hl, hl2⟩ := hS.cache e he
      refine sv (v := .tuple #[_, _]) E rfl rfl rfl rfl rfl (run_entryI rfl rfl (M.ent 0 rfl) (M.ent 3 rfl) he hbn) fun fr E => ?_
      refine sv (v := _) E rfl rfl rfl rfl rfl (run_extract rfl rfl rfl) fun fr E => ?_
      refine sv (v := _) E rfl rfl rfl rfl rfl (run_extract rfl rfl rfl) fun fr E => ?_
      refine sv (v := _) E rfl rfl rfl rfl rfl (run_assign rfl rfl) fun fr E => ?_
      refine sv (v := _) E rfl rfl rfl rfl rfl (run_assign rfl rfl) fun fr E => ?_
      refine seq_nil' ?_
      refine code_last ?_
      refine sv (v := _) E rfl rfl rfl rfl rfl (run_move rfl rfl) fun fr E => ?_
      refine sv (v := _) E rfl rfl rfl rfl rfl (run_nilCheck rfl rfl) fun fr E => ?_
      refine sv (v := .pointer (some ⟨_, 0, none⟩)) E rfl rfl rfl rfl rfl (run_fieldAddr rfl rfl T.fld85_0) fun fr E => ?_
      refine sv (v := _) E rfl rfl rfl rfl rfl (run_loadB rfl rfl T.one65 (M.row (i := 1) rfl) rfl) fun fr E => ?_
      refine sv (v := _) E rfl rfl rfl rfl rfl (run_move rfl rfl) fun fr E => ?_
      refine sv (v := _) E rfl rfl rfl rfl rfl (run_move rfl rfl) fun fr E => ?_
      refine sv (v := _) E rfl rfl rfl rfl rfl (run_indexR (i := i) rfl (M.reads 2 rfl) rfl rfl (hi) (hin) T.slice65 T.size30) fun fr E => ?_
      refine ssetR (i := 2) (k := i * 1) (xs' := syn S.cache (seen.push e.born) S.lasts) E M rfl rfl rfl rfl rfl rfl rfl rfl T.size30 (by show i * 1 < S.n * 1; omega) (by obtain ⟨b', c', e'⟩ := Reads.slice (M.pooled (i := 5) rfl hl); rw [show e.val = _ from e']; rfl) (by rw [Nat.mul_one]; exact syn_step he hkn hbn hi) fun fr w M E => ?_
      refine seq_nil ?_
      refine block_normal ?_
      refine then_any ?_
      exact ⟨_, by rw [hd]; exact hsm, seen.push e.born, rfl, (((Env.nil E).add E (t := 15) rfl).add E (t := 2) rfl).add E (t := 0) rfl, M⟩

set_option maxRecDepth 100000 in
theorem Sync_free {gd gm : Nat} {lv rv : Value} {S : Dsk} {w0 : World} (H : Has w0 (dsk gd gm lv rv S)) (hS : S.Ok) (h : S.off = false) (ha : S.armed = false) (hkn : (S.cache.map (·.key)).Nodup) (hkr : ∀ e ∈ S.cache, 0 ≤ e.key ∧ e.key < (S.n : Int)) (hbn : (S.cache.map (·.born)).Nodup) (hbo : ∀ e ∈ S.cache, e.born < S.clock) : Does Try.prog 32 [.pointer (some ⟨gd, 0, none⟩)] w0 (dsk gd gm lv rv S) (fun _ : Unit => .int .i64 0) (fun _ => dsk gd gm lv rv S.sync) (fun _ => True) := by
  refine enter (n := 32) Try.func32 rfl rfl rfl ?_
  intro fr E
  have M : Mem w0 (feet (dsk gd gm lv rv S)) (dsk gd gm lv rv S) (fun _ => True) w0 := Mem.begin H (fun _ _ => trivial)
  refine code_region ?_
  refine sv (v := _) E rfl rfl rfl rfl rfl (run_assignC rfl) fun fr E => ?_
  refine seq_nil' ?_
  refine wp_seq ?_
  refine code_region ?_
  refine sv (v := _) E rfl rfl rfl rfl rfl (run_move rfl rfl) fun fr E => ?_
  refine scallI (dsk gd gm lv rv S) E M rfl rfl rfl rfl rfl (run_call rfl rfl T.fn65) rfl (fun H => Spend_free H hS h ha) ?_
  rintro _ fr w - M E
  refine sv (v := _) E rfl rfl rfl rfl rfl (run_assign rfl rfl) fun fr E => ?_
  refine seq_nil' ?_
  refine code_region ?_
  refine sv (v := _) E rfl rfl rfl rfl rfl (run_move rfl rfl) fun fr E => ?_
  refine sv (v := .bool _) E rfl rfl rfl rfl rfl (rfl) fun fr E => ?_
  refine seq_nil' ?_
  refine cond_false E rfl (rfl) ?_
  refine wp_skip ?_
  refine then_normal ?_
  refine wp_seq ?_
  refine code_region ?_
  refine sv (v := _) E rfl rfl rfl rfl rfl (run_move rfl rfl) fun fr E => ?_
  refine sv (v := _) E rfl rfl rfl rfl rfl (run_nilCheck rfl rfl) fun fr E => ?_
  refine sv (v := .pointer (some ⟨_, 1, none⟩)) E rfl rfl rfl rfl rfl (run_fieldAddr rfl rfl T.fld85_1) fun fr E => ?_
  refine sv (v := .map _) E rfl rfl rfl rfl rfl (run_loadB rfl rfl T.one83 (M.row (i := 0) rfl) rfl) fun fr E => ?_
  refine snew (ob := .mapIter (some gm) S.clock #[] S.clock) (fun g => .pointer (some ⟨g, 0, none⟩)) E M rfl rfl rfl rfl rfl (run_rangeI rfl rfl T.map83 (M.ent 2 rfl)) fun gi fr w M E => ?_
  refine seq_nil' ?_
  refine wp_block ?_
  refine loop_dec (fun d fr w => ∃ seen : Array Nat, d = (leftOf (imap S.cache) seen).size ∧ Env [(0, .pointer (some ⟨gd, 0, none⟩)), (2, .int .i64 0), (15, .pointer (some ⟨gi, 0, none⟩))] 32 fr ∧ Mem w0 (feet (dsk gd gm lv rv S)) (.blk gi (.mapIter (some gm) S.clock seen S.clock) :: dsk gd gm lv rv { S with left := w64 (S.left - 1), lasts := syn S.cache seen S.lasts }) (fun _ => True) w) ((leftOf (imap S.cache) #[]).size) ?_ ?_
  · refine ⟨#[], rfl, (((Env.nil E).add E (t := 15) rfl).add E (t := 2) rfl).add E (t := 0) rfl, ?_⟩
    rw [syn_none]
    exact M
  · clear E M
    rintro d fr w ⟨seen, hd, E, M⟩
    by_cases h0 : (leftOf (imap S.cache) seen).size = 0
    · have hall : ∀ e ∈ S.cache, seen.contains e.born = true := fun e he => all_seen _ _ h0 _ (imap_has he)
      refine code_region ?_
      refine sv (v := .tuple #[.bool false]) E rfl rfl rfl rfl rfl (run_nextNo rfl rfl (M.ent 0 rfl) (M.ent 3 rfl) hbo h0) fun fr E => ?_
      refine sv (v := _) E rfl rfl rfl rfl rfl (run_extract rfl rfl rfl) fun fr E => ?_
      refine seq_nil' ?_
      refine wp_seq ?_
      refine cond_false E rfl (rfl) ?_
      refine wp_exit ?_
      refine then_exit ?_
      refine then_exit ?_
      refine block_exit ?_
      refine then_normal ?_
      refine code_region ?_
      refine sv (v := _) E rfl rfl rfl rfl rfl (run_move rfl rfl) fun fr E => ?_
      refine sv (v := _) E rfl rfl rfl rfl rfl (run_nilCheck rfl rfl) fun fr E => ?_
      refine sv (v := .pointer (some ⟨_, 1, none⟩)) E rfl rfl rfl rfl rfl (run_fieldAddr rfl rfl T.fld85_1) fun fr E => ?_
      refine sv (v := .map _) E rfl rfl rfl rfl rfl (run_loadB rfl rfl T.one83 (M.row (i := 1) rfl) rfl) fun fr E => ?_
      refine smclear (i := 3) E M rfl rfl rfl rfl rfl rfl rfl rfl rfl T.map83 fun fr w M E => ?_
      refine seq_nil' ?_
      refine code_region ?_
      refine sv (v := _) E rfl rfl rfl rfl rfl (run_assignC rfl) fun fr E => ?_
      refine seq_nil' ?_
      refine wp_ret ?_
      refine ret1 E rfl rfl ?_
      rw [syn_all hall] at M
      exact ⟨(), rfl, Mem.fin (L := _ :: dsk gd gm lv rv S.sync) M (List.sublist_cons_self _ _) trivial⟩
    · refine code_region ?_
      refine snext (i := 0) (j := 3) E M rfl rfl rfl rfl rfl rfl rfl rfl rfl hbo h0 fun e he hse hsm fr w M E => ?_
      refine sv (v := _) E rfl rfl rfl rfl rfl (run_extract rfl rfl rfl) fun fr E => ?_
      refine seq_nil' ?_
      refine wp_seq ?_
      refine cond_true E rfl (rfl) ?_
      refine wp_skip ?_
      refine then_normal ?_
      refine wp_block ?_
      refine code_region ?_
      obtain ⟨i, hi, hin⟩ : ∃ i : Nat, e.key = (i : Int) ∧ i < S.n := ⟨e.key.toNat, by have := hkr e he; omega, by have := hkr e he; omega⟩
      obtain ⟨l, hl, hl2⟩ := hS.cache e he
      refine sv (v := .tuple #[_, _]) E rfl rfl rfl rfl rfl (run_entryI rfl rfl (M.ent 0 rfl) (M.ent 3 rfl) he hbn) fun fr E => ?_
      refine sv (v := _) E rfl rfl rfl rfl rfl (run_extract rfl rfl rfl) fun fr E => ?_
      refine sv (v := _) E rfl rfl rfl rfl rfl (run_extract rfl rfl rfl) fun fr E => ?_
      refine sv (v := _) E rfl rfl rfl rfl rfl (run_assign rfl rfl) fun fr E => ?_
      refine sv (v := _) E rfl rfl rfl rfl rfl (run_assign rfl rfl) fun fr E => ?_
      refine seq_nil' ?_
      refine code_last ?_
      refine sv (v := _) E rfl rfl rfl rfl rfl (run_move rfl rfl) fun fr E => ?_
      refine sv (v := _) E rfl rfl rfl rfl rfl (run_nilCheck rfl rfl) fun fr E => ?_
      refine sv (v := .pointer (some ⟨_, 0, none⟩)) E rfl rfl rfl rfl rfl (run_fieldAddr rfl rfl T.fld85_0) fun fr E => ?_
      refine sv (v := _) E rfl rfl rfl rfl rfl (run_loadB rfl rfl T.one65 (M.row (i := 1) rfl) rfl) fun fr E => ?_
      refine sv (v := _) E rfl rfl rfl rfl rfl (run_move rfl rfl) fun fr E => ?_
      refine sv (v := _) E rfl rfl rfl rfl rfl (run_move rfl rfl) fun fr E => ?_
      refine sv (v := _) E rfl rfl rfl rfl rfl (run_indexR (i := i) rfl (M.reads 2 rfl) rfl rfl (hi) (hin) T.slice65 T.size30) fun fr E => ?_
      refine ssetR (i := 2) (k := i * 1) (xs' := syn S.cache (seen.push e.born) S.lasts) E M rfl rfl rfl rfl rfl rfl rfl rfl T.size30 (by show i * 1 < S.n * 1; omega) (by obtain ⟨b', c', e'⟩ := Reads.slice (M.pooled (i := 5) rfl hl); rw [show e.val = _ from e']; rfl) (by rw [Nat.mul_one]; exact syn_step he hkn hbn hi) fun fr w M E => ?_
      refine seq_nil ?_
      refine block_normal ?_
      refine then_any ?_
      exact ⟨_, by rw [hd]; exact hsm, seen.push e.born, rfl, (((Env.nil E).add E (t := 15) rfl).add E (t := 2) rfl).add E (t := 0) rfl, M⟩
end Go.Proofs.Ytnojooafgehhaaa.K
end
section
namespace Go.Proofs.Ytnojooafgehhaaa.K
open Go.RowKit Go.Rill Go.Proofs
set_option linter.unusedVariables false
set_option linter.unusedSimpArgs false
/-- What the cache has lasts. -/
def AD.sync (A : AD) : Int × AD := if A.off = true then (12, A) else if A.armed = true ∧ A.left = 0 then (12, { A with off := true }) else (0, { A with left := w64 (A.left - 1), last := A.last.mapIdx fun j l => (aget A.cache (j : Int)).getD l, cache := [] })
theorem lrel_mapIdx {ps : List (Value × List UInt8)} : ∀ {vs : List Value} {ls : List (List UInt8)} {f : Nat → Value → Value} {g : Nat → List UInt8 → List UInt8}, (∀ j v l, (v, l) ∈ ps → l.length ≤ 1024 → (f j v, g j l) ∈ ps ∧ (g j l).length ≤ 1024) → LRel ps vs ls → LRel ps (vs.mapIdx f) (ls.mapIdx g)
  | [], [], _, _, _, _ => by simp [LRel]
  | [], _ :: _, _, _, _, h => h.elim
  | _ :: _, [], _, _, _, h => h.elim
  | v :: vs, l :: ls, f, g, hf, h => by
    rw [List.mapIdx_cons, List.mapIdx_cons]
    exact ⟨hf 0 v l h.1.1 h.1.2, lrel_mapIdx (fun j v l h1 h2 => hf (j + 1) v l h1 h2) h.2⟩
theorem crel_keys {ps : List (Value × List UInt8)} : ∀ {es : List IE} {c : List (Int × List UInt8)}, CRel ps es c → es.map (·.key) = c.map (·.1)
  | [], [], _ => rfl
  | [], _ :: _, h => h.elim
  | _ :: _, [], h => h.elim
  | e :: r, p :: q, h => by rw [List.map_cons, List.map_cons, h.1.1, crel_keys h.2]
theorem Dsk.Abs.keyr {S : Dsk} {A : AD} (h : S.Abs A) : ∀ e ∈ S.cache, 0 ≤ e.key ∧ e.key < (S.n : Int) := fun e he => by
  have h1 : e.key ∈ A.cache.map (·.1) := by rw [← crel_keys h.cache]; exact List.mem_map.2 ⟨e, he, rfl⟩
  obtain ⟨p, hp, hpe⟩ := List.mem_map.1 h1
  have := h.keys.2 p hp
  unfold AD.there at this
  rw [hpe] at this
  rw [h.n]
  exact this
theorem Dsk.Abs.keyn {S : Dsk} {A : AD} (h : S.Abs A) : (S.cache.map (·.key)).Nodup := by rw [crel_keys h.cache]; exact h.keys.1
theorem Dsk.Abs.synced {S : Dsk} {A : AD} (h : S.Abs A) : S.sync.Abs { A with left := w64 (A.left - 1), last := A.last.mapIdx fun j l => (aget A.cache (j : Int)).getD l, cache := [] } := by
  refine ⟨h.n, h.max, by simp [h.len], h.rlen, lrel_mapIdx (fun j v l h1 h2 => ?_) h.last, trivial, ⟨List.nodup_nil, fun p hp => nomatch hp⟩, ⟨List.nodup_nil, fun e he => nomatch he⟩, h.armed, ?_, h.off, h.writes, h.reads⟩
  · cases hc : iget S.cache (j : Int) with
    | none => rw [crel_none h.cache hc]; exact ⟨h1, h2⟩
    | some u => obtain ⟨m, h3, h4, h5⟩ := crel_some h.cache hc; rw [h3]; exact ⟨h4, h5⟩
  · show w64 (S.left - 1) = w64 (A.left - 1); rw [h.left]
theorem Sync_a {D : DV} {g : Nat} {A : AD} {w0 : World} (H : Has w0 [dkE D]) (hD : D.is g A) : Does Try.prog 32 [.pointer (some ⟨g, 0, none⟩)] w0 [dkE D] (fun _ : DV => .int .i64 A.sync.1) (fun x => [dkE x]) (fun x => x.is g A.sync.2) := by
  obtain ⟨gd, gm, lv, rv, S⟩ := D
  obtain ⟨hg, hA⟩ := hD
  have hg : gd = g := hg
  have hA : S.Abs A := hA
  subst hg
  have same : ∀ (S' : Dsk) (r : Int), S'.Abs A.sync.2 → A.sync.1 = r → Does Try.prog 32 [.pointer (some ⟨gd, 0, none⟩)] w0 (dsk gd gm lv rv S) (fun _ : Unit => .int .i64 r) (fun _ => dsk gd gm lv rv S') (fun _ => True) → Does Try.prog 32 [.pointer (some ⟨gd, 0, none⟩)] w0 [dkE ⟨gd, gm, lv, rv, S⟩] (fun _ : DV => .int .i64 A.sync.1) (fun x => [dkE x]) (fun x => x.is gd A.sync.2) := fun S' r h1 h2 h =>
    Does.packed (B := fun _ : DV => []) (C := fun x => dk x) (fun _ => h) H fun _ _ => ⟨⟨gd, gm, lv, rv, S'⟩, by rw [h2], rfl, rfl, h1⟩
  by_cases h0 : A.off = true
  · have e : A.sync = (12, A) := by unfold AD.sync; rw [if_pos h0]
    exact same S 12 (by rw [e]; exact hA) (by rw [e]) (Sync_off H.unpack1 hA.ok (by rw [hA.off]; exact h0))
  have h0' : S.off = false := by rw [hA.off]; simpa using h0
  by_cases h3 : A.armed = true ∧ A.left = 0
  · have e : A.sync = (12, { A with off := true }) := by unfold AD.sync; rw [if_neg h0, if_pos h3]
    exact same { S with off := true } 12 (by rw [e]; exact ⟨hA.n, hA.max, hA.len, hA.rlen, hA.last, hA.cache, hA.keys, hA.born, hA.armed, hA.left, rfl, hA.writes, hA.reads⟩) (by rw [e]) (Sync_fail H.unpack1 hA.ok h0' (by rw [hA.armed]; exact h3.1) (by rw [hA.left]; exact h3.2))
  · have e : A.sync = (0, { A with left := w64 (A.left - 1), last := A.last.mapIdx fun j l => (aget A.cache (j : Int)).getD l, cache := [] }) := by unfold AD.sync; rw [if_neg h0, if_neg h3]
    refine same S.sync 0 (by rw [e]; exact hA.synced) (by rw [e]) ?_
    cases ha : S.armed with
    | true => exact Sync_armed H.unpack1 hA.ok h0' ha (fun c => h3 ⟨by rw [← hA.armed]; exact ha, by rw [← hA.left]; exact c⟩) hA.keyn hA.keyr hA.born.1 hA.born.2
    | false => exact Sync_free H.unpack1 hA.ok h0' ha hA.keyn hA.keyr hA.born.1 hA.born.2
end Go.Proofs.Ytnojooafgehhaaa.K
end
section
namespace Go.Proofs.Ytnojooafgehhaaa.K
open Go.RowKit Go.Rill Go.Proofs
set_option linter.unusedVariables false
set_option linter.unusedSimpArgs false
set_option maxRecDepth 100000 in
theorem Keys_x {gm : Nat} {w0 : World} : Does Try.prog 92 [.map (some gm)] w0 [] (fun g => .func (.func 97) #[] #[.pointer (some ⟨g, 0, none⟩)]) (fun g : Nat => [.blk g (.cells #[.map (some gm)] 83)]) (fun _ => True) := by
  refine enter (n := 4) Try.func92 rfl rfl rfl ?_
  intro fr E
  have M : Mem w0 (feet []) [] (fun _ => True) w0 := Mem.begin (Has.nil w0) (fun _ _ => trivial)
  refine code_region ?_
  refine snew (ob := .cells (#[.map (some gm)]) 83) (fun g => .pointer (some ⟨g, 0, none⟩)) E M rfl rfl rfl rfl rfl (run_box1 (v := _) rfl rfl rfl) fun g0 fr w M E => ?_
  refine sv (v := _) E rfl rfl rfl rfl rfl (run_assignC rfl) fun fr E => ?_
  refine seq_nil' ?_
  refine code_region ?_
  refine sv (v := .func (.func 97) #[] #[.pointer (some ⟨g0, 0, none⟩)]) E rfl rfl rfl rfl rfl (run_makeFunc1 rfl rfl) fun fr E => ?_
  refine sv (v := _) E rfl rfl rfl rfl rfl (run_assign rfl rfl) fun fr E => ?_
  refine seq_nil' ?_
  refine wp_ret ?_
  refine ret1 E rfl rfl ?_
  exact ⟨g0, rfl, Mem.fin (L := [.blk g0 (.cells #[.map (some gm)] 83)]) M (List.Sublist.refl _) trivial⟩

end Go.Proofs.Ytnojooafgehhaaa.K
end
section
namespace Go.Proofs.Ytnojooafgehhaaa.K
open Go.RowKit Go.Rill Go.Proofs Go.Shelf
set_option linter.unusedVariables false
set_option linter.unusedSimpArgs false
attribute [local go_sem] Oper.semAt_some
end Go.Proofs.Ytnojooafgehhaaa.K
end
section
namespace Go.Proofs.Ytnojooafgehhaaa.K
open Go.RowKit Go.Rill Go.Proofs
set_option linter.unusedVariables false
set_option linter.unusedSimpArgs false
end Go.Proofs.Ytnojooafgehhaaa.K
end
section
namespace Go.Proofs.Ytnojooafgehhaaa.K
open Go.RowKit Go.Rill Go.Proofs
set_option linter.unusedVariables false
set_option linter.unusedSimpArgs false
section
variable {G : Int} {st : List Int}
end
end Go.Proofs.Ytnojooafgehhaaa.K
end
section
namespace Go.Proofs.Ytnojooafgehhaaa.K
open Go.RowKit Go.Rill Go.Proofs
set_option linter.unusedVariables false
set_option linter.unusedSimpArgs false
end Go.Proofs.Ytnojooafgehhaaa.K
end
section
namespace Go.Rill.T
open Go.Proofs
abbrev tab33_4_b : List Nat := [0, 1, 3, 7, 0, 0, 32, 96, 224, 0, 992, 2047, 4095]
theorem tab33_4 : tabOk (regOps Try.f33 4) tab33_4_b 48 = true := by kernel_rfl
abbrev tab33_4_j : List Nat := [0, 1, 2, 3, 4, 5, 6, 7, 8, 9, 10, 11]
end Go.Rill.T
end
section
namespace Go.Rill.T
open Go.Proofs
abbrev tab35_4_b : List Nat := [0, 1, 3, 7, 0, 0, 32, 127, 255]
theorem tab35_4 : tabOk (regOps Try.f35 4) tab35_4_b 28 = true := by kernel_rfl
abbrev tab35_4_j : List Nat := [0, 1, 2, 3, 4, 5, 6, 7]
end Go.Rill.T
end
section
namespace Go.Proofs.Ytnojooafgehhaaa.K
open Go.RowKit Go.Rill Go.Proofs
set_option linter.unusedVariables false
set_option linter.unusedSimpArgs false
def Dsk.tampered (S : Dsk) (j : Nat) (v : Value) (l : List UInt8) : Dsk := { S with lasts := S.lasts.set j v, cache := idel (j : Int) S.cache, ps := (v, l) :: S.ps }
set_option maxRecDepth 100000 in
theorem Tamper_out {gd gm : Nat} {lv rv : Value} {S : Dsk} {w0 : World} (H : Has w0 (dsk gd gm lv rv S)) (hS : S.Ok) {i : Int} {b : Value} {l : List UInt8} (hb : Bytes w0 b l) (hap : ∀ g, b.ownBlock = some g → ¬ feet (dsk gd gm lv rv S) g) (h : ¬ (0 ≤ i ∧ i < (S.n : Int))) : Does Try.prog 35 [.pointer (some ⟨gd, 0, none⟩), .int .i64 i, b] w0 (dsk gd gm lv rv S) (fun _ : Unit => .int .i64 7) (fun _ => dsk gd gm lv rv S) (fun _ => True) := by
  refine enter (n := 28) Try.func35 rfl rfl rfl ?_
  intro fr E
  have M : Mem w0 (feet (dsk gd gm lv rv S)) (dsk gd gm lv rv S) (fun w' => Bytes w' b l) w0 := Mem.begin H (fun w' h => Reads.held hb h hap)
  refine code_region ?_
  refine sv (v := _) E rfl rfl rfl rfl rfl (run_assignC rfl) fun fr E => ?_
  refine seq_nil' ?_
  refine wp_seq ?_
  refine code_region ?_
  refine sv (v := _) E rfl rfl rfl rfl rfl (run_move rfl rfl) fun fr E => ?_
  refine sv (v := _) E rfl rfl rfl rfl rfl (run_move rfl rfl) fun fr E => ?_
  refine sv (v := _) E rfl rfl rfl rfl rfl (run_move rfl rfl) fun fr E => ?_
  refine scallI (dsk gd gm lv rv S) E M rfl rfl rfl rfl rfl (run_call rfl rfl T.fn67) rfl (fun H => wrong_out H hS M.fact hap h) ?_
  rintro _ fr w - M E
  refine sv (v := _) E rfl rfl rfl rfl rfl (run_assign rfl rfl) fun fr E => ?_
  refine seq_nil' ?_
  refine code_region ?_
  refine sv (v := _) E rfl rfl rfl rfl rfl (run_move rfl rfl) fun fr E => ?_
  refine sv (v := .bool _) E rfl rfl rfl rfl rfl (rfl) fun fr E => ?_
  refine seq_nil' ?_
  refine cond_true E rfl (rfl) ?_
  refine code_region ?_
  refine sv (v := _) E rfl rfl rfl rfl rfl (run_move rfl rfl) fun fr E => ?_
  refine sv (v := _) E rfl rfl rfl rfl rfl (run_assign rfl rfl) fun fr E => ?_
  refine seq_nil' ?_
  refine wp_ret ?_
  refine then_ret ?_
  refine ret1 E rfl rfl ?_
  exact ⟨(), rfl, M.fin (List.Sublist.refl _) trivial⟩

set_option maxRecDepth 100000 in
theorem Tamper_long {gd gm : Nat} {lv rv : Value} {S : Dsk} {w0 : World} (H : Has w0 (dsk gd gm lv rv S)) (hS : S.Ok) {i : Int} {b : Value} {l : List UInt8} (hb : Bytes w0 b l) (hap : ∀ g, b.ownBlock = some g → ¬ feet (dsk gd gm lv rv S) g) (h : 0 ≤ i ∧ i < (S.n : Int)) (hl : 1024 < l.length) : Does Try.prog 35 [.pointer (some ⟨gd, 0, none⟩), .int .i64 i, b] w0 (dsk gd gm lv rv S) (fun _ : Unit => .int .i64 3) (fun _ => dsk gd gm lv rv S) (fun _ => True) := by
  refine enter (n := 28) Try.func35 rfl rfl rfl ?_
  intro fr E
  have M : Mem w0 (feet (dsk gd gm lv rv S)) (dsk gd gm lv rv S) (fun w' => Bytes w' b l) w0 := Mem.begin H (fun w' h => Reads.held hb h hap)
  refine code_region ?_
  refine sv (v := _) E rfl rfl rfl rfl rfl (run_assignC rfl) fun fr E => ?_
  refine seq_nil' ?_
  refine wp_seq ?_
  refine code_region ?_
  refine sv (v := _) E rfl rfl rfl rfl rfl (run_move rfl rfl) fun fr E => ?_
  refine sv (v := _) E rfl rfl rfl rfl rfl (run_move rfl rfl) fun fr E => ?_
  refine sv (v := _) E rfl rfl rfl rfl rfl (run_move rfl rfl) fun fr E => ?_
  refine scallI (dsk gd gm lv rv S) E M rfl rfl rfl rfl rfl (run_call rfl rfl T.fn67) rfl (fun H => wrong_long H hS M.fact hap h hl) ?_
  rintro _ fr w - M E
  refine sv (v := _) E rfl rfl rfl rfl rfl (run_assign rfl rfl) fun fr E => ?_
  refine seq_nil' ?_
  refine code_region ?_
  refine sv (v := _) E rfl rfl rfl rfl rfl (run_move rfl rfl) fun fr E => ?_
  refine sv (v := .bool _) E rfl rfl rfl rfl rfl (rfl) fun fr E => ?_
  refine seq_nil' ?_
  refine cond_true E rfl (rfl) ?_
  refine code_region ?_
  refine sv (v := _) E rfl rfl rfl rfl rfl (run_move rfl rfl) fun fr E => ?_
  refine sv (v := _) E rfl rfl rfl rfl rfl (run_assign rfl rfl) fun fr E => ?_
  refine seq_nil' ?_
  refine wp_ret ?_
  refine then_ret ?_
  refine ret1 E rfl rfl ?_
  exact ⟨(), rfl, M.fin (List.Sublist.refl _) trivial⟩

set_option maxRecDepth 100000 in
theorem Tamper_ok {gd gm : Nat} {lv rv : Value} {S : Dsk} {w0 : World} (H : Has w0 (dsk gd gm lv rv S)) (hS : S.Ok) {j : Nat} {b : Value} {l : List UInt8} (hb : Bytes w0 b l) (hap : ∀ g, b.ownBlock = some g → ¬ feet (dsk gd gm lv rv S) g) (hj : j < S.n) (h : 0 ≤ (j : Int) ∧ (j : Int) < (S.n : Int)) (hl : ¬ 1024 < l.length) : Does Try.prog 35 [.pointer (some ⟨gd, 0, none⟩), .int .i64 (j : Int), b] w0 (dsk gd gm lv rv S) (fun _ : Value => .int .i64 0) (fun v => dsk gd gm lv rv (S.tampered j v l)) (fun _ => True) := by
  refine enter (n := 28) Try.func35 rfl rfl rfl ?_
  intro fr E
  have M : Mem w0 (feet (dsk gd gm lv rv S)) (dsk gd gm lv rv S) (fun w' => Bytes w' b l) w0 := Mem.begin H (fun w' h => Reads.held hb h hap)
  refine code_region ?_
  refine sv (v := _) E rfl rfl rfl rfl rfl (run_assignC rfl) fun fr E => ?_
  refine seq_nil' ?_
  refine wp_seq ?_
  refine code_region ?_
  refine sv (v := _) E rfl rfl rfl rfl rfl (run_move rfl rfl) fun fr E => ?_
  refine sv (v := _) E rfl rfl rfl rfl rfl (run_move rfl rfl) fun fr E => ?_
  refine sv (v := _) E rfl rfl rfl rfl rfl (run_move rfl rfl) fun fr E => ?_
  refine scallI (dsk gd gm lv rv S) E M rfl rfl rfl rfl rfl (run_call rfl rfl T.fn67) rfl (fun H => wrong_ok H hS M.fact hap h hl) ?_
  rintro _ fr w - M E
  refine sv (v := _) E rfl rfl rfl rfl rfl (run_assign rfl rfl) fun fr E => ?_
  refine seq_nil' ?_
  refine code_region ?_
  refine sv (v := _) E rfl rfl rfl rfl rfl (run_move rfl rfl) fun fr E => ?_
  refine sv (v := .bool _) E rfl rfl rfl rfl rfl (rfl) fun fr E => ?_
  refine seq_nil' ?_
  refine cond_false E rfl (rfl) ?_
  refine wp_skip ?_
  refine then_normal ?_
  refine wp_seq (free_last (B := T.tab35_4_b) (Vs := (.exact _ :: .exact _ :: .exact (.pointer (some ⟨_, 0, none⟩)) :: .exact _ :: .exact _ :: .exact _ :: CameV w.heap.size (fun v => [.bytes 5 v l]) (fun _ => True) :: .exact _ :: [])) T.tab35_4_j 8 E T.mixed T.tab35_4 rfl rfl rfl (AllS.lasts ⟨trivial, trivial, trivial, trivial, trivial, trivial, LastsS.cameV, trivial, trivial⟩) ⟨fs_val rfl rfl (fun x w hx hk => ⟨_, _, rfl, rfl, rfl, run_move rfl rfl, Ext.refl _, rfl⟩),
      fs_val rfl rfl (fun x w hx hk => ⟨_, _, rfl, rfl, rfl, run_nilCheck rfl rfl, Ext.refl _, rfl⟩),
      fs_val rfl rfl (fun x w hx hk => ⟨_, _, rfl, rfl, rfl, run_fieldAddr rfl rfl T.fld85_0, Ext.refl _, rfl⟩),
      fs_val rfl rfl (fun x w hx hk => ⟨_, _, rfl, rfl, rfl, run_loadB rfl rfl T.one65 ((M.ext ((Ext.drew _).trans hx)).row (i := 0) rfl) rfl, Ext.refl _, rfl⟩),
      fs_val rfl rfl (fun x w hx hk => ⟨_, _, rfl, rfl, rfl, run_move rfl rfl, Ext.refl _, rfl⟩),
      fs_val rfl rfl (fun x w hx hk => ⟨_, _, rfl, rfl, rfl, run_move rfl rfl, Ext.refl _, rfl⟩),
      fs_ext rfl rfl (fun x w hx hk => ⟨_, _, rfl, rfl, rfl, run_call rfl rfl T.fn68, (Clone_x (M.ext ((Ext.drew _).trans hx)).fact (by omega)).extV hx.size⟩),
      fs_val rfl rfl (fun x w hx hk => ⟨_, _, rfl, rfl, rfl, run_indexR (i := j) rfl ((M.ext ((Ext.drew _).trans hx)).reads 1 rfl) rfl rfl (rfl) (hj) T.slice65 T.size30, Ext.refl _, rfl⟩), trivial⟩ ?_)
  intro x fr w hx hk E
  have M := M.adopts hx (hk 6 (by decide)).1 (hk 6 (by decide)).2.1
  refine last_setR (i := 2) (k := j * 1) (u := x 6) (xs' := S.lasts.set j (x 6)) E M rfl rfl rfl rfl rfl rfl rfl rfl rfl T.size30 (by omega) (by obtain ⟨b', c', e'⟩ := Reads.slice (M.bytes 0 rfl); rw [e']; rfl) (by rw [Nat.mul_one]) fun fr w M E => ?_
  refine then_normal ?_
  refine code_region ?_
  refine sv (v := _) E rfl rfl rfl rfl rfl (run_move rfl rfl) fun fr E => ?_
  refine sv (v := _) E rfl rfl rfl rfl rfl (run_nilCheck rfl rfl) fun fr E => ?_
  refine sv (v := .pointer (some ⟨_, 1, none⟩)) E rfl rfl rfl rfl rfl (run_fieldAddr rfl rfl T.fld85_1) fun fr E => ?_
  refine sv (v := .map _) E rfl rfl rfl rfl rfl (run_loadB rfl rfl T.one83 (M.row (i := 1) rfl) rfl) fun fr E => ?_
  refine sv (v := _) E rfl rfl rfl rfl rfl (run_move rfl rfl) fun fr E => ?_
  refine smdel (i := 3) E M rfl rfl rfl rfl rfl rfl rfl rfl rfl rfl T.map83 fun fr w M E => ?_
  refine seq_nil' ?_
  refine code_region ?_
  refine sv (v := _) E rfl rfl rfl rfl rfl (run_assignC rfl) fun fr E => ?_
  refine seq_nil' ?_
  refine wp_ret ?_
  refine ret1 E rfl rfl ?_
  have M := (M.pull 5 rfl).pull 1 rfl
  have M := M.pour.perm (L' := dsk gd gm lv rv (S.tampered j _ l)) (perm5 _ _ _ _ _)
  exact ⟨_, rfl, M.fin (List.Sublist.refl _) trivial⟩

set_option maxRecDepth 100000 in
theorem Arm_x {gd gm : Nat} {lv rv : Value} {S : Dsk} {w0 : World} (H : Has w0 (dsk gd gm lv rv S)) (hS : S.Ok) (n : Int) : Does Try.prog 69 [.pointer (some ⟨gd, 0, none⟩), .int .i64 n] w0 (dsk gd gm lv rv S) (fun _ : Unit => .tuple #[]) (fun _ => dsk gd gm lv rv { S with armed := decide (0 ≤ n), left := n }) (fun _ => True) := by
  refine enter (n := 13) Try.func69 rfl rfl rfl ?_
  intro fr E
  have M : Mem w0 (feet (dsk gd gm lv rv S)) (dsk gd gm lv rv S) (fun _ => True) w0 := Mem.begin H (fun _ _ => trivial)
  refine code_last ?_
  refine sv (v := _) E rfl rfl rfl rfl rfl (run_move rfl rfl) fun fr E => ?_
  refine sv (v := _) E rfl rfl rfl rfl rfl (run_move rfl rfl) fun fr E => ?_
  refine sv (v := _) E rfl rfl rfl rfl rfl (run_move rfl rfl) fun fr E => ?_
  refine sv (v := .bool (decide (0 ≤ n))) E rfl rfl rfl rfl rfl (rfl) fun fr E => ?_
  refine sv (v := _) E rfl rfl rfl rfl rfl (run_move rfl rfl) fun fr E => ?_
  refine sv (v := _) E rfl rfl rfl rfl rfl (run_nilCheck rfl rfl) fun fr E => ?_
  refine sv (v := .pointer (some ⟨_, 2, none⟩)) E rfl rfl rfl rfl rfl (run_fieldAddr rfl rfl T.fld85_2) fun fr E => ?_
  refine sset (i := 0) (cs' := #[_, _, _, _, _, _, _]) E M rfl rfl rfl rfl rfl (run_store1' (v := _) rfl rfl rfl T.size4 (M.row (i := 0) rfl) (rfl) (rfl) (rfl)) rfl fun fr w M E => ?_
  refine sv (v := _) E rfl rfl rfl rfl rfl (run_nilCheck rfl rfl) fun fr E => ?_
  refine sv (v := .pointer (some ⟨_, 3, none⟩)) E rfl rfl rfl rfl rfl (run_fieldAddr rfl rfl T.fld85_3) fun fr E => ?_
  refine sset (i := 0) (cs' := #[_, _, _, _, _, _, _]) E M rfl rfl rfl rfl rfl (run_store1' (v := _) rfl rfl rfl T.size3 (M.row (i := 0) rfl) (rfl) (rfl) (rfl)) rfl fun fr w M E => ?_
  refine seq_nil ?_
  refine ret0 E rfl ?_
  exact ⟨(), rfl, M.fin (List.Sublist.refl _) trivial⟩

/-- A sector is written past the cache. -/
def AD.tamper (A : AD) (i : Int) (l : List UInt8) : Int × AD := if ¬ A.there i then (7, A) else if 1024 < l.length then (3, A) else (0, { A with last := A.last.set i.toNat l, cache := A.cache.filter fun p => !(p.1 == i) })
def AD.arm (A : AD) (n : Int) : AD := { A with armed := decide (0 ≤ n), left := n }
theorem Arm_a {D : DV} {g : Nat} {A : AD} {w0 : World} (H : Has w0 [dkE D]) (hD : D.is g A) (n : Int) : Does Try.prog 69 [.pointer (some ⟨g, 0, none⟩), .int .i64 n] w0 [dkE D] (fun _ : DV => .tuple #[]) (fun x => [dkE x]) (fun x => x.is g (A.arm n)) := by
  obtain ⟨gd, gm, lv, rv, S⟩ := D
  obtain ⟨hg, hA⟩ := hD
  have hg : gd = g := hg
  have hA : S.Abs A := hA
  subst hg
  exact Does.packed (B := fun _ : DV => []) (C := fun x => dk x) (fun _ => Arm_x H.unpack1 hA.ok n) H fun _ _ => ⟨⟨gd, gm, lv, rv, { S with armed := decide (0 ≤ n), left := n }⟩, rfl, rfl, rfl, ⟨hA.n, hA.max, hA.len, hA.rlen, hA.last, hA.cache, hA.keys, hA.born, rfl, rfl, hA.off, hA.writes, hA.reads⟩⟩
theorem lrel_set {ps : List (Value × List UInt8)} {u : Value} {k : List UInt8} (hu : (u, k) ∈ ps ∧ k.length ≤ 1024) : ∀ {vs : List Value} {ls : List (List UInt8)} {j : Nat}, LRel ps vs ls → LRel ps (vs.set j u) (ls.set j k)
  | [], [], _, _ => trivial
  | [], _ :: _, _, h => h.elim
  | _ :: _, [], _, h => h.elim
  | v :: vs, l :: ls, 0, h => ⟨hu, h.2⟩
  | v :: vs, l :: ls, j + 1, h => ⟨h.1, lrel_set hu h.2⟩
theorem crel_del {ps : List (Value × List UInt8)} {q : Int} : ∀ {es : List IE} {c : List (Int × List UInt8)}, (c.map (·.1)).Nodup → CRel ps es c → CRel ps (idel q es) (c.filter fun p => !(p.1 == q))
  | [], [], _, _ => trivial
  | [], _ :: _, _, h => h.elim
  | _ :: _, [], _, h => h.elim
  | e :: r, p :: s, hn, h => by
    rw [List.map_cons, List.nodup_cons] at hn
    rw [List.filter_cons]
    unfold idel
    by_cases hq : q = e.key
    · have hp : p.1 = q := by rw [hq]; exact h.1.1.symm
      rw [if_pos hq, if_neg (by simp [hp])]
      rw [List.filter_eq_self.2 fun x hx => by
        simp only [Bool.not_eq_true', beq_eq_false_iff_ne]
        exact fun c => hn.1 (List.mem_map.2 ⟨x, hx, c.trans hp.symm⟩)]
      exact h.2
    · have hp : ¬ p.1 = q := fun c => hq (c.symm.trans h.1.1.symm)
      rw [if_neg hq, if_pos (by simpa using hp)]
      exact ⟨h.1, crel_del hn.2 h.2⟩
theorem idel_sub (q : Int) : ∀ es : List IE, (idel q es).Sublist es
  | [] => .slnil
  | e :: r => by
    unfold idel
    split
    · exact List.sublist_cons_self _ _
    · exact (idel_sub q r).cons_cons _
theorem Tamper_a {D : DV} {g : Nat} {A : AD} {w0 : World} (H : Has w0 [dkE D]) (hD : D.is g A) {i : Int} {b : Value} {l : List UInt8} (hb : Bytes w0 b l) (hap : ∀ g, b.ownBlock = some g → g ∉ (dkE D).foot) : Does Try.prog 35 [.pointer (some ⟨g, 0, none⟩), .int .i64 i, b] w0 [dkE D] (fun _ : DV => .int .i64 (A.tamper i l).1) (fun x => [dkE x]) (fun x => x.is g (A.tamper i l).2) := by
  obtain ⟨gd, gm, lv, rv, S⟩ := D
  obtain ⟨hg, hA⟩ := hD
  have hg : gd = g := hg
  have hA : S.Abs A := hA
  subst hg
  have hap' : ∀ g, b.ownBlock = some g → ¬ feet (dsk gd gm lv rv S) g := fun g hg c => hap g hg (Ent.mem_all.2 c)
  have same : ∀ (r : Int), A.tamper i l = (r, A) → Does Try.prog 35 [.pointer (some ⟨gd, 0, none⟩), .int .i64 i, b] w0 (dsk gd gm lv rv S) (fun _ : Unit => .int .i64 r) (fun _ => dsk gd gm lv rv S) (fun _ => True) → Does Try.prog 35 [.pointer (some ⟨gd, 0, none⟩), .int .i64 i, b] w0 [dkE ⟨gd, gm, lv, rv, S⟩] (fun _ : DV => .int .i64 (A.tamper i l).1) (fun x => [dkE x]) (fun x => x.is gd (A.tamper i l).2) := fun r e h =>
    Does.packed (B := fun _ : DV => []) (C := fun x => dk x) (fun _ => h) H fun _ _ => ⟨⟨gd, gm, lv, rv, S⟩, by rw [e], rfl, rfl, by rw [e]; exact hA⟩
  by_cases h1 : A.there i
  · have h1' : 0 ≤ i ∧ i < (S.n : Int) := by rw [hA.n]; exact h1
    by_cases h2 : 1024 < l.length
    · exact same 3 (by unfold AD.tamper; rw [if_neg (by simpa using h1), if_pos h2]) (Tamper_long H.unpack1 hA.ok hb hap' h1' h2)
    · have e : A.tamper i l = (0, { A with last := A.last.set i.toNat l, cache := A.cache.filter fun p => !(p.1 == i) }) := by unfold AD.tamper; rw [if_neg (by simpa using h1), if_neg h2]
      obtain ⟨j, rfl⟩ : ∃ j : Nat, i = (j : Int) := ⟨i.toNat, by omega⟩
      have hj : j < S.n := by omega
      refine Does.packed (B := fun _ : DV => []) (C := fun x => dk x) (fun _ => Tamper_ok (j := j) H.unpack1 hA.ok hb hap' hj h1' h2) H fun v _ => ⟨⟨gd, gm, lv, rv, S.tampered j v l⟩, by rw [e], rfl, rfl, ?_⟩
      rw [e]
      refine ⟨hA.n, hA.max, by simp [hA.len], hA.rlen, lrel_set ⟨List.mem_cons_self .., by omega⟩ (lrel_mono hA.last), crel_del hA.keys.1 (crel_mono hA.cache), ⟨?_, fun p hp => hA.keys.2 p (List.mem_filter.1 hp).1⟩, ⟨((idel_sub _ _).map _).nodup hA.born.1, fun x hx => hA.born.2 x ((idel_sub _ _).mem hx)⟩, hA.armed, hA.left, hA.off, hA.writes, hA.reads⟩
      exact (List.filter_sublist.map _).nodup hA.keys.1
  · have h1' : ¬ (0 ≤ i ∧ i < (S.n : Int)) := by rw [hA.n]; exact h1
    exact same 7 (by unfold AD.tamper; rw [if_pos h1]) (Tamper_out H.unpack1 hA.ok hb hap' h1')
end Go.Proofs.Ytnojooafgehhaaa.K
end
section
namespace Go.Proofs.Ytnojooafgehhaaa.K
open Go.RowKit Go.Rill Go.Proofs Go.Maps Go.Sort Go.Shelf
set_option linter.unusedVariables false
set_option linter.unusedSimpArgs false
def R0 : Value → Option (DataW Unit × List MemPlace) := fun _ => some (.lit (.int .i64 0), [])
abbrev dOf (P : Program) (es : List IE) : DataW Unit := .map (((imap es).toList.map (WideElems.rg P 3 R0)).foldr DataW.insert [])
/-- The dirty sectors, in order. -/
def dirtyK (es : List IE) : List Int := (es.map (·.key)).mergeSort leI
theorem key_i {x : Int} (h : 0 ≤ x) (h2 : x < 4096) : keyOf Try.prog 3 (.int .i64 x) = some (.int .i64 x) := by
  refine Maps.keyOf_int_mk Try.underlying3 ?_
  show (decide (IntKind.i64.min ≤ x) && decide (x ≤ IntKind.i64.max)) = true
  have a : IntKind.min .i64 = -9223372036854775808 := by decide
  have b : IntKind.max .i64 = 9223372036854775807 := by decide
  rw [a, b, Bool.and_eq_true, decide_eq_true_eq, decide_eq_true_eq]
  omega
theorem rg_i {e : IE} (h : 0 ≤ e.key ∧ e.key < 4096) : WideElems.rd Try.prog 3 R0 { key := .int .i64 e.key, val := e.val, born := e.born } = some (.int .i64 e.key, .lit (.int .i64 0)) := by
  simp [WideElems.rd, key_i h.1 h.2, R0]
theorem fit_i {es : List IE} {ck : Nat} (hk : (es.map (·.key)).Nodup) (hr : ∀ e ∈ es, 0 ≤ e.key ∧ e.key < 4096) (hb : (es.map (·.born)).Nodup) (hbo : ∀ e ∈ es, e.born < ck) (hn : es.length ≤ 4096) : WideElems.Fit Try.prog 3 R0 (imap es) ck := by
  refine ⟨by simp [imap]; exact Nat.le_trans hn (by decide), (MapKept.stamped_iff _ _).2 ⟨fun x hx => ?_, by rw [imap_born]; exact hb, ?_⟩, fun x hx => ?_⟩
  · obtain ⟨a, ha, rfl⟩ := imap_mem hx
    exact hbo a ha
  · simp only [imap, List.pairwise_map]
    rw [List.Nodup, List.pairwise_map] at hk
    exact hk.imp fun h c => h (by injection c)
  · obtain ⟨a, ha, rfl⟩ := imap_mem hx
    exact ⟨_, rg_i (hr a ha)⟩
theorem keys_i {es : List IE} (hr : ∀ e ∈ es, 0 ≤ e.key ∧ e.key < 4096) : (intKeys (dOf Try.prog es)).Perm (es.map (·.key)) := by
  have h := (WideShapes.sorted_perm ((imap es).toList.map (WideElems.rg Try.prog 3 R0))).map (fun p => Go.intOf p.1)
  refine h.trans (List.Perm.of_eq ?_)
  simp only [imap, List.map_map]
  refine List.map_congr_left fun a ha => ?_
  simp only [Function.comp]
  rw [WideElems.rg_of (rg_i (hr a ha))]
  rfl
theorem sortsIn (m : Nat) : AnyZI.SortsIn Try.prog Try.sortedL_ren Fence.wide m :=
  ⟨fun blk off cap ss W hH hblk hsz => callsIn_wide.2 (AnyM.slices_Sort_int Try.sortL blk off cap ss W hH hblk hsz), fun p cap W => callsIn_wide.2 (AnyM.slices_Sort_int_none Try.sortL p cap W)⟩
set_option maxHeartbeats 1000000 in
theorem Sorted_x {g gm ck : Nat} {es : List IE} {w0 : World} (hg : w0.heap[g]? = some (.cells #[.map (some gm)] 83 (0, 0))) (hm : w0.heap[gm]? = some (.map (imap es) ck)) (hk : (es.map (·.key)).Nodup) (hr : ∀ e ∈ es, 0 ≤ e.key ∧ e.key < 4096) (hb : (es.map (·.born)).Nodup) (hbo : ∀ e ∈ es, e.born < ck) (hn : es.length ≤ 4096) :
    Does Try.prog 91 [.func (.func 97) #[] #[.pointer (some ⟨g, 0, none⟩)]] w0 [] (fun v : Value => v) (fun v => [.row 3 1 v es.length (ic (dirtyK es))]) (fun _ => True) := by
  have hown : w0.ownsMap Try.prog 3 R0 gm es.length (dOf Try.prog es) := ⟨imap es, ck, hm, fit_i hk hr hb hbo hn, by simp [imap], rfl⟩
  have hsz : Maps.size (dOf Try.prog es) = es.length := by simp [Maps.size, length_sorted, imap]
  have hseq : SeqGives Fence.wide 2 Try.prog 97 #[.pointer (some ⟨g, 0, none⟩)] encZ (fun ss => ss.Perm (intKeys (dOf Try.prog es))) (Maps.size (dOf Try.prog es)) w0 :=
    AnyZI.keys_gives (ρ := Try.keysL_ren) { Try.keysL with } Fence.wide _ trivial rfl (by omega) g gm es.length (dOf Try.prog es) _ (Array.getElem?_eq_some_iff.1 hg).1 (by simp [World.cell?, hg]) hown
  have cS := AnyZI.sorted_in Try.sortedL Fence.wide 5 trivial trivial trivial trivial rfl (by omega) (sortsIn _) (enters_of Try.func96 (by kernel_rfl) rfl) 97 #[.pointer (some ⟨g, 0, none⟩)] trivial (enters_of Try.func97 (by kernel_rfl) rfl) _ _ (by rw [hsz]; exact Nat.le_trans hn (by decide)) (by rw [hsz]; omega) _ hseq
  change CallsIn _ _ Try.prog 91 _ _ _ at cS
  refine callsIn_wide.1 (cS.mono ?_)
  rintro e w' ⟨v, ss, rfl, hS, hrow, hnil, hbel⟩
  have hp : ss.Perm (es.map (·.key)) := hS.trans (keys_i hr)
  have e1 : (ss.mergeSort fun x y => decide (x ≤ y)) = dirtyK es := mergeSort_of_perm_i hp
  have e2 : ss.length = es.length := by rw [hp.length_eq]; simp
  rw [e1, e2] at hrow
  have hrow0 := ownsRow_base_a hrow (Nat.zero_le _)
  have hfoot : ∀ q ∈ (Ent.row 3 1 v es.length (ic (dirtyK es))).foot, w0.heap.size ≤ q ∧ q < w'.heap.size := fun q hq => by
    rcases hrow.2 with ⟨rfl, _⟩ | ⟨g', cap, cur, rfl, h0, hgg, _⟩
    · simp [Ent.row, Value.ownBlock] at hq
    · simp [Ent.row, Value.ownBlock] at hq
      subst hq
      exact ⟨h0, (Array.getElem?_eq_some_iff.1 hgg).1⟩
  refine ⟨v, rfl, .of_ext hbel, ⟨fun e he => ?_, fun e he q hq => ?_, List.pairwise_singleton _ _⟩, fun q hq => .inr ?_, trivial⟩
  · rw [List.mem_singleton.1 he]; exact hrow0
  · rw [List.mem_singleton.1 he] at hq; exact (hfoot q hq).2
  · rw [feet_one] at hq; exact (hfoot q hq).1

set_option maxRecDepth 100000 in
theorem Dirty_x {gd gm : Nat} {lv rv : Value} {S : Dsk} {w0 : World} (H : Has w0 (dsk gd gm lv rv S)) (hS : S.Ok) (hkn : (S.cache.map (·.key)).Nodup) (hkr : ∀ e ∈ S.cache, 0 ≤ e.key ∧ e.key < 4096) (hbn : (S.cache.map (·.born)).Nodup) (hbo : ∀ e ∈ S.cache, e.born < S.clock) (hlen : S.cache.length ≤ 4096) : Does Try.prog 66 [.pointer (some ⟨gd, 0, none⟩)] w0 (dsk gd gm lv rv S) (fun v : Value => v) (fun v => .row 3 1 v S.cache.length (ic (dirtyK S.cache)) :: dsk gd gm lv rv S) (fun _ => True) := by
  refine enter (n := 9) Try.func66 rfl rfl rfl ?_
  intro fr E
  have M : Mem w0 (feet (dsk gd gm lv rv S)) (dsk gd gm lv rv S) (fun _ => True) w0 := Mem.begin H (fun _ _ => trivial)
  refine code_region ?_
  refine sv (v := _) E rfl rfl rfl rfl rfl (run_assignC rfl) fun fr E => ?_
  refine seq_nil' ?_
  refine code_region ?_
  refine sv (v := _) E rfl rfl rfl rfl rfl (run_move rfl rfl) fun fr E => ?_
  refine sv (v := _) E rfl rfl rfl rfl rfl (run_nilCheck rfl rfl) fun fr E => ?_
  refine sv (v := .pointer (some ⟨_, 1, none⟩)) E rfl rfl rfl rfl rfl (run_fieldAddr rfl rfl T.fld85_1) fun fr E => ?_
  refine sv (v := .map _) E rfl rfl rfl rfl rfl (run_loadB rfl rfl T.one83 (M.row (i := 0) rfl) rfl) fun fr E => ?_
  refine scall E M rfl rfl rfl rfl rfl (run_call rfl rfl T.fn92) (Keys_x) rfl ?_
  rintro g0 fr w - M E
  refine scall E M rfl rfl rfl rfl rfl (run_call rfl rfl T.fn91) (Sorted_x (M.ent 0 rfl) (M.ent 3 rfl) hkn hkr hbn hbo hlen) rfl ?_
  rintro v fr w - M E
  refine sv (v := _) E rfl rfl rfl rfl rfl (run_assign rfl rfl) fun fr E => ?_
  refine seq_nil' ?_
  refine wp_ret ?_
  refine ret1 E rfl rfl ?_
  have M := M.pull 6 rfl
  have M := M.pull 6 rfl
  have M := M.pull 6 rfl
  have M := M.pull 6 rfl
  have M := M.pull 6 rfl
  have M := M.pull 5 rfl
  exact ⟨v, rfl, Mem.fin (L := (.row 3 1 v S.cache.length (ic (dirtyK S.cache)) :: dsk gd gm lv rv S) ++ _) M (List.sublist_append_left _ _) trivial⟩
end Go.Proofs.Ytnojooafgehhaaa.K
end
section
namespace Go.Proofs.Ytnojooafgehhaaa.K
open Go.RowKit Go.Rill Go.Proofs
set_option linter.unusedVariables false
set_option linter.unusedSimpArgs false
def crM (S : Dsk) (l : List Int) : Nat → List Value
  | 0 => S.lasts
  | j + 1 => if j < l.length ∧ (l[j]?).getD 0 ≠ 0 then (match (dirtyK S.cache)[j]? with | some k => (crM S l j).set k.toNat ((iget S.cache k).getD (.slice none 0 0)) | none => crM S l j) else crM S l j
def Dsk.crash (S : Dsk) (l : List Int) : Dsk := { S with lasts := crM S l S.cache.length, cache := [], armed := false, off := false }
theorem dirty_len (es : List IE) : (dirtyK es).length = es.length := by simp [dirtyK, List.length_mergeSort]
theorem dirty_mem {es : List IE} {k : Int} (h : k ∈ dirtyK es) : ∃ e ∈ es, e.key = k := by
  unfold dirtyK at h
  rw [List.mem_mergeSort] at h
  exact List.mem_map.1 h
theorem crM_yes {S : Dsk} {l : List Int} {j q : Nat} (hj : j < (dirtyK S.cache).length) (hc : j < l.length) (hz : ¬ l[j] = 0) (hq : (dirtyK S.cache)[j] = (q : Int)) : crM S l (j + 1) = (crM S l j).set q ((iget S.cache ((dirtyK S.cache)[j])).getD (.slice none 0 0)) := by
  rw [crM, if_pos ⟨hc, by rw [List.getElem?_eq_getElem hc]; exact hz⟩, List.getElem?_eq_getElem hj]
  simp only [hq, Int.toNat_natCast]
theorem crM_no {S : Dsk} {l : List Int} {j : Nat} (h : ¬ (j < l.length ∧ (l[j]?).getD 0 ≠ 0)) : crM S l (j + 1) = crM S l j := by
  rw [crM, if_neg h]
theorem iget_has {es : List IE} {e : IE} (h : e ∈ es) : iget es e.key ≠ none := by
  unfold iget
  generalize 0 = n
  induction es generalizing n with
  | nil => cases h
  | cons a r ih =>
    unfold iat
    split
    · simp
    · rename_i hne
      rcases List.mem_cons.1 h with rfl | h
      · exact absurd rfl hne
      · exact ih h _
theorem cache_cell {S : Dsk} (hS : S.Ok) (hp : ∀ p ∈ S.ps, ∃ w, Bytes w p.1 p.2) (k : Int) : ((iget S.cache k).getD (.slice none 0 0)).oneCell' = true := by
  cases h : iget S.cache k with
  | none => rfl
  | some v =>
    have hm : ∃ e ∈ S.cache, e.val = v := by
      unfold iget at h
      generalize 0 = n at h
      generalize S.cache = es at h
      induction es generalizing n with
      | nil => cases h
      | cons a r ih =>
        unfold iat at h
        split at h
        · injection h with h; exact ⟨a, List.mem_cons_self .., h⟩
        · obtain ⟨e, he, hv⟩ := ih _ h; exact ⟨e, List.mem_cons_of_mem _ he, hv⟩
    obtain ⟨e, he, rfl⟩ := hm
    obtain ⟨l, hl, _⟩ := hS.cache e he
    obtain ⟨w, hb⟩ := hp _ hl
    obtain ⟨b', c', e'⟩ := Reads.slice hb
    rw [show e.val = _ from e']
    rfl
set_option maxRecDepth 100000 in
theorem Crash_x {gd gm : Nat} {lv rv : Value} {S : Dsk} {w0 : World} (H : Has w0 (dsk gd gm lv rv S)) (hS : S.Ok) {b : Value} {l : List Int} (hb : Reads 1 w0 b l.length (ic l)) (hap : ∀ g, b.ownBlock = some g → ¬ feet (dsk gd gm lv rv S) g) (hkn : (S.cache.map (·.key)).Nodup) (hkr : ∀ e ∈ S.cache, 0 ≤ e.key ∧ e.key < 4096) (hbn : (S.cache.map (·.born)).Nodup) (hbo : ∀ e ∈ S.cache, e.born < S.clock) (hlen : S.cache.length ≤ 4096) (hkr2 : ∀ e ∈ S.cache, e.key < (S.n : Int))  : Does Try.prog 33 [.pointer (some ⟨gd, 0, none⟩), b] w0 (dsk gd gm lv rv S) (fun _ : Unit => .tuple #[]) (fun _ => dsk gd gm lv rv (S.crash l)) (fun _ => True) := by
  refine enter (n := 48) Try.func33 rfl rfl rfl ?_
  intro fr E
  have M : Mem w0 (feet (dsk gd gm lv rv S)) (dsk gd gm lv rv S) (fun w' => Reads 1 w' b l.length (ic l)) w0 := Mem.begin H (fun w' h => Reads.held hb h hap)
  refine wp_seq ?_
  refine code_region ?_
  refine sv (v := _) E rfl rfl rfl rfl rfl (run_move rfl rfl) fun fr E => ?_
  refine scallI (dsk gd gm lv rv S) E M rfl rfl rfl rfl rfl (run_call rfl rfl T.fn66) rfl (fun H => Dirty_x H hS hkn hkr hbn hbo hlen) ?_
  rintro dv fr w - M E
  refine sv (v := .int .i64 _) E rfl rfl rfl rfl rfl (run_lenR rfl rfl rfl rfl T.slice58 (M.reads 0 rfl)) fun fr E => ?_
  refine sv (v := _) E rfl rfl rfl rfl rfl (run_moveC rfl) fun fr E => ?_
  refine seq_nil' ?_
  refine wp_block ?_
  refine loop_dec (fun d fr w => ∃ j : Nat, d = S.cache.length - j ∧ j ≤ S.cache.length ∧ Env [(0, .pointer (some ⟨gd, 0, none⟩)), (1, b), (7, dv), (8, .int .i64 ((S.cache.length : Nat) : Int)), (9, .int .i64 (j : Int))] 48 fr ∧ Mem w0 (feet (dsk gd gm lv rv S)) (.row 3 1 dv S.cache.length (ic (dirtyK S.cache)) :: dsk gd gm lv rv { S with lasts := crM S l j }) (fun w' => Reads 1 w' b l.length (ic l)) w) (S.cache.length) ?_ ?_
  · exact ⟨0, rfl, Nat.zero_le _, (((((Env.nil E).add E (t := 9) rfl).add E (t := 8) rfl).add E (t := 7) rfl).add E (t := 1) rfl).add E (t := 0) rfl, M⟩
  · clear E M
    rintro d fr w ⟨j, rfl, hle, E, M⟩
    by_cases hi : j < S.cache.length
    · have hjd : j < (dirtyK S.cache).length := by rw [dirty_len]; exact hi
      obtain ⟨e, he, hek⟩ := dirty_mem (List.getElem_mem hjd)
      obtain ⟨q, hq, hqn⟩ : ∃ q : Nat, (dirtyK S.cache)[j] = (q : Int) ∧ q < S.n := ⟨((dirtyK S.cache)[j]).toNat, by have := hkr e he; omega, by have := hkr e he; have := hkr2 e he; omega⟩
      by_cases hc : j < l.length
      · by_cases hz : l[j] = 0
        · refine code_region ?_
          refine sv (v := .bool true) E rfl rfl rfl rfl rfl (tst rfl (decide_eq_true (by omega))) fun fr E => ?_
          refine seq_nil' ?_
          refine wp_seq ?_
          refine cond_true E rfl (rfl) ?_
          refine wp_skip ?_
          refine then_normal ?_
          refine wp_seq ?_
          refine wp_block ?_
          refine code_region ?_
          refine sv (v := _) E rfl rfl rfl rfl rfl (run_move rfl rfl) fun fr E => ?_
          refine sv (v := _) E rfl rfl rfl rfl rfl (run_indexR (i := j) rfl (M.reads 0 rfl) rfl rfl (rfl) (hi) T.slice58 T.size3) fun fr E => ?_
          refine sv (v := .int .i64 ((dirtyK S.cache)[j])) E rfl rfl rfl rfl rfl (run_loadR rfl (M.reads 0 rfl) rfl T.one3 (by rw [Nat.mul_one]; exact ic_get hjd)) fun fr E => ?_
          refine sv (v := _) E rfl rfl rfl rfl rfl (run_assign rfl rfl) fun fr E => ?_
          refine sv (v := _) E rfl rfl rfl rfl rfl (run_assign rfl rfl) fun fr E => ?_
          refine seq_nil' ?_
          refine code_region ?_
          refine sv (v := _) E rfl rfl rfl rfl rfl (run_move rfl rfl) fun fr E => ?_
          refine sv (v := _) E rfl rfl rfl rfl rfl (run_move rfl rfl) fun fr E => ?_
          refine sv (v := .int .i64 _) E rfl rfl rfl rfl rfl (run_lenR rfl rfl rfl rfl T.slice58 M.fact) fun fr E => ?_
          refine sv (v := .bool true) E rfl rfl rfl rfl rfl (tst rfl (decide_eq_true (by omega))) fun fr E => ?_
          refine sv (v := _) E rfl rfl rfl rfl rfl (run_move rfl rfl) fun fr E => ?_
          refine sv (v := _) E rfl rfl rfl rfl rfl (run_move rfl rfl) fun fr E => ?_
          refine sv (v := _) E rfl rfl rfl rfl rfl (run_move rfl rfl) fun fr E => ?_
          refine sv (v := _) E rfl rfl rfl rfl rfl (run_indexR (i := j) rfl M.fact rfl rfl (rfl) (hc) T.slice58 T.size3) fun fr E => ?_
          refine sv (v := .int .i64 (l[j])) E rfl rfl rfl rfl rfl (run_loadR rfl M.fact rfl T.one3 (by rw [Nat.mul_one]; exact ic_get hc)) fun fr E => ?_
          refine sv (v := .bool false) E rfl rfl rfl rfl rfl (tst rfl (by simp [hz])) fun fr E => ?_
          refine sv (v := .bool _) E rfl rfl rfl rfl rfl (rfl) fun fr E => ?_
          refine seq_nil' ?_
          refine cond_false E rfl (rfl) ?_
          refine wp_skip ?_
          refine block_normal ?_
          refine then_normal ?_
          refine code_last ?_
          refine sv (v := .int _ (((j + 1 : Nat) : Int))) E rfl rfl rfl rfl rfl (num rfl ((i64_id (by omega) (by omega)).trans (by omega))) fun fr E => ?_
          refine sv (v := _) E rfl rfl rfl rfl rfl (run_move rfl rfl) fun fr E => ?_
          refine seq_nil ?_
          refine then_any ?_
          have em : crM S l (j + 1) = crM S l j := crM_no (fun c => c.2 (by rw [List.getElem?_eq_getElem hc]; exact hz))
          exact ⟨S.cache.length - (j + 1), by omega, j + 1, rfl, by omega, (((((Env.nil E).add E (t := 9) rfl).add E (t := 8) rfl).add E (t := 7) rfl).add E (t := 1) rfl).add E (t := 0) rfl, M.as (by first | (rw [em]; rfl) | rw [em])⟩
        · refine code_region ?_
          refine sv (v := .bool true) E rfl rfl rfl rfl rfl (tst rfl (decide_eq_true (by omega))) fun fr E => ?_
          refine seq_nil' ?_
          refine wp_seq ?_
          refine cond_true E rfl (rfl) ?_
          refine wp_skip ?_
          refine then_normal ?_
          refine wp_seq ?_
          refine wp_block ?_
          refine code_region ?_
          refine sv (v := _) E rfl rfl rfl rfl rfl (run_move rfl rfl) fun fr E => ?_
          refine sv (v := _) E rfl rfl rfl rfl rfl (run_indexR (i := j) rfl (M.reads 0 rfl) rfl rfl (rfl) (hi) T.slice58 T.size3) fun fr E => ?_
          refine sv (v := .int .i64 ((dirtyK S.cache)[j])) E rfl rfl rfl rfl rfl (run_loadR rfl (M.reads 0 rfl) rfl T.one3 (by rw [Nat.mul_one]; exact ic_get hjd)) fun fr E => ?_
          refine sv (v := _) E rfl rfl rfl rfl rfl (run_assign rfl rfl) fun fr E => ?_
          refine sv (v := _) E rfl rfl rfl rfl rfl (run_assign rfl rfl) fun fr E => ?_
          refine seq_nil' ?_
          refine code_region ?_
          refine sv (v := _) E rfl rfl rfl rfl rfl (run_move rfl rfl) fun fr E => ?_
          refine sv (v := _) E rfl rfl rfl rfl rfl (run_move rfl rfl) fun fr E => ?_
          refine sv (v := .int .i64 _) E rfl rfl rfl rfl rfl (run_lenR rfl rfl rfl rfl T.slice58 M.fact) fun fr E => ?_
          refine sv (v := .bool true) E rfl rfl rfl rfl rfl (tst rfl (decide_eq_true (by omega))) fun fr E => ?_
          refine sv (v := _) E rfl rfl rfl rfl rfl (run_move rfl rfl) fun fr E => ?_
          refine sv (v := _) E rfl rfl rfl rfl rfl (run_move rfl rfl) fun fr E => ?_
          refine sv (v := _) E rfl rfl rfl rfl rfl (run_move rfl rfl) fun fr E => ?_
          refine sv (v := _) E rfl rfl rfl rfl rfl (run_indexR (i := j) rfl M.fact rfl rfl (rfl) (hc) T.slice58 T.size3) fun fr E => ?_
          refine sv (v := .int .i64 (l[j])) E rfl rfl rfl rfl rfl (run_loadR rfl M.fact rfl T.one3 (by rw [Nat.mul_one]; exact ic_get hc)) fun fr E => ?_
          refine sv (v := .bool true) E rfl rfl rfl rfl rfl (tst rfl (by simp [hz])) fun fr E => ?_
          refine sv (v := .bool _) E rfl rfl rfl rfl rfl (rfl) fun fr E => ?_
          refine seq_nil' ?_
          refine cond_true E rfl (rfl) ?_
          refine (free_last (B := T.tab33_4_b) (Vs := (.exact _ :: .exact _ :: .exact (.pointer (some ⟨_, 0, none⟩)) :: .exact _ :: .exact _ :: .exact _ :: .exact _ :: .exact (.pointer (some ⟨_, 1, none⟩)) :: .exact (.map _) :: .exact _ :: .exact (((iget S.cache ((dirtyK S.cache)[j])).getD (.slice none 0 0))) :: .exact _ :: [])) T.tab33_4_j 12 E T.mixed T.tab33_4 rfl rfl rfl (AllS.lasts ⟨trivial, trivial, trivial, trivial, trivial, trivial, trivial, trivial, trivial, trivial, trivial, trivial, trivial⟩) ⟨fs_val rfl rfl (fun x w hx hk => ⟨_, _, rfl, rfl, rfl, run_move rfl rfl, Ext.refl _, rfl⟩),
      fs_val rfl rfl (fun x w hx hk => ⟨_, _, rfl, rfl, rfl, run_nilCheck rfl rfl, Ext.refl _, rfl⟩),
      fs_val rfl rfl (fun x w hx hk => ⟨_, _, rfl, rfl, rfl, run_fieldAddr rfl rfl T.fld85_0, Ext.refl _, rfl⟩),
      fs_val rfl rfl (fun x w hx hk => ⟨_, _, rfl, rfl, rfl, run_loadB rfl rfl T.one65 ((M.ext ((Ext.drew _).trans hx)).row (i := 1) rfl) rfl, Ext.refl _, rfl⟩),
      fs_val rfl rfl (fun x w hx hk => ⟨_, _, rfl, rfl, rfl, run_move rfl rfl, Ext.refl _, rfl⟩),
      fs_val rfl rfl (fun x w hx hk => ⟨_, _, rfl, rfl, rfl, run_move rfl rfl, Ext.refl _, rfl⟩),
      fs_val rfl rfl (fun x w hx hk => ⟨_, _, rfl, rfl, rfl, run_nilCheck rfl rfl, Ext.refl _, rfl⟩),
      fs_val rfl rfl (fun x w hx hk => ⟨_, _, rfl, rfl, rfl, run_fieldAddr rfl rfl T.fld85_1, Ext.refl _, rfl⟩),
      fs_val rfl rfl (fun x w hx hk => ⟨_, _, rfl, rfl, rfl, run_loadB rfl rfl T.one83 ((M.ext ((Ext.drew _).trans hx)).row (i := 1) rfl) rfl, Ext.refl _, rfl⟩),
      fs_val rfl rfl (fun x w hx hk => ⟨_, _, rfl, rfl, rfl, run_move rfl rfl, Ext.refl _, rfl⟩),
      fs_val rfl rfl (fun x w hx hk => ⟨_, _, rfl, rfl, rfl, run_lookup1 (v := ((iget S.cache ((dirtyK S.cache)[j])).getD (.slice none 0 0))) rfl rfl rfl T.map83 T.zero30 ((M.ext ((Ext.drew _).trans hx)).row (i := 3) rfl) rfl, Ext.refl _, rfl⟩),
      fs_val rfl rfl (fun x w hx hk => ⟨_, _, rfl, rfl, rfl, run_indexR (i := q) rfl ((M.ext ((Ext.drew _).trans hx)).reads 2 rfl) rfl rfl (hq) (hqn) T.slice65 T.size30, Ext.refl _, rfl⟩), trivial⟩ ?_)
          intro x fr w hx hk E
          have M := M.ext hx
          refine last_setR (i := 2) (k := q * 1) (u := ((iget S.cache ((dirtyK S.cache)[j])).getD (.slice none 0 0))) (xs' := (crM S l j).set q ((iget S.cache ((dirtyK S.cache)[j])).getD (.slice none 0 0))) E M rfl rfl rfl rfl rfl rfl rfl rfl rfl T.size30 (by show q * 1 < S.n * 1; omega) (cache_cell hS (fun p hp => ⟨_, M.pooled (i := 5) rfl hp⟩) _) (by rw [Nat.mul_one]) fun fr w M E => ?_
          refine block_normal ?_
          refine then_normal ?_
          refine code_last ?_
          refine sv (v := .int _ (((j + 1 : Nat) : Int))) E rfl rfl rfl rfl rfl (num rfl ((i64_id (by omega) (by omega)).trans (by omega))) fun fr E => ?_
          refine sv (v := _) E rfl rfl rfl rfl rfl (run_move rfl rfl) fun fr E => ?_
          refine seq_nil ?_
          refine then_any ?_
          have em : crM S l (j + 1) = (crM S l j).set q ((iget S.cache ((dirtyK S.cache)[j])).getD (.slice none 0 0)) := crM_yes hjd hc hz hq
          exact ⟨S.cache.length - (j + 1), by omega, j + 1, rfl, by omega, (((((Env.nil E).add E (t := 9) rfl).add E (t := 8) rfl).add E (t := 7) rfl).add E (t := 1) rfl).add E (t := 0) rfl, M.as (by first | (rw [em]; rfl) | rw [em])⟩
      · refine code_region ?_
        refine sv (v := .bool true) E rfl rfl rfl rfl rfl (tst rfl (decide_eq_true (by omega))) fun fr E => ?_
        refine seq_nil' ?_
        refine wp_seq ?_
        refine cond_true E rfl (rfl) ?_
        refine wp_skip ?_
        refine then_normal ?_
        refine wp_seq ?_
        refine wp_block ?_
        refine code_region ?_
        refine sv (v := _) E rfl rfl rfl rfl rfl (run_move rfl rfl) fun fr E => ?_
        refine sv (v := _) E rfl rfl rfl rfl rfl (run_indexR (i := j) rfl (M.reads 0 rfl) rfl rfl (rfl) (hi) T.slice58 T.size3) fun fr E => ?_
        refine sv (v := .int .i64 ((dirtyK S.cache)[j])) E rfl rfl rfl rfl rfl (run_loadR rfl (M.reads 0 rfl) rfl T.one3 (by rw [Nat.mul_one]; exact ic_get hjd)) fun fr E => ?_
        refine sv (v := _) E rfl rfl rfl rfl rfl (run_assign rfl rfl) fun fr E => ?_
        refine sv (v := _) E rfl rfl rfl rfl rfl (run_assign rfl rfl) fun fr E => ?_
        refine seq_nil' ?_
        refine code_region ?_
        refine sv (v := _) E rfl rfl rfl rfl rfl (run_move rfl rfl) fun fr E => ?_
        refine sv (v := _) E rfl rfl rfl rfl rfl (run_move rfl rfl) fun fr E => ?_
        refine sv (v := .int .i64 _) E rfl rfl rfl rfl rfl (run_lenR rfl rfl rfl rfl T.slice58 M.fact) fun fr E => ?_
        refine sv (v := .bool false) E rfl rfl rfl rfl rfl (tst rfl (decide_eq_false (by omega))) fun fr E => ?_
        refine sv (v := _) E rfl rfl rfl rfl rfl (run_move rfl rfl) fun fr E => ?_
        refine sno E rfl rfl rfl rfl fun fr E => ?_
        refine sno E rfl rfl rfl rfl fun fr E => ?_
        refine sno E rfl rfl rfl rfl fun fr E => ?_
        refine sno E rfl rfl rfl rfl fun fr E => ?_
        refine sno E rfl rfl rfl rfl fun fr E => ?_
        refine sv (v := .bool _) E rfl rfl rfl rfl rfl (rfl) fun fr E => ?_
        refine seq_nil' ?_
        refine cond_false E rfl (rfl) ?_
        refine wp_skip ?_
        refine block_normal ?_
        refine then_normal ?_
        refine code_last ?_
        refine sv (v := .int _ (((j + 1 : Nat) : Int))) E rfl rfl rfl rfl rfl (num rfl ((i64_id (by omega) (by omega)).trans (by omega))) fun fr E => ?_
        refine sv (v := _) E rfl rfl rfl rfl rfl (run_move rfl rfl) fun fr E => ?_
        refine seq_nil ?_
        refine then_any ?_
        have em : crM S l (j + 1) = crM S l j := crM_no (fun c => hc c.1)
        exact ⟨S.cache.length - (j + 1), by omega, j + 1, rfl, by omega, (((((Env.nil E).add E (t := 9) rfl).add E (t := 8) rfl).add E (t := 7) rfl).add E (t := 1) rfl).add E (t := 0) rfl, M.as (by first | (rw [em]; rfl) | rw [em])⟩
    · obtain rfl : j = S.cache.length := by omega
      refine code_region ?_
      refine sv (v := .bool false) E rfl rfl rfl rfl rfl (tst rfl (decide_eq_false (by omega))) fun fr E => ?_
      refine seq_nil' ?_
      refine wp_seq ?_
      refine cond_false E rfl (rfl) ?_
      refine wp_exit ?_
      refine then_exit ?_
      refine then_exit ?_
      refine block_exit ?_
      refine then_normal ?_
      refine code_region ?_
      refine sv (v := _) E rfl rfl rfl rfl rfl (run_move rfl rfl) fun fr E => ?_
      refine sv (v := _) E rfl rfl rfl rfl rfl (run_nilCheck rfl rfl) fun fr E => ?_
      refine sv (v := .pointer (some ⟨_, 1, none⟩)) E rfl rfl rfl rfl rfl (run_fieldAddr rfl rfl T.fld85_1) fun fr E => ?_
      refine sv (v := .map _) E rfl rfl rfl rfl rfl (run_loadB rfl rfl T.one83 (M.row (i := 1) rfl) rfl) fun fr E => ?_
      refine smclear (i := 3) E M rfl rfl rfl rfl rfl rfl rfl rfl rfl T.map83 fun fr w M E => ?_
      refine seq_nil' ?_
      refine code_last ?_
      refine sv (v := _) E rfl rfl rfl rfl rfl (run_move rfl rfl) fun fr E => ?_
      refine sv (v := _) E rfl rfl rfl rfl rfl (run_move rfl rfl) fun fr E => ?_
      refine sv (v := _) E rfl rfl rfl rfl rfl (run_nilCheck rfl rfl) fun fr E => ?_
      refine sv (v := .pointer (some ⟨_, 2, none⟩)) E rfl rfl rfl rfl rfl (run_fieldAddr rfl rfl T.fld85_2) fun fr E => ?_
      refine sset (i := 1) (cs' := #[_, _, _, _, _, _, _]) E M rfl rfl rfl rfl rfl (run_store1' (v := _) rfl rfl rfl T.size4 (M.row (i := 1) rfl) (rfl) (rfl) (rfl)) rfl fun fr w M E => ?_
      refine sv (v := _) E rfl rfl rfl rfl rfl (run_nilCheck rfl rfl) fun fr E => ?_
      refine sv (v := .pointer (some ⟨_, 4, none⟩)) E rfl rfl rfl rfl rfl (run_fieldAddr rfl rfl T.fld85_4) fun fr E => ?_
      refine sset (i := 1) (cs' := #[_, _, _, _, _, _, _]) E M rfl rfl rfl rfl rfl (run_store1' (v := _) rfl rfl rfl T.size4 (M.row (i := 1) rfl) (rfl) (rfl) (rfl)) rfl fun fr w M E => ?_
      refine seq_nil ?_
      refine ret0 E rfl ?_
      exact ⟨(), rfl, Mem.fin (L := _ :: dsk gd gm lv rv (S.crash l)) M (List.sublist_cons_self _ _) trivial⟩

/-- A crash: of the dirty sectors, in order, those that the list names last. -/
def acM (A : AD) (l : List Int) : Nat → List (List UInt8)
  | 0 => A.last
  | j + 1 => if j < l.length ∧ (l[j]?).getD 0 ≠ 0 then (match ((A.cache.map (·.1)).mergeSort leI)[j]? with | some k => (acM A l j).set k.toNat ((aget A.cache k).getD []) | none => acM A l j) else acM A l j
def AD.crash (A : AD) (l : List Int) : AD := { A with last := acM A l A.cache.length, cache := [], armed := false, off := false }
theorem acM_len (A : AD) (l : List Int) : ∀ j, (acM A l j).length = A.last.length
  | 0 => rfl
  | j + 1 => by
    unfold acM
    split
    · split
      · rw [List.length_set]; exact acM_len A l j
      · exact acM_len A l j
    · exact acM_len A l j
theorem Dsk.Abs.crl {S : Dsk} {A : AD} (h : S.Abs A) (l : List Int) : ∀ j, LRel S.ps (crM S l j) (acM A l j)
  | 0 => h.last
  | j + 1 => by
    unfold crM acM
    rw [← crel_keys h.cache]
    show LRel S.ps (if _ then (match (dirtyK S.cache)[j]? with | some k => _ | none => _) else _) (if _ then (match (dirtyK S.cache)[j]? with | some k => _ | none => _) else _)
    split
    · cases hd : (dirtyK S.cache)[j]? with
      | none => exact Dsk.Abs.crl h l j
      | some k =>
        refine lrel_set ?_ (Dsk.Abs.crl h l j)
        obtain ⟨e, he, hek⟩ := dirty_mem (List.mem_of_getElem? hd)
        cases hc : iget S.cache k with
        | none => exact absurd hc (hek ▸ iget_has he)
        | some u => obtain ⟨m, h3, h4, h5⟩ := crel_some h.cache hc; rw [h3]; exact ⟨h4, h5⟩
    · exact Dsk.Abs.crl h l j
theorem crel_len {ps : List (Value × List UInt8)} : ∀ {es : List IE} {c : List (Int × List UInt8)}, CRel ps es c → es.length = c.length
  | [], [], _ => rfl
  | [], _ :: _, h => h.elim
  | _ :: _, [], h => h.elim
  | e :: r, p :: q, h => by rw [List.length_cons, List.length_cons, crel_len h.2]
theorem split_len {α : Type} (p : α → Bool) : ∀ l : List α, l.length = (l.filter p).length + (l.filter fun x => !p x).length
  | [] => rfl
  | a :: r => by
    have := split_len p r
    rw [List.filter_cons, List.filter_cons]
    cases p a <;> simp <;> omega
/-- Numbers that are apart and below n are n at most. -/
theorem apart_le : ∀ (n : Nat) (l : List Int), l.Nodup → (∀ x ∈ l, 0 ≤ x ∧ x < (n : Int)) → l.length ≤ n
  | 0, [], _, _ => Nat.le_refl _
  | 0, x :: l, _, h => by have := h x (List.mem_cons_self ..); omega
  | n + 1, l, hn, h => by
    have h1 := apart_le n (l.filter fun x => decide (x < (n : Int))) (List.filter_sublist.nodup hn) (fun x hx => by
      rw [List.mem_filter, decide_eq_true_eq] at hx
      exact ⟨(h x hx.1).1, hx.2⟩)
    have h2 : (l.filter fun x => !decide (x < (n : Int))).length ≤ 1 := by
      have hs : (l.filter fun x => !decide (x < (n : Int))).Nodup := List.filter_sublist.nodup hn
      have ha : ∀ x ∈ (l.filter fun x => !decide (x < (n : Int))), x = (n : Int) := fun x hx => by
        rw [List.mem_filter] at hx
        have := h x hx.1
        have h3 : ¬ x < (n : Int) := by simpa using hx.2
        omega
      match hl : (l.filter fun x => !decide (x < (n : Int))) with
      | [] => simp
      | [a] => simp
      | a :: b :: r =>
        rw [hl] at hs ha
        have e1 := ha a (by simp)
        have e2 := ha b (by simp)
        rw [List.nodup_cons] at hs
        exact absurd (by rw [e1, e2]; simp) hs.1
    have h3 := split_len (fun x => decide (x < (n : Int))) l
    omega
theorem Crash_a {D : DV} {g : Nat} {A : AD} {w0 : World} (H : Has w0 [dkE D]) (hD : D.is g A) {b : Value} {l : List Int} (hb : Reads 1 w0 b l.length (ic l)) (hap : ∀ g, b.ownBlock = some g → g ∉ (dkE D).foot) : Does Try.prog 33 [.pointer (some ⟨g, 0, none⟩), b] w0 [dkE D] (fun _ : DV => .tuple #[]) (fun x => [dkE x]) (fun x => x.is g (A.crash l)) := by
  obtain ⟨gd, gm, lv, rv, S⟩ := D
  obtain ⟨hg, hA⟩ := hD
  have hg : gd = g := hg
  have hA : S.Abs A := hA
  subst hg
  have hap' : ∀ g, b.ownBlock = some g → ¬ feet (dsk gd gm lv rv S) g := fun g hg c => hap g hg (Ent.mem_all.2 c)
  have hr := hA.keyr
  have hmax := hA.max
  have hnn := hA.n
  have hlen : S.cache.length ≤ 4096 := by
    have := apart_le S.n (S.cache.map (·.key)) hA.keyn (fun x hx => by obtain ⟨e, he, rfl⟩ := List.mem_map.1 hx; exact hr e he)
    rw [List.length_map] at this
    omega
  exact Does.packed (B := fun _ : DV => []) (C := fun x => dk x) (fun _ => Crash_x H.unpack1 hA.ok hb hap' hA.keyn (fun e he => ⟨(hr e he).1, by have := (hr e he).2; omega⟩) hA.born.1 hA.born.2 hlen (fun e he => (hr e he).2)) H fun _ _ => ⟨⟨gd, gm, lv, rv, S.crash l⟩, rfl, rfl, rfl, ⟨hA.n, hA.max, (acM_len A l _).trans hA.len, hA.rlen, by show LRel S.ps (crM S l S.cache.length) (acM A l A.cache.length); rw [← crel_len hA.cache]; exact hA.crl l _, trivial, ⟨List.nodup_nil, fun p hp => nomatch hp⟩, ⟨List.nodup_nil, fun e he => nomatch he⟩, rfl, hA.left, rfl, hA.writes, hA.reads⟩⟩
end Go.Proofs.Ytnojooafgehhaaa.K
end
section
namespace Go.Proofs.Ytnojooafgehhaaa.K
open Go.RowKit Go.Rill Go.Proofs
set_option linter.unusedVariables false
set_option linter.unusedSimpArgs false
set_option maxRecDepth 100000 in
theorem Clone_z {az : Addr} (w0 : World) : Does Try.prog 68 [.slice (some az) 0 0] w0 [] (fun s : Value => s) (fun s => [.bytes 5 s []]) (fun _ => True) := by
  refine enter (n := 8) Try.func68 rfl rfl rfl ?_
  intro fr E
  have M : Mem w0 (feet []) [] (fun _ => True) w0 := Mem.begin (Has.nil w0) (fun _ _ => trivial)
  refine code_region ?_
  refine sv (v := _) E rfl rfl rfl rfl rfl (run_assignC rfl) fun fr E => ?_
  refine seq_nil' ?_
  refine wp_seq ?_
  refine code_region ?_
  refine sv (v := _) E rfl rfl rfl rfl rfl (run_move rfl rfl) fun fr E => ?_
  refine sv (v := .bool false) E rfl rfl rfl rfl rfl (run_sliceNil rfl rfl rfl T.slice30 rfl) fun fr E => ?_
  refine seq_nil' ?_
  refine cond_false E rfl (rfl) ?_
  refine wp_skip ?_
  refine then_normal ?_
  refine code_region ?_
  refine srow (sz := 1) (xs := bc []) E M rfl rfl rfl rfl rfl (run_buildSlice0 rfl T.slice30 rfl) (rfl) (Nat.le_refl _) (by decide) (rfl) fun o fr w M E => ?_
  refine sv (v := _) E rfl rfl rfl rfl rfl (run_move rfl rfl) fun fr E => ?_
  refine sappZ (i := 0) (sz := 1) (k := 0) (m := 0) (xs := []) (news := []) (bytes := 1) E M rfl rfl rfl rfl rfl rfl rfl rfl rfl rfl rfl T.slice30 T.slice30 T.zt5 T.by5 (by decide) (src_zero T.slice30) (by decide) fun o fr w M E => ?_
  refine sv (v := _) E rfl rfl rfl rfl rfl (run_assign rfl rfl) fun fr E => ?_
  refine seq_nil' ?_
  refine wp_ret ?_
  refine ret1 E rfl rfl ?_
  exact ⟨_, rfl, Mem.fin (L := [.bytes 5 o []]) M (.refl _) trivial⟩

set_option maxRecDepth 100000 in
theorem wrongz_out {gd gm : Nat} {lv rv : Value} {S : Dsk} {w0 : World} (H : Has w0 (dsk gd gm lv rv S)) (hS : S.Ok) {i : Int} {az : Addr} (h : ¬ (0 ≤ i ∧ i < (S.n : Int))) : Does Try.prog 67 [.pointer (some ⟨gd, 0, none⟩), .int .i64 i, .slice (some az) 0 0] w0 (dsk gd gm lv rv S) (fun _ : Unit => .int .i64 7) (fun _ => dsk gd gm lv rv S) (fun _ => True) := by
  refine enter (n := 16) Try.func67 rfl rfl rfl ?_
  intro fr E
  have M : Mem w0 (feet (dsk gd gm lv rv S)) (dsk gd gm lv rv S) (fun _ => True) w0 := Mem.begin H (fun _ _ => trivial)
  refine code_region ?_
  refine sv (v := _) E rfl rfl rfl rfl rfl (run_assignC rfl) fun fr E => ?_
  refine seq_nil' ?_
  refine wp_seq ?_
  refine wp_block ?_
  refine code_region ?_
  refine sv (v := _) E rfl rfl rfl rfl rfl (run_move rfl rfl) fun fr E => ?_
  refine sv (v := _) E rfl rfl rfl rfl rfl (run_move rfl rfl) fun fr E => ?_
  refine scallI (dsk gd gm lv rv S) E M rfl rfl rfl rfl rfl (run_call rfl rfl T.fn70) rfl (fun H => there_x H hS i) ?_
  rintro _ fr w - M E
  rw [decide_eq_false h] at E
  refine sv (v := .bool _) E rfl rfl rfl rfl rfl (rfl) fun fr E => ?_
  refine sv (v := _) E rfl rfl rfl rfl rfl (run_assign rfl rfl) fun fr E => ?_
  refine seq_nil' ?_
  refine cond_true E rfl (rfl) ?_
  refine code_region ?_
  refine sv (v := _) E rfl rfl rfl rfl rfl (run_assignC rfl) fun fr E => ?_
  refine seq_nil' ?_
  refine wp_ret ?_
  refine block_ret ?_
  refine then_ret ?_
  refine ret1 E rfl rfl ?_
  exact ⟨(), rfl, M.fin (List.Sublist.refl _) trivial⟩

set_option maxRecDepth 100000 in
theorem wrongz_ok {gd gm : Nat} {lv rv : Value} {S : Dsk} {w0 : World} (H : Has w0 (dsk gd gm lv rv S)) (hS : S.Ok) {i : Int} {az : Addr} (h : 0 ≤ i ∧ i < (S.n : Int)) : Does Try.prog 67 [.pointer (some ⟨gd, 0, none⟩), .int .i64 i, .slice (some az) 0 0] w0 (dsk gd gm lv rv S) (fun _ : Unit => .int .i64 0) (fun _ => dsk gd gm lv rv S) (fun _ => True) := by
  refine enter (n := 16) Try.func67 rfl rfl rfl ?_
  intro fr E
  have M : Mem w0 (feet (dsk gd gm lv rv S)) (dsk gd gm lv rv S) (fun _ => True) w0 := Mem.begin H (fun _ _ => trivial)
  refine code_region ?_
  refine sv (v := _) E rfl rfl rfl rfl rfl (run_assignC rfl) fun fr E => ?_
  refine seq_nil' ?_
  refine wp_seq ?_
  refine wp_block ?_
  refine code_region ?_
  refine sv (v := _) E rfl rfl rfl rfl rfl (run_move rfl rfl) fun fr E => ?_
  refine sv (v := _) E rfl rfl rfl rfl rfl (run_move rfl rfl) fun fr E => ?_
  refine scallI (dsk gd gm lv rv S) E M rfl rfl rfl rfl rfl (run_call rfl rfl T.fn70) rfl (fun H => there_x H hS i) ?_
  rintro _ fr w - M E
  rw [decide_eq_true h] at E
  refine sv (v := .bool _) E rfl rfl rfl rfl rfl (rfl) fun fr E => ?_
  refine sv (v := _) E rfl rfl rfl rfl rfl (run_assign rfl rfl) fun fr E => ?_
  refine seq_nil' ?_
  refine cond_false E rfl (rfl) ?_
  refine code_region ?_
  refine sv (v := _) E rfl rfl rfl rfl rfl (run_move rfl rfl) fun fr E => ?_
  refine sv (v := .int .i64 _) E rfl rfl rfl rfl rfl (run_len rfl rfl rfl rfl T.slice30) fun fr E => ?_
  refine sv (v := .bool false) E rfl rfl rfl rfl rfl (tst rfl (by decide)) fun fr E => ?_
  refine sv (v := _) E rfl rfl rfl rfl rfl (run_assign rfl rfl) fun fr E => ?_
  refine seq_nil' ?_
  refine cond_false E rfl (rfl) ?_
  refine wp_skip ?_
  refine block_normal ?_
  refine then_normal ?_
  refine code_region ?_
  refine sv (v := _) E rfl rfl rfl rfl rfl (run_assignC rfl) fun fr E => ?_
  refine seq_nil' ?_
  refine wp_ret ?_
  refine ret1 E rfl rfl ?_
  exact ⟨(), rfl, M.fin (List.Sublist.refl _) trivial⟩

set_option maxRecDepth 100000 in
theorem Tamperz_out {gd gm : Nat} {lv rv : Value} {S : Dsk} {w0 : World} (H : Has w0 (dsk gd gm lv rv S)) (hS : S.Ok) {i : Int} {az : Addr} (h : ¬ (0 ≤ i ∧ i < (S.n : Int))) : Does Try.prog 35 [.pointer (some ⟨gd, 0, none⟩), .int .i64 i, .slice (some az) 0 0] w0 (dsk gd gm lv rv S) (fun _ : Unit => .int .i64 7) (fun _ => dsk gd gm lv rv S) (fun _ => True) := by
  refine enter (n := 28) Try.func35 rfl rfl rfl ?_
  intro fr E
  have M : Mem w0 (feet (dsk gd gm lv rv S)) (dsk gd gm lv rv S) (fun _ => True) w0 := Mem.begin H (fun _ _ => trivial)
  refine code_region ?_
  refine sv (v := _) E rfl rfl rfl rfl rfl (run_assignC rfl) fun fr E => ?_
  refine seq_nil' ?_
  refine wp_seq ?_
  refine code_region ?_
  refine sv (v := _) E rfl rfl rfl rfl rfl (run_move rfl rfl) fun fr E => ?_
  refine sv (v := _) E rfl rfl rfl rfl rfl (run_move rfl rfl) fun fr E => ?_
  refine sv (v := _) E rfl rfl rfl rfl rfl (run_move rfl rfl) fun fr E => ?_
  refine scallI (dsk gd gm lv rv S) E M rfl rfl rfl rfl rfl (run_call rfl rfl T.fn67) rfl (fun H => wrongz_out H hS h) ?_
  rintro _ fr w - M E
  refine sv (v := _) E rfl rfl rfl rfl rfl (run_assign rfl rfl) fun fr E => ?_
  refine seq_nil' ?_
  refine code_region ?_
  refine sv (v := _) E rfl rfl rfl rfl rfl (run_move rfl rfl) fun fr E => ?_
  refine sv (v := .bool _) E rfl rfl rfl rfl rfl (rfl) fun fr E => ?_
  refine seq_nil' ?_
  refine cond_true E rfl (rfl) ?_
  refine code_region ?_
  refine sv (v := _) E rfl rfl rfl rfl rfl (run_move rfl rfl) fun fr E => ?_
  refine sv (v := _) E rfl rfl rfl rfl rfl (run_assign rfl rfl) fun fr E => ?_
  refine seq_nil' ?_
  refine wp_ret ?_
  refine then_ret ?_
  refine ret1 E rfl rfl ?_
  exact ⟨(), rfl, M.fin (List.Sublist.refl _) trivial⟩

set_option maxRecDepth 100000 in
theorem Tamperz_ok {gd gm : Nat} {lv rv : Value} {S : Dsk} {w0 : World} (H : Has w0 (dsk gd gm lv rv S)) (hS : S.Ok) {j : Nat} {az : Addr} (hj : j < S.n) (h : 0 ≤ (j : Int) ∧ (j : Int) < (S.n : Int)) : Does Try.prog 35 [.pointer (some ⟨gd, 0, none⟩), .int .i64 (j : Int), .slice (some az) 0 0] w0 (dsk gd gm lv rv S) (fun _ : Value => .int .i64 0) (fun v => dsk gd gm lv rv (S.tampered j v [])) (fun _ => True) := by
  refine enter (n := 28) Try.func35 rfl rfl rfl ?_
  intro fr E
  have M : Mem w0 (feet (dsk gd gm lv rv S)) (dsk gd gm lv rv S) (fun _ => True) w0 := Mem.begin H (fun _ _ => trivial)
  refine code_region ?_
  refine sv (v := _) E rfl rfl rfl rfl rfl (run_assignC rfl) fun fr E => ?_
  refine seq_nil' ?_
  refine wp_seq ?_
  refine code_region ?_
  refine sv (v := _) E rfl rfl rfl rfl rfl (run_move rfl rfl) fun fr E => ?_
  refine sv (v := _) E rfl rfl rfl rfl rfl (run_move rfl rfl) fun fr E => ?_
  refine sv (v := _) E rfl rfl rfl rfl rfl (run_move rfl rfl) fun fr E => ?_
  refine scallI (dsk gd gm lv rv S) E M rfl rfl rfl rfl rfl (run_call rfl rfl T.fn67) rfl (fun H => wrongz_ok H hS h) ?_
  rintro _ fr w - M E
  refine sv (v := _) E rfl rfl rfl rfl rfl (run_assign rfl rfl) fun fr E => ?_
  refine seq_nil' ?_
  refine code_region ?_
  refine sv (v := _) E rfl rfl rfl rfl rfl (run_move rfl rfl) fun fr E => ?_
  refine sv (v := .bool _) E rfl rfl rfl rfl rfl (rfl) fun fr E => ?_
  refine seq_nil' ?_
  refine cond_false E rfl (rfl) ?_
  refine wp_skip ?_
  refine then_normal ?_
  refine wp_seq (free_last (B := T.tab35_4_b) (Vs := (.exact _ :: .exact _ :: .exact (.pointer (some ⟨_, 0, none⟩)) :: .exact _ :: .exact _ :: .exact _ :: CameV w.heap.size (fun v => [.bytes 5 v []]) (fun _ => True) :: .exact _ :: [])) T.tab35_4_j 8 E T.mixed T.tab35_4 rfl rfl rfl (AllS.lasts ⟨trivial, trivial, trivial, trivial, trivial, trivial, LastsS.cameV, trivial, trivial⟩) ⟨fs_val rfl rfl (fun x w hx hk => ⟨_, _, rfl, rfl, rfl, run_move rfl rfl, Ext.refl _, rfl⟩),
      fs_val rfl rfl (fun x w hx hk => ⟨_, _, rfl, rfl, rfl, run_nilCheck rfl rfl, Ext.refl _, rfl⟩),
      fs_val rfl rfl (fun x w hx hk => ⟨_, _, rfl, rfl, rfl, run_fieldAddr rfl rfl T.fld85_0, Ext.refl _, rfl⟩),
      fs_val rfl rfl (fun x w hx hk => ⟨_, _, rfl, rfl, rfl, run_loadB rfl rfl T.one65 ((M.ext ((Ext.drew _).trans hx)).row (i := 0) rfl) rfl, Ext.refl _, rfl⟩),
      fs_val rfl rfl (fun x w hx hk => ⟨_, _, rfl, rfl, rfl, run_move rfl rfl, Ext.refl _, rfl⟩),
      fs_val rfl rfl (fun x w hx hk => ⟨_, _, rfl, rfl, rfl, run_move rfl rfl, Ext.refl _, rfl⟩),
      fs_ext rfl rfl (fun x w hx hk => ⟨_, _, rfl, rfl, rfl, run_call rfl rfl T.fn68, (Clone_z _).extV hx.size⟩),
      fs_val rfl rfl (fun x w hx hk => ⟨_, _, rfl, rfl, rfl, run_indexR (i := j) rfl ((M.ext ((Ext.drew _).trans hx)).reads 1 rfl) rfl rfl (rfl) (hj) T.slice65 T.size30, Ext.refl _, rfl⟩), trivial⟩ ?_)
  intro x fr w hx hk E
  have M := M.adopts hx (hk 6 (by decide)).1 (hk 6 (by decide)).2.1
  refine last_setR (i := 2) (k := j * 1) (u := x 6) (xs' := S.lasts.set j (x 6)) E M rfl rfl rfl rfl rfl rfl rfl rfl rfl T.size30 (by omega) (by obtain ⟨b', c', e'⟩ := Reads.slice (M.bytes 0 rfl); rw [e']; rfl) (by rw [Nat.mul_one]) fun fr w M E => ?_
  refine then_normal ?_
  refine code_region ?_
  refine sv (v := _) E rfl rfl rfl rfl rfl (run_move rfl rfl) fun fr E => ?_
  refine sv (v := _) E rfl rfl rfl rfl rfl (run_nilCheck rfl rfl) fun fr E => ?_
  refine sv (v := .pointer (some ⟨_, 1, none⟩)) E rfl rfl rfl rfl rfl (run_fieldAddr rfl rfl T.fld85_1) fun fr E => ?_
  refine sv (v := .map _) E rfl rfl rfl rfl rfl (run_loadB rfl rfl T.one83 (M.row (i := 1) rfl) rfl) fun fr E => ?_
  refine sv (v := _) E rfl rfl rfl rfl rfl (run_move rfl rfl) fun fr E => ?_
  refine smdel (i := 3) E M rfl rfl rfl rfl rfl rfl rfl rfl rfl rfl T.map83 fun fr w M E => ?_
  refine seq_nil' ?_
  refine code_region ?_
  refine sv (v := _) E rfl rfl rfl rfl rfl (run_assignC rfl) fun fr E => ?_
  refine seq_nil' ?_
  refine wp_ret ?_
  refine ret1 E rfl rfl ?_
  have M := (M.pull 5 rfl).pull 1 rfl
  have M := M.pour.perm (L' := dsk gd gm lv rv (S.tampered j _ [])) (perm5 _ _ _ _ _)
  exact ⟨_, rfl, M.fin (List.Sublist.refl _) trivial⟩

set_option maxRecDepth 100000 in
theorem Crash_z {gd gm : Nat} {lv rv : Value} {S : Dsk} {w0 : World} (H : Has w0 (dsk gd gm lv rv S)) (hS : S.Ok) {az : Addr} (hkn : (S.cache.map (·.key)).Nodup) (hkr : ∀ e ∈ S.cache, 0 ≤ e.key ∧ e.key < 4096) (hbn : (S.cache.map (·.born)).Nodup) (hbo : ∀ e ∈ S.cache, e.born < S.clock) (hlen : S.cache.length ≤ 4096) : Does Try.prog 33 [.pointer (some ⟨gd, 0, none⟩), .slice (some az) 0 0] w0 (dsk gd gm lv rv S) (fun _ : Unit => .tuple #[]) (fun _ => dsk gd gm lv rv (S.crash [])) (fun _ => True) := by
  refine enter (n := 48) Try.func33 rfl rfl rfl ?_
  intro fr E
  have M : Mem w0 (feet (dsk gd gm lv rv S)) (dsk gd gm lv rv S) (fun _ => True) w0 := Mem.begin H (fun _ _ => trivial)
  refine wp_seq ?_
  refine code_region ?_
  refine sv (v := _) E rfl rfl rfl rfl rfl (run_move rfl rfl) fun fr E => ?_
  refine scallI (dsk gd gm lv rv S) E M rfl rfl rfl rfl rfl (run_call rfl rfl T.fn66) rfl (fun H => Dirty_x H hS hkn hkr hbn hbo hlen) ?_
  rintro dv fr w - M E
  refine sv (v := .int .i64 _) E rfl rfl rfl rfl rfl (run_lenR rfl rfl rfl rfl T.slice58 (M.reads 0 rfl)) fun fr E => ?_
  refine sv (v := _) E rfl rfl rfl rfl rfl (run_moveC rfl) fun fr E => ?_
  refine seq_nil' ?_
  refine wp_block ?_
  refine loop_dec (fun d fr w => ∃ j : Nat, d = S.cache.length - j ∧ j ≤ S.cache.length ∧ Env [(0, .pointer (some ⟨gd, 0, none⟩)), (1, .slice (some az) 0 0), (7, dv), (8, .int .i64 ((S.cache.length : Nat) : Int)), (9, .int .i64 (j : Int))] 48 fr ∧ Mem w0 (feet (dsk gd gm lv rv S)) (.row 3 1 dv S.cache.length (ic (dirtyK S.cache)) :: dsk gd gm lv rv { S with lasts := crM S [] j }) (fun _ => True) w) (S.cache.length) ?_ ?_
  · exact ⟨0, rfl, Nat.zero_le _, (((((Env.nil E).add E (t := 9) rfl).add E (t := 8) rfl).add E (t := 7) rfl).add E (t := 1) rfl).add E (t := 0) rfl, M⟩
  · clear E M
    rintro d fr w ⟨j, rfl, hle, E, M⟩
    by_cases hi : j < S.cache.length
    · have hjd : j < (dirtyK S.cache).length := by rw [dirty_len]; exact hi
      refine code_region ?_
      refine sv (v := .bool true) E rfl rfl rfl rfl rfl (tst rfl (decide_eq_true (by omega))) fun fr E => ?_
      refine seq_nil' ?_
      refine wp_seq ?_
      refine cond_true E rfl (rfl) ?_
      refine wp_skip ?_
      refine then_normal ?_
      refine wp_seq ?_
      refine wp_block ?_
      refine code_region ?_
      refine sv (v := _) E rfl rfl rfl rfl rfl (run_move rfl rfl) fun fr E => ?_
      refine sv (v := _) E rfl rfl rfl rfl rfl (run_indexR (i := j) rfl (M.reads 0 rfl) rfl rfl (rfl) (hi) T.slice58 T.size3) fun fr E => ?_
      refine sv (v := .int .i64 ((dirtyK S.cache)[j])) E rfl rfl rfl rfl rfl (run_loadR rfl (M.reads 0 rfl) rfl T.one3 (by rw [Nat.mul_one]; exact ic_get hjd)) fun fr E => ?_
      refine sv (v := _) E rfl rfl rfl rfl rfl (run_assign rfl rfl) fun fr E => ?_
      refine sv (v := _) E rfl rfl rfl rfl rfl (run_assign rfl rfl) fun fr E => ?_
      refine seq_nil' ?_
      refine code_region ?_
      refine sv (v := _) E rfl rfl rfl rfl rfl (run_move rfl rfl) fun fr E => ?_
      refine sv (v := _) E rfl rfl rfl rfl rfl (run_move rfl rfl) fun fr E => ?_
      refine sv (v := .int .i64 _) E rfl rfl rfl rfl rfl (run_len rfl rfl rfl rfl T.slice58) fun fr E => ?_
      refine sv (v := .bool false) E rfl rfl rfl rfl rfl (tst rfl (decide_eq_false (by omega))) fun fr E => ?_
      refine sv (v := _) E rfl rfl rfl rfl rfl (run_move rfl rfl) fun fr E => ?_
      refine sno E rfl rfl rfl rfl fun fr E => ?_
      refine sno E rfl rfl rfl rfl fun fr E => ?_
      refine sno E rfl rfl rfl rfl fun fr E => ?_
      refine sno E rfl rfl rfl rfl fun fr E => ?_
      refine sno E rfl rfl rfl rfl fun fr E => ?_
      refine sv (v := .bool _) E rfl rfl rfl rfl rfl (rfl) fun fr E => ?_
      refine seq_nil' ?_
      refine cond_false E rfl (rfl) ?_
      refine wp_skip ?_
      refine block_normal ?_
      refine then_normal ?_
      refine code_last ?_
      refine sv (v := .int _ (((j + 1 : Nat) : Int))) E rfl rfl rfl rfl rfl (num rfl ((i64_id (by omega) (by omega)).trans (by omega))) fun fr E => ?_
      refine sv (v := _) E rfl rfl rfl rfl rfl (run_move rfl rfl) fun fr E => ?_
      refine seq_nil ?_
      refine then_any ?_
      have em : crM S [] (j + 1) = crM S [] j := crM_no (fun c => absurd c.1 (Nat.not_lt_zero _))
      exact ⟨S.cache.length - (j + 1), by omega, j + 1, rfl, by omega, (((((Env.nil E).add E (t := 9) rfl).add E (t := 8) rfl).add E (t := 7) rfl).add E (t := 1) rfl).add E (t := 0) rfl, M.as (by first | (rw [em]; rfl) | rw [em])⟩
    · obtain rfl : j = S.cache.length := by omega
      refine code_region ?_
      refine sv (v := .bool false) E rfl rfl rfl rfl rfl (tst rfl (decide_eq_false (by omega))) fun fr E => ?_
      refine seq_nil' ?_
      refine wp_seq ?_
      refine cond_false E rfl (rfl) ?_
      refine wp_exit ?_
      refine then_exit ?_
      refine then_exit ?_
      refine block_exit ?_
      refine then_normal ?_
      refine code_region ?_
      refine sv (v := _) E rfl rfl rfl rfl rfl (run_move rfl rfl) fun fr E => ?_
      refine sv (v := _) E rfl rfl rfl rfl rfl (run_nilCheck rfl rfl) fun fr E => ?_
      refine sv (v := .pointer (some ⟨_, 1, none⟩)) E rfl rfl rfl rfl rfl (run_fieldAddr rfl rfl T.fld85_1) fun fr E => ?_
      refine sv (v := .map _) E rfl rfl rfl rfl rfl (run_loadB rfl rfl T.one83 (M.row (i := 1) rfl) rfl) fun fr E => ?_
      refine smclear (i := 3) E M rfl rfl rfl rfl rfl rfl rfl rfl rfl T.map83 fun fr w M E => ?_
      refine seq_nil' ?_
      refine code_last ?_
      refine sv (v := _) E rfl rfl rfl rfl rfl (run_move rfl rfl) fun fr E => ?_
      refine sv (v := _) E rfl rfl rfl rfl rfl (run_move rfl rfl) fun fr E => ?_
      refine sv (v := _) E rfl rfl rfl rfl rfl (run_nilCheck rfl rfl) fun fr E => ?_
      refine sv (v := .pointer (some ⟨_, 2, none⟩)) E rfl rfl rfl rfl rfl (run_fieldAddr rfl rfl T.fld85_2) fun fr E => ?_
      refine sset (i := 1) (cs' := #[_, _, _, _, _, _, _]) E M rfl rfl rfl rfl rfl (run_store1' (v := _) rfl rfl rfl T.size4 (M.row (i := 1) rfl) (rfl) (rfl) (rfl)) rfl fun fr w M E => ?_
      refine sv (v := _) E rfl rfl rfl rfl rfl (run_nilCheck rfl rfl) fun fr E => ?_
      refine sv (v := .pointer (some ⟨_, 4, none⟩)) E rfl rfl rfl rfl rfl (run_fieldAddr rfl rfl T.fld85_4) fun fr E => ?_
      refine sset (i := 1) (cs' := #[_, _, _, _, _, _, _]) E M rfl rfl rfl rfl rfl (run_store1' (v := _) rfl rfl rfl T.size4 (M.row (i := 1) rfl) (rfl) (rfl) (rfl)) rfl fun fr w M E => ?_
      refine seq_nil ?_
      refine ret0 E rfl ?_
      exact ⟨(), rfl, Mem.fin (L := _ :: dsk gd gm lv rv (S.crash [])) M (List.sublist_cons_self _ _) trivial⟩

theorem Dsk.Abs.clen {S : Dsk} {A : AD} (hA : S.Abs A) : S.cache.length ≤ 4096 := by
  have hr := hA.keyr
  have hmax := hA.max
  have hnn := hA.n
  have := apart_le S.n (S.cache.map (·.key)) hA.keyn (fun x hx => by obtain ⟨e, he, rfl⟩ := List.mem_map.1 hx; exact hr e he)
  rw [List.length_map] at this
  omega
theorem Crash_b {D : DV} {g : Nat} {A : AD} {w0 : World} (H : Has w0 [dkE D]) (hD : D.is g A) {b : Value} {l : List Int} (hb : FarI w0 (fun g => g ∈ (dkE D).foot) b l) : Does Try.prog 33 [.pointer (some ⟨g, 0, none⟩), b] w0 [dkE D] (fun _ : DV => .tuple #[]) (fun x => [dkE x]) (fun x => x.is g (A.crash l)) := by
  rcases hb with ⟨hb, hap⟩ | ⟨a, rfl, rfl⟩
  · exact Crash_a H hD hb hap
  obtain ⟨gd, gm, lv, rv, S⟩ := D
  obtain ⟨hg, hA⟩ := hD
  have hg : gd = g := hg
  have hA : S.Abs A := hA
  subst hg
  have hr := hA.keyr
  have hmax := hA.max
  have hnn := hA.n
  exact Does.packed (B := fun _ : DV => []) (C := fun x => dk x) (fun _ => Crash_z H.unpack1 hA.ok hA.keyn (fun e he => ⟨(hr e he).1, by have := (hr e he).2; omega⟩) hA.born.1 hA.born.2 hA.clen) H fun _ _ => ⟨⟨gd, gm, lv, rv, S.crash []⟩, rfl, rfl, rfl, ⟨hA.n, hA.max, (acM_len A [] _).trans hA.len, hA.rlen, by show LRel S.ps (crM S [] S.cache.length) (acM A [] A.cache.length); rw [← crel_len hA.cache]; exact hA.crl [] _, trivial, ⟨List.nodup_nil, fun p hp => nomatch hp⟩, ⟨List.nodup_nil, fun e he => nomatch he⟩, rfl, hA.left, rfl, hA.writes, hA.reads⟩⟩
theorem Tamper_b {D : DV} {g : Nat} {A : AD} {w0 : World} (H : Has w0 [dkE D]) (hD : D.is g A) {i : Int} {b : Value} {l : List UInt8} (hb : FarB w0 (fun g => g ∈ (dkE D).foot) b l) : Does Try.prog 35 [.pointer (some ⟨g, 0, none⟩), .int .i64 i, b] w0 [dkE D] (fun _ : DV => .int .i64 (A.tamper i l).1) (fun x => [dkE x]) (fun x => x.is g (A.tamper i l).2) := by
  rcases hb with ⟨hb, hap⟩ | ⟨a, rfl, rfl⟩
  · exact Tamper_a H hD hb hap
  obtain ⟨gd, gm, lv, rv, S⟩ := D
  obtain ⟨hg, hA⟩ := hD
  have hg : gd = g := hg
  have hA : S.Abs A := hA
  subst hg
  by_cases h1 : A.there i
  · have h1' : 0 ≤ i ∧ i < (S.n : Int) := by rw [hA.n]; exact h1
    have e : A.tamper i [] = (0, { A with last := A.last.set i.toNat [], cache := A.cache.filter fun p => !(p.1 == i) }) := by unfold AD.tamper; rw [if_neg (by simpa using h1), if_neg (by simp)]
    obtain ⟨j, rfl⟩ : ∃ j : Nat, i = (j : Int) := ⟨i.toNat, by omega⟩
    have hj : j < S.n := by omega
    refine Does.packed (B := fun _ : DV => []) (C := fun x => dk x) (fun _ => Tamperz_ok (j := j) H.unpack1 hA.ok hj h1') H fun v _ => ⟨⟨gd, gm, lv, rv, S.tampered j v []⟩, by rw [e], rfl, rfl, ?_⟩
    rw [e]
    refine ⟨hA.n, hA.max, by simp [hA.len], hA.rlen, lrel_set ⟨List.mem_cons_self .., by simp⟩ (lrel_mono hA.last), crel_del hA.keys.1 (crel_mono hA.cache), ⟨?_, fun p hp => hA.keys.2 p (List.mem_filter.1 hp).1⟩, ⟨((idel_sub _ _).map _).nodup hA.born.1, fun x hx => hA.born.2 x ((idel_sub _ _).mem hx)⟩, hA.armed, hA.left, hA.off, hA.writes, hA.reads⟩
    exact (List.filter_sublist.map _).nodup hA.keys.1
  · have h1' : ¬ (0 ≤ i ∧ i < (S.n : Int)) := by rw [hA.n]; exact h1
    have e : A.tamper i [] = (7, A) := by unfold AD.tamper; rw [if_pos h1]
    exact Does.packed (B := fun _ : DV => []) (C := fun x => dk x) (fun _ => Tamperz_out H.unpack1 hA.ok h1') H fun _ _ => ⟨⟨gd, gm, lv, rv, S⟩, by rw [e], rfl, rfl, by rw [e]; exact hA⟩
end Go.Proofs.Ytnojooafgehhaaa.K
end
