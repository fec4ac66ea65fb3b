/- Contracts: sector.Put, Get, over a names.Names. -/
import Derived.Test.YtnebjbgcibjohaaKK
import Derived.Test.YtnebjbgcibjohaaRR
import Derived.Test.YtnebjbgcibjohaaProg
import Derived.RangeFuncNested
import Derived.RangeFuncBound
import Derived.RangeFuncCalls
import Derived.RangeFuncLeaves
import Derived.Shelf.Abstract
import Derived.Shelf.RegionOpen
import Derived.WalkKit
import Derived.OwnWalkIn
import Derived.TacticsInMore
import Derived.LoopNIn
import Derived.LoopIn
import Derived.Test.YtnebjbgcibjohaaRR1
import Derived.Shelf.SlIterI.Nil
import Derived.Shelf.SortM.Plain
import Derived.Shelf.SortM.SortNone
import Derived.Laws.CopyRow
section
namespace Go.Proofs.Ytnebjbgcibjohaa.K
open Go.RowKit Go.Rill Go.Proofs
set_option linter.unusedVariables false
set_option linter.unusedSimpArgs false
def hdB (kd at' : Int) : List UInt8 := [UInt8.ofInt kd] ++ be8 at'
/-- A sector's bytes. -/
def sectB (ks : List NKey) (kd e n at' : Int) (pl : List UInt8) : List UInt8 := [UInt8.ofInt kd] ++ be8 e ++ be8 n ++ sealB ks e n (hdB kd at') pl
theorem sealB_len (ks : List NKey) (e n : Int) (h p : List UInt8) : (sealB ks e n h p).length ≤ p.length + 32 := by
  unfold sealB
  split
  · simp [tagOf, be8]
  · simp
theorem right_b {e n a : Int} {w0 : World} (r : Bool) (h : decide (SRight e n a) = r) : Gives Try.prog 54 [.int .i64 e, .int .i64 n, .int .i64 a] w0 (.bool r) := h ▸ right_x e n a w0
set_option maxRecDepth 100000 in
theorem sPut_ok {N : NV} {kd e n at' : Int} {p : Value} {pl : List UInt8} {w0 : World} (hp : Bytes w0 p pl) (H : Has w0 [nmE N]) (ap : ∀ g, p.ownBlock = some g → g ∉ (nmE N).foot) (hkz : N.ks.length ≤ 1099511627776) (h1 : ¬ kd < 1) (h2 : ¬ 5 < kd) (h3 : SRight e n at') (h4 : ¬ 975 < pl.length) : Does Try.prog 45 [.iface 30 (.pointer (some ⟨N.gn, 0, none⟩)), .agg #[.int .i64 kd, .int .i64 e, .int .i64 n, .int .i64 at', p]] w0 [nmE N] (fun x : Value × NV => .tuple #[x.1, .int .i64 0]) (fun x => [Ent.bytes 5 x.1 (sectB N.ks kd e n at' pl), nmE x.2]) (fun x => x.2.gn = N.gn ∧ x.2.ks = sealS N.ks e n (hdB kd at') pl ∧ x.2.ts = N.ts) := by
  refine enter (n := 56) Try.func45 rfl rfl rfl ?_
  intro fr E
  have M : Mem w0 (feet [nmE N]) [nmE N] (fun w' => Bytes w' p pl) w0 := Mem.begin H (fun w' k => Reads.held hp k fun g hg c => ap g hg (feet_one.1 c))
  refine code_region ?_
  refine snew (ob := .cells (#[.int .i64 kd, .int .i64 e, .int .i64 n, .int .i64 at', p]) 98) (fun g => .pointer (some ⟨g, 0, none⟩)) E M rfl rfl rfl rfl rfl (run_boxN (cs := (#[.int .i64 kd, .int .i64 e, .int .i64 n, .int .i64 at', p])) rfl rfl) fun g0 fr w M E => ?_
  refine sw E (run_assignC rfl) fun fr E => ?_
  refine sw E (run_assignC rfl) fun fr E => ?_
  refine seq_nil' ?_
  refine wp_seq ?_
  refine wp_block ?_
  refine wp_seq ?_
  refine code_region ?_
  refine sw (v := .pointer (some ⟨_, 0, none⟩)) E (run_fieldAddr rfl rfl T.fld98_0) fun fr E => ?_
  refine sw (v := .int .i64 _) E (run_loadB rfl rfl T.one3 (M.row (i := 0) rfl) rfl) fun fr E => ?_
  refine sw (v := .bool false) E (tst rfl (decide_eq_false h1)) fun fr E => ?_
  refine ma E fun fr E => ?_
  refine seq_nil' ?_
  refine cond_false E rfl (rfl) ?_
  refine code_last ?_
  refine sw (v := .pointer (some ⟨_, 0, none⟩)) E (run_fieldAddr rfl rfl T.fld98_0) fun fr E => ?_
  refine sw (v := .int .i64 _) E (run_loadB rfl rfl T.one3 (M.row (i := 0) rfl) rfl) fun fr E => ?_
  refine sw (v := .bool false) E (tst rfl (decide_eq_false h2)) fun fr E => ?_
  refine ma E fun fr E => ?_
  refine seq_nil ?_
  refine then_normal ?_
  refine cond_false E rfl (rfl) ?_
  refine code_region ?_
  refine sw (v := .pointer (some ⟨_, 1, none⟩)) E (run_fieldAddr rfl rfl T.fld98_1) fun fr E => ?_
  refine sw (v := .int .i64 _) E (run_loadB rfl rfl T.one3 (M.row (i := 0) rfl) rfl) fun fr E => ?_
  refine sw (v := .pointer (some ⟨_, 2, none⟩)) E (run_fieldAddr rfl rfl T.fld98_2) fun fr E => ?_
  refine sw (v := .int .i64 _) E (run_loadB rfl rfl T.one3 (M.row (i := 0) rfl) rfl) fun fr E => ?_
  refine sw (v := .pointer (some ⟨_, 3, none⟩)) E (run_fieldAddr rfl rfl T.fld98_3) fun fr E => ?_
  refine sw (v := .int .i64 _) E (run_loadB rfl rfl T.one3 (M.row (i := 0) rfl) rfl) fun fr E => ?_
  refine sgive E M rfl rfl rfl rfl rfl (run_call rfl rfl T.fn54) (right_b true (decide_eq_true h3)) fun fr w M E => ?_
  refine sw (v := .bool _) E (rfl) fun fr E => ?_
  refine ma E fun fr E => ?_
  refine seq_nil' ?_
  refine cond_false E rfl (rfl) ?_
  refine code_region ?_
  refine sw (v := .pointer (some ⟨_, 4, none⟩)) E (run_fieldAddr rfl rfl T.fld98_4) fun fr E => ?_
  refine sw E (run_loadB rfl rfl T.one54 (M.row (i := 0) rfl) rfl) fun fr E => ?_
  refine sw (v := .int .i64 _) E (run_lenR rfl rfl rfl rfl T.slice54 M.fact) fun fr E => ?_
  refine sw (v := .bool false) E (tst rfl (decide_eq_false (by omega))) fun fr E => ?_
  refine ma E fun fr E => ?_
  refine seq_nil' ?_
  refine cond_false E rfl (rfl) ?_
  refine wp_skip ?_
  refine block_normal ?_
  refine then_normal ?_
  refine wp_seq (free_reg (B := T.tab45_8_b) (Vs := (.exact (.pointer (some ⟨_, 0, none⟩)) :: .exact (.int .i64 _) :: .exact (.int _ (((UInt8.ofInt kd).toNat : Int))) :: (.rel fun w v => Bytes w v [UInt8.ofInt kd] ∧ ∀ g, v.ownBlock = some g → 0 ≤ g) :: .exact (.pointer (some ⟨_, 1, none⟩)) :: .exact (.int .i64 _) :: CameV w.heap.size (fun v => [Ent.bytes 5 v ([UInt8.ofInt kd] ++ be8 e)]) (fun _ => True) :: .exact (.pointer (some ⟨_, 2, none⟩)) :: .exact (.int .i64 _) :: CameV w.heap.size (fun v => [Ent.bytes 5 v ([UInt8.ofInt kd] ++ be8 e ++ be8 n)]) (fun _ => True) :: CameV w.heap.size (fun v => [Ent.bytes 5 v ([UInt8.ofInt kd] ++ be8 e ++ be8 n)]) (fun _ => True) :: [])) T.tab45_8_i E T.mixed T.tab45_8 rfl (AllS.lasts ⟨trivial, trivial, trivial, (fun w w' v hx h => ⟨Reads.ext h.1 hx, h.2⟩), trivial, trivial, LastsS.cameV, trivial, trivial, LastsS.cameV, LastsS.cameV, trivial⟩) ⟨fv rfl rfl (fun x w hx hk => run_fieldAddr rfl rfl T.fld98_0),
      fv rfl rfl (fun x w hx hk => run_loadB rfl rfl T.one3 ((M.ext ((Ext.drew _).trans hx)).row (i := 0) rfl) rfl),
      fv rfl rfl (fun x w hx hk => num rfl ((ofInt_toNat kd).symm)),
      fs_rel rfl rfl (fun x w hx hk => ⟨rfl, rfl, rfl, byte_fs (Nat.zero_le _) rfl rfl T.slice54 T.size5 T.zl5 rfl⟩),
      fv rfl rfl (fun x w hx hk => run_fieldAddr rfl rfl T.fld98_1),
      fv rfl rfl (fun x w hx hk => run_loadB rfl rfl T.one3 ((M.ext ((Ext.drew _).trans hx)).row (i := 0) rfl) rfl),
      fs_ext rfl rfl (fun x w hx hk => ⟨_, _, rfl, rfl, rfl, run_call rfl rfl T.fn48, (Int_x e (hk 3 rfl).1 (by simp)).extV hx.size⟩),
      fv rfl rfl (fun x w hx hk => run_fieldAddr rfl rfl T.fld98_2),
      fv rfl rfl (fun x w hx hk => run_loadB rfl rfl T.one3 ((M.ext ((Ext.drew _).trans hx)).row (i := 0) rfl) rfl),
      fs_ext rfl rfl (fun x w hx hk => ⟨_, _, rfl, rfl, rfl, run_call rfl rfl T.fn48, (Int_x n ((hk 6 rfl).1.reads 0 rfl) (by simp [be8])).extV hx.size⟩),
      fs_val rfl rfl (fun x w hx hk => ⟨_, _, rfl, rfl, rfl, run_assign rfl rfl, Ext.refl _, hk 9 rfl⟩), trivial⟩ ?_)
  intro x fr w hx hk E
  have M := M.adopts hx (hk 10 (by decide)).1 (hk 10 (by decide)).2.1
  refine then_normal ?_
  obtain ⟨b1v, hb1⟩ : ∃ b1v, b1v = x 10 := ⟨_, rfl⟩
  have E := Env.say (t := 6) (v := b1v) E rfl hb1.symm
  rw [← hb1] at M
  have M := M.pull 2 rfl
  have M : Mem _ _ (([nmE N] ++ [Ent.bytes 5 b1v ([UInt8.ofInt kd] ++ be8 e ++ be8 n)]) ++ _) _ _ := M
  refine wp_seq (free_regR (B := T.tab45_9_b) (Vs := (.exact _ :: .exact _ :: .exact (.pointer (some ⟨_, 1, none⟩)) :: .exact (.int .i64 _) :: .exact (.pointer (some ⟨_, 2, none⟩)) :: .exact (.int .i64 _) :: .exact (.pointer (some ⟨_, 0, none⟩)) :: .exact (.int .i64 _) :: .exact (.pointer (some ⟨_, 3, none⟩)) :: .exact (.int .i64 _) :: CameV w.heap.size (fun v => [Ent.bytes 5 v (hdB kd at')]) (fun _ => True) :: .exact (.pointer (some ⟨_, 4, none⟩)) :: .exact _ :: .exact (.func (.method "Seal") #[.iface 30 (.pointer (some ⟨N.gn, 0, none⟩))] #[]) :: .exact (.func (.method "Seal") #[.iface 30 (.pointer (some ⟨N.gn, 0, none⟩))] #[]) :: .exact _ :: CameI w.heap.size ([nmE N]) (fun x : Value × NV => x.1) (fun x => [Ent.bytes 5 x.1 (sealB N.ks e n (hdB kd at') pl)] ++ [nmE x.2]) (fun x => x.2.gn = N.gn ∧ x.2.ks = sealS N.ks e n (hdB kd at') pl ∧ x.2.ts = N.ts) :: CameI w.heap.size ([nmE N] ++ [Ent.bytes 5 b1v ([UInt8.ofInt kd] ++ be8 e ++ be8 n)]) (fun y : Value × (Value × NV) => y.1) (fun y => [Ent.bytes 5 y.1 ([UInt8.ofInt kd] ++ be8 e ++ be8 n ++ sealB N.ks e n (hdB kd at') pl)] ++ [nmE y.2.2]) (fun y => y.2.2.gn = N.gn ∧ y.2.2.ks = sealS N.ks e n (hdB kd at') pl ∧ y.2.2.ts = N.ts) :: CameI w.heap.size ([nmE N] ++ [Ent.bytes 5 b1v ([UInt8.ofInt kd] ++ be8 e ++ be8 n)]) (fun y : Value × (Value × NV) => y.1) (fun y => [Ent.bytes 5 y.1 ([UInt8.ofInt kd] ++ be8 e ++ be8 n ++ sealB N.ks e n (hdB kd at') pl)] ++ [nmE y.2.2]) (fun y => y.2.2.gn = N.gn ∧ y.2.2.ks = sealS N.ks e n (hdB kd at') pl ∧ y.2.2.ts = N.ts) :: .exact _ :: [])) (ownRoad (twoFs 16 17 ([nmE N]) ([Ent.bytes 5 b1v ([UInt8.ofInt kd] ++ be8 e ++ be8 n)])) w.drew) T.tab45_9_i E T.mixed T.tab45_9 rfl ?_ ⟨fr_val rfl rfl M (fun i g h => twoFs_in h) (fun x w' M' hB hk => ⟨_, _, rfl, rfl, rfl, run_move rfl rfl, Ext.refl _, rfl⟩),
      fr_val rfl rfl M (fun i g h => twoFs_in h) (fun x w' M' hB hk => ⟨_, _, rfl, rfl, rfl, run_move rfl rfl, Ext.refl _, rfl⟩),
      fr_val rfl rfl M (fun i g h => twoFs_in h) (fun x w' M' hB hk => ⟨_, _, rfl, rfl, rfl, run_fieldAddr rfl rfl T.fld98_1, Ext.refl _, rfl⟩),
      fr_val rfl rfl M (fun i g h => twoFs_in h) (fun x w' M' hB hk => ⟨_, _, rfl, rfl, rfl, run_loadB rfl rfl T.one3 (M'.row (i := 0) rfl) rfl, Ext.refl _, rfl⟩),
      fr_val rfl rfl M (fun i g h => twoFs_in h) (fun x w' M' hB hk => ⟨_, _, rfl, rfl, rfl, run_fieldAddr rfl rfl T.fld98_2, Ext.refl _, rfl⟩),
      fr_val rfl rfl M (fun i g h => twoFs_in h) (fun x w' M' hB hk => ⟨_, _, rfl, rfl, rfl, run_loadB rfl rfl T.one3 (M'.row (i := 0) rfl) rfl, Ext.refl _, rfl⟩),
      fr_val rfl rfl M (fun i g h => twoFs_in h) (fun x w' M' hB hk => ⟨_, _, rfl, rfl, rfl, run_fieldAddr rfl rfl T.fld98_0, Ext.refl _, rfl⟩),
      fr_val rfl rfl M (fun i g h => twoFs_in h) (fun x w' M' hB hk => ⟨_, _, rfl, rfl, rfl, run_loadB rfl rfl T.one3 (M'.row (i := 0) rfl) rfl, Ext.refl _, rfl⟩),
      fr_val rfl rfl M (fun i g h => twoFs_in h) (fun x w' M' hB hk => ⟨_, _, rfl, rfl, rfl, run_fieldAddr rfl rfl T.fld98_3, Ext.refl _, rfl⟩),
      fr_val rfl rfl M (fun i g h => twoFs_in h) (fun x w' M' hB hk => ⟨_, _, rfl, rfl, rfl, run_loadB rfl rfl T.one3 (M'.row (i := 0) rfl) rfl, Ext.refl _, rfl⟩),
      fr_ext rfl rfl M (fun i g h => twoFs_in h) (fun x w' M' hB hk => ⟨_, _, rfl, rfl, rfl, run_call rfl rfl T.fn55, (head_x kd at' _).extV hB⟩),
      fr_val rfl rfl M (fun i g h => twoFs_in h) (fun x w' M' hB hk => ⟨_, _, rfl, rfl, rfl, run_fieldAddr rfl rfl T.fld98_4, Ext.refl _, rfl⟩),
      fr_val rfl rfl M (fun i g h => twoFs_in h) (fun x w' M' hB hk => ⟨_, _, rfl, rfl, rfl, run_loadB rfl rfl T.one54 (M'.row (i := 0) rfl) rfl, Ext.refl _, rfl⟩),
      fr_val rfl rfl M (fun i g h => twoFs_in h) (fun x w' M' hB hk => ⟨_, _, rfl, rfl, rfl, run_makeMeth rfl rfl, Ext.refl _, rfl⟩),
      fr_val rfl rfl M (fun i g h => twoFs_in h) (fun x w' M' hB hk => ⟨_, _, rfl, rfl, rfl, run_nilCheckM rfl rfl T.meth30_Seal, Ext.refl _, rfl⟩),
      fr_val rfl rfl M (fun i g h => twoFs_in h) (fun x w' M' hB hk => ⟨_, _, rfl, rfl, rfl, run_move rfl rfl, Ext.refl _, rfl⟩),
      fr_call (J := [nmE N]) rfl rfl M (fun i g h => twoFs_in h) (M.has.sub ((List.sublist_append_left _ _).trans (List.sublist_append_left _ _))) (fun j hj g hg hc => hg.elim (fun h => hj h.1) fun h => M.part g hc h.2) (fun x w' M' H' hB hk => ⟨_, _, rfl, rfl, rfl, run_invoke rfl rfl T.meth30_Seal T.fn106, (Seal_p (e := e) (n := n) H' ((hk 10 rfl).1.reads 0 rfl) M'.fact (fun g hg hc => Nat.not_le_of_lt (M.old g ⟨_, by simp, hc⟩) ((hk 10 rfl).2.1 g (feet_one.2 (by simp [Ent.row, hg])))) ap (by omega) hkz).own (Fs := twoFs 16 17 ([nmE N]) ([Ent.bytes 5 b1v ([UInt8.ofInt kd] ++ be8 e ++ be8 n)])) (i := 16) hB (fun g hg => Or.inl ⟨rfl, hg⟩)⟩),
      fr_app2 (j := 16) (c := fun x : Value × NV => x.1) (rest := fun x => [nmE x.2]) (p1 := fun x => x.2.gn = N.gn ∧ x.2.ks = sealS N.ks e n (hdB kd at') pl ∧ x.2.ts = N.ts) rfl rfl rfl rfl M rfl rfl rfl T.slice54 T.slice54 T.zt5 T.by5 (by have := sealB_len N.ks e n (hdB kd at') pl; simp [be8]; omega) (fun x y hy => ⟨rfl, rfl, rfl, rfl, hy⟩),
      fr_on (j := 17) rfl rfl rfl rfl (fun x w y hy => ⟨rfl, rfl, rfl, run_assignV rfl hy⟩),
      fr_val rfl rfl M (fun i g h => twoFs_in h) (fun x w' M' hB hk => ⟨_, _, rfl, rfl, rfl, run_assignC rfl, Ext.refl _, rfl⟩), trivial⟩ ?_)
  · exact two_ok rfl ((allT_ex (allT_ex (allT_ex (allT_ex (allT_ex (allT_ex (allT_ex (allT_ex (allT_ex (allT_ex (allT_any (LastsR.cameV (fun g h => M.old g (feet_app.2 h))) (allT_ex (allT_ex (allT_ex (allT_ex (allT_ex (allT_c rfl (LastsR.came (fun g h => M.old g (feet_app.2 (.inr h))) (fun g h hc => M.part g hc h)) (allT_d rfl rfl LastsR.came1 (allT_d rfl rfl LastsR.came1 (allT_ex allT_nil)))))))))))))))))))))
  intro x fr w ⟨b, hb, hI⟩ hk E
  obtain ⟨⟨r, c0, N2⟩, hy, hN, M⟩ := M.behindG (J := ([nmE N] ++ [Ent.bytes 5 b1v ([UInt8.ofInt kd] ++ be8 e ++ be8 n)])) (val := fun y : Value × (Value × NV) => y.1) (outs := fun y => [Ent.bytes 5 y.1 ([UInt8.ofInt kd] ++ be8 e ++ be8 n ++ sealB N.ks e n (hdB kd at') pl)] ++ [nmE y.2.2]) (p := fun y => y.2.2.gn = N.gn ∧ y.2.2.ks = sealS N.ks e n (hdB kd at') pl ∧ y.2.2.ts = N.ts) (fun i g h => twoFs_in h) hI (hk 18 (by decide))
  have E := Env.say (t := 4) E rfl hy
  refine then_normal ?_
  refine wp_ret ?_
  refine ret2 E rfl rfl rfl ?_
  have M := M.pull 1 rfl
  have M := M.pull 1 rfl
  exact ⟨(r, N2), rfl, Mem.fin (L := [Ent.bytes 5 r ([UInt8.ofInt kd] ++ be8 e ++ be8 n ++ sealB N.ks e n (hdB kd at') pl), nmE N2] ++ _) M (List.sublist_append_left _ _) hN⟩

def kindOf (l : List UInt8) : Int := if h : 17 ≤ l.length then (if (l[0]'(by omega)).toNat < 1 then 0 else if 5 < (l[0]'(by omega)).toNat then 0 else ((l[0]'(by omega)).toNat : Int)) else 0
theorem Kind_x {b : Value} {l : List UInt8} {w0 : World} (hb : Bytes w0 b l) (hz : l.length ≤ 35184372088832) : Gives Try.prog 24 [b] w0 (.int .i64 (kindOf l)) := by
  unfold kindOf
  split
  · rename_i h
    split
    · exact Kind_low hb hz h ‹_›
    · split
      · exact Kind_high hb hz h ‹_› ‹_›
      · exact Kind_ok hb hz h ‹_› ‹_›
  · exact Kind_short hb hz (by omega)
/-- The numbers that a sector's bytes say. -/
def secE (l : List UInt8) : Int := rInt ((l.drop 1).take 16, false)
def secN (l : List UInt8) : Int := rInt (rNext 8 ((l.drop 1).take 16, false))

set_option maxRecDepth 100000 in
theorem sGet_short {N : NV} {kd at' : Int} {b : Value} {l : List UInt8} {w0 : World} (hb : Bytes w0 b l) (h1 : l.length < 17) : Gives Try.prog 38 [.iface 30 (.pointer (some ⟨N.gn, 0, none⟩)), .int .i64 kd, .int .i64 at', b] w0 (.tuple #[.agg #[.int .i64 0, .int .i64 0, .int .i64 0, .int .i64 0, .slice none 0 0], .int .i64 2]) := by
  refine enter (n := 75) Try.func38 rfl rfl rfl ?_
  intro fr E
  have M : Mem w0 (feet []) [] (fun w' => Bytes w' b l) w0 := Mem.begin (Has.nil w0) (fun w' h => hb.held0 h)
  refine code_region ?_
  refine snew (ob := .cells #[_, _, _, _, _] 98) (fun g => .pointer (some ⟨g, 0, none⟩)) E M rfl rfl rfl rfl rfl (run_allocN rfl T.zero98) fun g0 fr w M E => ?_
  refine sw E (run_assignC rfl) fun fr E => ?_
  refine seq_nil' ?_
  refine wp_seq ?_
  refine wp_block ?_
  refine code_region ?_
  refine mv E fun fr E => ?_
  refine sw (v := .int .i64 _) E (run_lenR rfl rfl rfl rfl T.slice54 M.fact) fun fr E => ?_
  refine sw (v := .bool true) E (tst rfl (decide_eq_true (by omega))) fun fr E => ?_
  refine ma E fun fr E => ?_
  refine seq_nil' ?_
  refine cond_true E rfl (rfl) ?_
  refine code_region ?_
  refine sw (v := .agg ([.int .i64 0, .int .i64 0, .int .i64 0, .int .i64 0, .slice none 0 0]).toArray) E (run_buildP (vs := []) (us := [.int .i64 0, .int .i64 0, .int .i64 0, .int .i64 0, .slice none 0 0]) rfl rfl T.ts98 T.zeroL98 rfl rfl rfl rfl) fun fr E => ?_
  refine sset (i := 0) (cs' := #[_, _, _, _, _]) E M rfl rfl rfl rfl rfl (run_storeN' (vs := #[_, _, _, _, _]) rfl rfl rfl T.size98 rfl (M.row (i := 0) rfl) rfl rfl rfl) rfl fun fr w M E => ?_
  refine sw E (run_assignC rfl) fun fr E => ?_
  refine seq_nil' ?_
  refine wp_ret ?_
  refine block_ret ?_
  refine then_ret ?_
  refine retC2 E rfl rfl rfl T.agg98 (M.row (i := 0) rfl) (rfl) ?_
  exact given M

set_option maxRecDepth 100000 in
theorem sGet_long {N : NV} {kd at' : Int} {b : Value} {l : List UInt8} {w0 : World} (hb : Bytes w0 b l) (h1 : ¬ l.length < 17) (h2 : 1024 < l.length) : Gives Try.prog 38 [.iface 30 (.pointer (some ⟨N.gn, 0, none⟩)), .int .i64 kd, .int .i64 at', b] w0 (.tuple #[.agg #[.int .i64 0, .int .i64 0, .int .i64 0, .int .i64 0, .slice none 0 0], .int .i64 3]) := by
  refine enter (n := 75) Try.func38 rfl rfl rfl ?_
  intro fr E
  have M : Mem w0 (feet []) [] (fun w' => Bytes w' b l) w0 := Mem.begin (Has.nil w0) (fun w' h => hb.held0 h)
  refine code_region ?_
  refine snew (ob := .cells #[_, _, _, _, _] 98) (fun g => .pointer (some ⟨g, 0, none⟩)) E M rfl rfl rfl rfl rfl (run_allocN rfl T.zero98) fun g0 fr w M E => ?_
  refine sw E (run_assignC rfl) fun fr E => ?_
  refine seq_nil' ?_
  refine wp_seq ?_
  refine wp_block ?_
  refine code_region ?_
  refine mv E fun fr E => ?_
  refine sw (v := .int .i64 _) E (run_lenR rfl rfl rfl rfl T.slice54 M.fact) fun fr E => ?_
  refine sw (v := .bool false) E (tst rfl (decide_eq_false (by omega))) fun fr E => ?_
  refine ma E fun fr E => ?_
  refine seq_nil' ?_
  refine cond_false E rfl (rfl) ?_
  refine code_region ?_
  refine mv E fun fr E => ?_
  refine sw (v := .int .i64 _) E (run_lenR rfl rfl rfl rfl T.slice54 M.fact) fun fr E => ?_
  refine sw (v := .bool true) E (tst rfl (decide_eq_true (by omega))) fun fr E => ?_
  refine ma E fun fr E => ?_
  refine seq_nil' ?_
  refine cond_true E rfl (rfl) ?_
  refine code_region ?_
  refine sw (v := .agg ([.int .i64 0, .int .i64 0, .int .i64 0, .int .i64 0, .slice none 0 0]).toArray) E (run_buildP (vs := []) (us := [.int .i64 0, .int .i64 0, .int .i64 0, .int .i64 0, .slice none 0 0]) rfl rfl T.ts98 T.zeroL98 rfl rfl rfl rfl) fun fr E => ?_
  refine sset (i := 0) (cs' := #[_, _, _, _, _]) E M rfl rfl rfl rfl rfl (run_storeN' (vs := #[_, _, _, _, _]) rfl rfl rfl T.size98 rfl (M.row (i := 0) rfl) rfl rfl rfl) rfl fun fr w M E => ?_
  refine sw E (run_assignC rfl) fun fr E => ?_
  refine seq_nil' ?_
  refine wp_ret ?_
  refine block_ret ?_
  refine then_ret ?_
  refine retC2 E rfl rfl rfl T.agg98 (M.row (i := 0) rfl) (rfl) ?_
  exact given M

set_option maxRecDepth 100000 in
theorem sGet_kind0 {N : NV} {kd at' : Int} {b : Value} {l : List UInt8} {w0 : World} (hb : Bytes w0 b l) (h1 : ¬ l.length < 17) (h2 : ¬ 1024 < l.length) (h3 : kd = 0) : Gives Try.prog 38 [.iface 30 (.pointer (some ⟨N.gn, 0, none⟩)), .int .i64 kd, .int .i64 at', b] w0 (.tuple #[.agg #[.int .i64 0, .int .i64 0, .int .i64 0, .int .i64 0, .slice none 0 0], .int .i64 5]) := by
  refine enter (n := 75) Try.func38 rfl rfl rfl ?_
  intro fr E
  have M : Mem w0 (feet []) [] (fun w' => Bytes w' b l) w0 := Mem.begin (Has.nil w0) (fun w' h => hb.held0 h)
  refine code_region ?_
  refine snew (ob := .cells #[_, _, _, _, _] 98) (fun g => .pointer (some ⟨g, 0, none⟩)) E M rfl rfl rfl rfl rfl (run_allocN rfl T.zero98) fun g0 fr w M E => ?_
  refine sw E (run_assignC rfl) fun fr E => ?_
  refine seq_nil' ?_
  refine wp_seq ?_
  refine wp_block ?_
  refine code_region ?_
  refine mv E fun fr E => ?_
  refine sw (v := .int .i64 _) E (run_lenR rfl rfl rfl rfl T.slice54 M.fact) fun fr E => ?_
  refine sw (v := .bool false) E (tst rfl (decide_eq_false (by omega))) fun fr E => ?_
  refine ma E fun fr E => ?_
  refine seq_nil' ?_
  refine cond_false E rfl (rfl) ?_
  refine code_region ?_
  refine mv E fun fr E => ?_
  refine sw (v := .int .i64 _) E (run_lenR rfl rfl rfl rfl T.slice54 M.fact) fun fr E => ?_
  refine sw (v := .bool false) E (tst rfl (decide_eq_false (by omega))) fun fr E => ?_
  refine ma E fun fr E => ?_
  refine seq_nil' ?_
  refine cond_false E rfl (rfl) ?_
  refine code_region ?_
  refine mv E fun fr E => ?_
  refine sw (v := .bool true) E (tst rfl (decide_eq_true (h3))) fun fr E => ?_
  refine mv E fun fr E => ?_
  refine sno E rfl rfl rfl rfl fun fr E => ?_
  refine sno E rfl rfl rfl rfl fun fr E => ?_
  refine sno E rfl rfl rfl rfl fun fr E => ?_
  refine sno E rfl rfl rfl rfl fun fr E => ?_
  refine sw (v := .bool _) E (rfl) fun fr E => ?_
  refine ma E fun fr E => ?_
  refine seq_nil' ?_
  refine cond_true E rfl (rfl) ?_
  refine code_region ?_
  refine sw (v := .agg ([.int .i64 0, .int .i64 0, .int .i64 0, .int .i64 0, .slice none 0 0]).toArray) E (run_buildP (vs := []) (us := [.int .i64 0, .int .i64 0, .int .i64 0, .int .i64 0, .slice none 0 0]) rfl rfl T.ts98 T.zeroL98 rfl rfl rfl rfl) fun fr E => ?_
  refine sset (i := 0) (cs' := #[_, _, _, _, _]) E M rfl rfl rfl rfl rfl (run_storeN' (vs := #[_, _, _, _, _]) rfl rfl rfl T.size98 rfl (M.row (i := 0) rfl) rfl rfl rfl) rfl fun fr w M E => ?_
  refine sw E (run_assignC rfl) fun fr E => ?_
  refine seq_nil' ?_
  refine wp_ret ?_
  refine block_ret ?_
  refine then_ret ?_
  refine retC2 E rfl rfl rfl T.agg98 (M.row (i := 0) rfl) (rfl) ?_
  exact given M

set_option maxRecDepth 100000 in
theorem sGet_kind {N : NV} {kd at' : Int} {b : Value} {l : List UInt8} {w0 : World} (hb : Bytes w0 b l) (h1 : ¬ l.length < 17) (h2 : ¬ 1024 < l.length) (h3 : ¬ kd = 0) (h4 : ¬ kindOf l = kd) : Gives Try.prog 38 [.iface 30 (.pointer (some ⟨N.gn, 0, none⟩)), .int .i64 kd, .int .i64 at', b] w0 (.tuple #[.agg #[.int .i64 0, .int .i64 0, .int .i64 0, .int .i64 0, .slice none 0 0], .int .i64 5]) := by
  refine enter (n := 75) Try.func38 rfl rfl rfl ?_
  intro fr E
  have M : Mem w0 (feet []) [] (fun w' => Bytes w' b l) w0 := Mem.begin (Has.nil w0) (fun w' h => hb.held0 h)
  refine code_region ?_
  refine snew (ob := .cells #[_, _, _, _, _] 98) (fun g => .pointer (some ⟨g, 0, none⟩)) E M rfl rfl rfl rfl rfl (run_allocN rfl T.zero98) fun g0 fr w M E => ?_
  refine sw E (run_assignC rfl) fun fr E => ?_
  refine seq_nil' ?_
  refine wp_seq ?_
  refine wp_block ?_
  refine code_region ?_
  refine mv E fun fr E => ?_
  refine sw (v := .int .i64 _) E (run_lenR rfl rfl rfl rfl T.slice54 M.fact) fun fr E => ?_
  refine sw (v := .bool false) E (tst rfl (decide_eq_false (by omega))) fun fr E => ?_
  refine ma E fun fr E => ?_
  refine seq_nil' ?_
  refine cond_false E rfl (rfl) ?_
  refine code_region ?_
  refine mv E fun fr E => ?_
  refine sw (v := .int .i64 _) E (run_lenR rfl rfl rfl rfl T.slice54 M.fact) fun fr E => ?_
  refine sw (v := .bool false) E (tst rfl (decide_eq_false (by omega))) fun fr E => ?_
  refine ma E fun fr E => ?_
  refine seq_nil' ?_
  refine cond_false E rfl (rfl) ?_
  refine code_region ?_
  refine mv E fun fr E => ?_
  refine sw (v := .bool false) E (tst rfl (decide_eq_false (h3))) fun fr E => ?_
  refine mv E fun fr E => ?_
  refine mv E fun fr E => ?_
  refine sgive E M rfl rfl rfl rfl rfl (run_call rfl rfl T.fn24) (Kind_x M.fact (by omega)) fun fr w M E => ?_
  refine mv E fun fr E => ?_
  refine sw (v := .bool true) E (tst rfl (by simp; exact h4)) fun fr E => ?_
  refine sw (v := .bool _) E (rfl) fun fr E => ?_
  refine ma E fun fr E => ?_
  refine seq_nil' ?_
  refine cond_true E rfl (rfl) ?_
  refine code_region ?_
  refine sw (v := .agg ([.int .i64 0, .int .i64 0, .int .i64 0, .int .i64 0, .slice none 0 0]).toArray) E (run_buildP (vs := []) (us := [.int .i64 0, .int .i64 0, .int .i64 0, .int .i64 0, .slice none 0 0]) rfl rfl T.ts98 T.zeroL98 rfl rfl rfl rfl) fun fr E => ?_
  refine sset (i := 0) (cs' := #[_, _, _, _, _]) E M rfl rfl rfl rfl rfl (run_storeN' (vs := #[_, _, _, _, _]) rfl rfl rfl T.size98 rfl (M.row (i := 0) rfl) rfl rfl rfl) rfl fun fr w M E => ?_
  refine sw E (run_assignC rfl) fun fr E => ?_
  refine seq_nil' ?_
  refine wp_ret ?_
  refine block_ret ?_
  refine then_ret ?_
  refine retC2 E rfl rfl rfl T.agg98 (M.row (i := 0) rfl) (rfl) ?_
  exact given M

set_option maxRecDepth 100000 in
theorem sGet_range {N : NV} {kd at' : Int} {b : Value} {l : List UInt8} {w0 : World} (hb : Bytes w0 b l) (h1 : ¬ l.length < 17) (h2 : ¬ 1024 < l.length) (h3 : ¬ kd = 0) (h4 : kindOf l = kd) (h5 : ¬ SRight (secE l) (secN l) at') : Gives Try.prog 38 [.iface 30 (.pointer (some ⟨N.gn, 0, none⟩)), .int .i64 kd, .int .i64 at', b] w0 (.tuple #[.agg #[.int .i64 0, .int .i64 0, .int .i64 0, .int .i64 0, .slice none 0 0], .int .i64 7]) := by
  refine enter (n := 75) Try.func38 rfl rfl rfl ?_
  intro fr E
  have M : Mem w0 (feet []) [] (fun w' => Bytes w' b l) w0 := Mem.begin (Has.nil w0) (fun w' h => hb.held0 h)
  refine code_region ?_
  refine snew (ob := .cells #[_, _, _, _, _] 98) (fun g => .pointer (some ⟨g, 0, none⟩)) E M rfl rfl rfl rfl rfl (run_allocN rfl T.zero98) fun g0 fr w M E => ?_
  refine sw E (run_assignC rfl) fun fr E => ?_
  refine seq_nil' ?_
  refine wp_seq ?_
  refine wp_block ?_
  refine code_region ?_
  refine mv E fun fr E => ?_
  refine sw (v := .int .i64 _) E (run_lenR rfl rfl rfl rfl T.slice54 M.fact) fun fr E => ?_
  refine sw (v := .bool false) E (tst rfl (decide_eq_false (by omega))) fun fr E => ?_
  refine ma E fun fr E => ?_
  refine seq_nil' ?_
  refine cond_false E rfl (rfl) ?_
  refine code_region ?_
  refine mv E fun fr E => ?_
  refine sw (v := .int .i64 _) E (run_lenR rfl rfl rfl rfl T.slice54 M.fact) fun fr E => ?_
  refine sw (v := .bool false) E (tst rfl (decide_eq_false (by omega))) fun fr E => ?_
  refine ma E fun fr E => ?_
  refine seq_nil' ?_
  refine cond_false E rfl (rfl) ?_
  refine code_region ?_
  refine mv E fun fr E => ?_
  refine sw (v := .bool false) E (tst rfl (decide_eq_false (h3))) fun fr E => ?_
  refine mv E fun fr E => ?_
  refine mv E fun fr E => ?_
  refine sgive E M rfl rfl rfl rfl rfl (run_call rfl rfl T.fn24) (Kind_x M.fact (by omega)) fun fr w M E => ?_
  refine mv E fun fr E => ?_
  refine sw (v := .bool false) E (tst rfl (by simp; exact h4)) fun fr E => ?_
  refine sw (v := .bool _) E (rfl) fun fr E => ?_
  refine ma E fun fr E => ?_
  refine seq_nil' ?_
  refine cond_false E rfl (rfl) ?_
  refine wp_skip ?_
  refine block_normal ?_
  refine then_normal ?_
  refine code_region ?_
  refine mv E fun fr E => ?_
  refine sw E (run_sliceR (lo := 1) (hi := 17) rfl M.fact rfl T.slice54 T.size5 (⟨_, _, rfl, rfl⟩) (⟨_, _, rfl, rfl⟩) (by decide) (by omega)) fun fr E => ?_
  refine scall E M rfl rfl rfl rfl rfl (run_call rfl rfl T.fn52) (Read_x (Bytes.cut 1 17 M.fact (by decide) (by omega)) (by simp; omega)) rfl ?_
  rintro ⟨g, rv0⟩ fr w - M E
  refine ma E fun fr E => ?_
  refine seq_nil' ?_
  refine code_region ?_
  refine mv E fun fr E => ?_
  refine mv E fun fr E => ?_
  refine scallI (rdr g rv0 ((l.drop 1).take (17 - 1)) false) E M rfl rfl rfl rfl rfl (run_call rfl rfl T.fn53) rfl (fun H => Reader_Int_x H (by simp; omega)) ?_
  rintro rv1 fr w - M E
  refine mv E fun fr E => ?_
  refine scallI (rdr g rv1 (rNext 8 ((l.drop 1).take (17 - 1), false)).1 (rNext 8 ((l.drop 1).take (17 - 1), false)).2) E M rfl rfl rfl rfl rfl (run_call rfl rfl T.fn53) rfl (fun H => Reader_Int_x H (by simp [rNext]; split <;> simp <;> omega)) ?_
  rintro rv2 fr w - M E
  refine mv E fun fr E => ?_
  refine sw (v := .agg ([_, _, _, _, .slice none 0 0]).toArray) E (run_buildP (vs := [_, _, _, _]) (us := [_, _, _, _, .slice none 0 0]) rfl rfl T.ts98 T.zeroL98 rfl rfl rfl rfl) fun fr E => ?_
  refine snew (ob := .cells #[_, _, _, _, _] 98) (fun g => .pointer (some ⟨g, 0, none⟩)) E M rfl rfl rfl rfl rfl (run_allocN rfl T.zero98) fun g1 fr w M E => ?_
  refine sset (i := 0) (cs' := #[_, _, _, _, _]) E M rfl rfl rfl rfl rfl (run_storeN' (vs := #[_, _, _, _, _]) rfl rfl rfl T.size98 rfl (M.row (i := 0) rfl) rfl rfl rfl) rfl fun fr w M E => ?_
  refine seq_nil' ?_
  refine wp_seq ?_
  refine code_region ?_
  refine sw (v := .pointer (some ⟨_, 1, none⟩)) E (run_fieldAddr rfl rfl T.fld98_1) fun fr E => ?_
  refine sw (v := .int .i64 _) E (run_loadB rfl rfl T.one3 (M.row (i := 0) rfl) rfl) fun fr E => ?_
  refine sw (v := .pointer (some ⟨_, 2, none⟩)) E (run_fieldAddr rfl rfl T.fld98_2) fun fr E => ?_
  refine sw (v := .int .i64 _) E (run_loadB rfl rfl T.one3 (M.row (i := 0) rfl) rfl) fun fr E => ?_
  refine mv E fun fr E => ?_
  refine sgive E M rfl rfl rfl rfl rfl (run_call rfl rfl T.fn54) (right_b false (decide_eq_false h5)) fun fr w M E => ?_
  refine sw (v := .bool _) E (rfl) fun fr E => ?_
  refine seq_nil' ?_
  refine cond_true E rfl (rfl) ?_
  refine code_region ?_
  refine sw (v := .agg ([.int .i64 0, .int .i64 0, .int .i64 0, .int .i64 0, .slice none 0 0]).toArray) E (run_buildP (vs := []) (us := [.int .i64 0, .int .i64 0, .int .i64 0, .int .i64 0, .slice none 0 0]) rfl rfl T.ts98 T.zeroL98 rfl rfl rfl rfl) fun fr E => ?_
  refine sset (i := 3) (cs' := #[_, _, _, _, _]) E M rfl rfl rfl rfl rfl (run_storeN' (vs := #[_, _, _, _, _]) rfl rfl rfl T.size98 rfl (M.row (i := 3) rfl) rfl rfl rfl) rfl fun fr w M E => ?_
  refine sw E (run_assignC rfl) fun fr E => ?_
  refine seq_nil' ?_
  refine wp_ret ?_
  refine then_ret ?_
  refine retC2 E rfl rfl rfl T.agg98 (M.row (i := 3) rfl) (rfl) ?_
  exact given M

set_option maxRecDepth 100000 in
theorem sGet_seal {N : NV} {kd at' : Int} {b : Value} {l : List UInt8} {w0 : World} (hb : Bytes w0 b l) (H : Has w0 [nmE N]) (hkz : N.ks.length ≤ 1099511627776) (h1 : ¬ l.length < 17) (h2 : ¬ 1024 < l.length) (h3 : ¬ kd = 0) (h4 : kindOf l = kd) (h5 : SRight (secE l) (secN l) at') (ho : openN N.ks (secE l) (secN l) (hdB kd at') (l.drop 17) = none) : Gives Try.prog 38 [.iface 30 (.pointer (some ⟨N.gn, 0, none⟩)), .int .i64 kd, .int .i64 at', b] w0 (.tuple #[.agg #[.int .i64 0, .int .i64 0, .int .i64 0, .int .i64 0, .slice none 0 0], .int .i64 19]) := by
  refine enter (n := 75) Try.func38 rfl rfl rfl ?_
  intro fr E
  have M : Mem w0 (feet []) [] (fun w' => Has w' [nmE N] ∧ Bytes w' b l) w0 := Mem.begin (Has.nil w0) (fun w' hw => ⟨H.held hw fun g hg c => feet_nil c, hb.held0 hw⟩)
  refine code_region ?_
  refine snew (ob := .cells #[_, _, _, _, _] 98) (fun g => .pointer (some ⟨g, 0, none⟩)) E M rfl rfl rfl rfl rfl (run_allocN rfl T.zero98) fun g0 fr w M E => ?_
  refine sw E (run_assignC rfl) fun fr E => ?_
  refine seq_nil' ?_
  refine wp_seq ?_
  refine wp_block ?_
  refine code_region ?_
  refine mv E fun fr E => ?_
  refine sw (v := .int .i64 _) E (run_lenR rfl rfl rfl rfl T.slice54 M.fact.2) fun fr E => ?_
  refine sw (v := .bool false) E (tst rfl (decide_eq_false (by omega))) fun fr E => ?_
  refine ma E fun fr E => ?_
  refine seq_nil' ?_
  refine cond_false E rfl (rfl) ?_
  refine code_region ?_
  refine mv E fun fr E => ?_
  refine sw (v := .int .i64 _) E (run_lenR rfl rfl rfl rfl T.slice54 M.fact.2) fun fr E => ?_
  refine sw (v := .bool false) E (tst rfl (decide_eq_false (by omega))) fun fr E => ?_
  refine ma E fun fr E => ?_
  refine seq_nil' ?_
  refine cond_false E rfl (rfl) ?_
  refine code_region ?_
  refine mv E fun fr E => ?_
  refine sw (v := .bool false) E (tst rfl (decide_eq_false (h3))) fun fr E => ?_
  refine mv E fun fr E => ?_
  refine mv E fun fr E => ?_
  refine sgive E M rfl rfl rfl rfl rfl (run_call rfl rfl T.fn24) (Kind_x M.fact.2 (by omega)) fun fr w M E => ?_
  refine mv E fun fr E => ?_
  refine sw (v := .bool false) E (tst rfl (by simp; exact h4)) fun fr E => ?_
  refine sw (v := .bool _) E (rfl) fun fr E => ?_
  refine ma E fun fr E => ?_
  refine seq_nil' ?_
  refine cond_false E rfl (rfl) ?_
  refine wp_skip ?_
  refine block_normal ?_
  refine then_normal ?_
  refine code_region ?_
  refine mv E fun fr E => ?_
  refine sw E (run_sliceR (lo := 1) (hi := 17) rfl M.fact.2 rfl T.slice54 T.size5 (⟨_, _, rfl, rfl⟩) (⟨_, _, rfl, rfl⟩) (by decide) (by omega)) fun fr E => ?_
  refine scall E M rfl rfl rfl rfl rfl (run_call rfl rfl T.fn52) (Read_x (Bytes.cut 1 17 M.fact.2 (by decide) (by omega)) (by simp; omega)) rfl ?_
  rintro ⟨g, rv0⟩ fr w - M E
  refine ma E fun fr E => ?_
  refine seq_nil' ?_
  refine code_region ?_
  refine mv E fun fr E => ?_
  refine mv E fun fr E => ?_
  refine scallI (rdr g rv0 ((l.drop 1).take (17 - 1)) false) E M rfl rfl rfl rfl rfl (run_call rfl rfl T.fn53) rfl (fun H => Reader_Int_x H (by simp; omega)) ?_
  rintro rv1 fr w - M E
  refine mv E fun fr E => ?_
  refine scallI (rdr g rv1 (rNext 8 ((l.drop 1).take (17 - 1), false)).1 (rNext 8 ((l.drop 1).take (17 - 1), false)).2) E M rfl rfl rfl rfl rfl (run_call rfl rfl T.fn53) rfl (fun H => Reader_Int_x H (by simp [rNext]; split <;> simp <;> omega)) ?_
  rintro rv2 fr w - M E
  refine mv E fun fr E => ?_
  refine sw (v := .agg ([_, _, _, _, .slice none 0 0]).toArray) E (run_buildP (vs := [_, _, _, _]) (us := [_, _, _, _, .slice none 0 0]) rfl rfl T.ts98 T.zeroL98 rfl rfl rfl rfl) fun fr E => ?_
  refine snew (ob := .cells #[_, _, _, _, _] 98) (fun g => .pointer (some ⟨g, 0, none⟩)) E M rfl rfl rfl rfl rfl (run_allocN rfl T.zero98) fun g1 fr w M E => ?_
  refine sset (i := 0) (cs' := #[_, _, _, _, _]) E M rfl rfl rfl rfl rfl (run_storeN' (vs := #[_, _, _, _, _]) rfl rfl rfl T.size98 rfl (M.row (i := 0) rfl) rfl rfl rfl) rfl fun fr w M E => ?_
  refine seq_nil' ?_
  refine wp_seq ?_
  refine code_region ?_
  refine sw (v := .pointer (some ⟨_, 1, none⟩)) E (run_fieldAddr rfl rfl T.fld98_1) fun fr E => ?_
  refine sw (v := .int .i64 _) E (run_loadB rfl rfl T.one3 (M.row (i := 0) rfl) rfl) fun fr E => ?_
  refine sw (v := .pointer (some ⟨_, 2, none⟩)) E (run_fieldAddr rfl rfl T.fld98_2) fun fr E => ?_
  refine sw (v := .int .i64 _) E (run_loadB rfl rfl T.one3 (M.row (i := 0) rfl) rfl) fun fr E => ?_
  refine mv E fun fr E => ?_
  refine sgive E M rfl rfl rfl rfl rfl (run_call rfl rfl T.fn54) (right_b true (decide_eq_true h5)) fun fr w M E => ?_
  refine sw (v := .bool _) E (rfl) fun fr E => ?_
  refine seq_nil' ?_
  refine cond_false E rfl (rfl) ?_
  refine wp_skip ?_
  refine then_normal ?_
  refine wp_seq (free_reg (B := T.tab38_11_b) (Vs := (.exact _ :: .exact (.pointer (some ⟨_, 1, none⟩)) :: .exact (.int .i64 _) :: .exact (.pointer (some ⟨_, 2, none⟩)) :: .exact (.int .i64 _) :: .exact _ :: .exact _ :: CameV w.heap.size (fun v => [Ent.bytes 5 v (hdB kd at')]) (fun _ => True) :: .exact _ :: .exact _ :: .exact (.func (.method "Open") #[.iface 30 (.pointer (some ⟨N.gn, 0, none⟩))] #[]) :: .exact (.func (.method "Open") #[.iface 30 (.pointer (some ⟨N.gn, 0, none⟩))] #[]) :: .exact _ :: .exact (.tuple #[.slice none 0 0, .bool false]) :: .exact _ :: .exact (.slice none 0 0) :: .exact (.bool false) :: .exact (.slice none 0 0) :: .exact (.bool false) :: [])) T.tab38_11_i E T.mixed T.tab38_11 rfl (AllS.lasts ⟨trivial, trivial, trivial, trivial, trivial, trivial, trivial, LastsS.cameV, trivial, trivial, trivial, trivial, trivial, trivial, trivial, trivial, trivial, trivial, trivial, trivial⟩) ⟨fv rfl rfl (fun x w hx hk => run_move rfl rfl),
      fv rfl rfl (fun x w hx hk => run_fieldAddr rfl rfl T.fld98_1),
      fv rfl rfl (fun x w hx hk => run_loadB rfl rfl T.one3 ((M.ext ((Ext.drew _).trans hx)).row (i := 0) rfl) rfl),
      fv rfl rfl (fun x w hx hk => run_fieldAddr rfl rfl T.fld98_2),
      fv rfl rfl (fun x w hx hk => run_loadB rfl rfl T.one3 ((M.ext ((Ext.drew _).trans hx)).row (i := 0) rfl) rfl),
      fv rfl rfl (fun x w hx hk => run_move rfl rfl),
      fv rfl rfl (fun x w hx hk => run_move rfl rfl),
      fs_ext rfl rfl (fun x w hx hk => ⟨_, _, rfl, rfl, rfl, run_call rfl rfl T.fn55, (head_x kd at' _).extV hx.size⟩),
      fv rfl rfl (fun x w hx hk => run_move rfl rfl),
      fv rfl rfl (fun x w hx hk => run_sliceR (lo := 17) (hi := l.length) rfl (M.ext ((Ext.drew _).trans hx)).fact.2 rfl T.slice54 T.size5 (⟨_, _, rfl, rfl⟩) (rfl) (by omega) (Nat.le_refl _)),
      fv rfl rfl (fun x w hx hk => run_makeMeth rfl rfl),
      fv rfl rfl (fun x w hx hk => run_nilCheckM rfl rfl T.meth30_Open),
      fv rfl rfl (fun x w hx hk => run_move rfl rfl),
      fs_ext rfl rfl (fun x w hx hk => ⟨_, _, rfl, rfl, rfl, run_invoke rfl rfl T.meth30_Open T.fn105, (Open_no (N := N) (e := secE l) (n := secN l) (M.ext ((Ext.drew _).trans hx)).fact.1 ((hk 7 rfl).1.reads 0 rfl) (Bytes.suf (k := 17) (M.ext ((Ext.drew _).trans hx)).fact.2 (by omega)) (by simp; omega) hkz ho).ext⟩),
      fv rfl rfl (fun x w hx hk => run_move rfl rfl),
      fv rfl rfl (fun x w hx hk => run_extract rfl rfl rfl),
      fv rfl rfl (fun x w hx hk => run_extract rfl rfl rfl),
      fv rfl rfl (fun x w hx hk => run_assign rfl rfl),
      fv rfl rfl (fun x w hx hk => run_assign rfl rfl), trivial⟩ ?_)
  intro x fr w hx hk E
  have M := M.ext hx
  refine then_normal ?_
  refine wp_seq ?_
  refine code_region ?_
  refine mv E fun fr E => ?_
  refine sw (v := .bool _) E (rfl) fun fr E => ?_
  refine seq_nil' ?_
  refine cond_true E rfl (rfl) ?_
  refine code_region ?_
  refine sw (v := .agg ([.int .i64 0, .int .i64 0, .int .i64 0, .int .i64 0, .slice none 0 0]).toArray) E (run_buildP (vs := []) (us := [.int .i64 0, .int .i64 0, .int .i64 0, .int .i64 0, .slice none 0 0]) rfl rfl T.ts98 T.zeroL98 rfl rfl rfl rfl) fun fr E => ?_
  refine sset (i := 3) (cs' := #[_, _, _, _, _]) E M rfl rfl rfl rfl rfl (run_storeN' (vs := #[_, _, _, _, _]) rfl rfl rfl T.size98 rfl (M.row (i := 3) rfl) rfl rfl rfl) rfl fun fr w M E => ?_
  refine sw E (run_assignC rfl) fun fr E => ?_
  refine seq_nil' ?_
  refine wp_ret ?_
  refine then_ret ?_
  refine retC2 E rfl rfl rfl T.agg98 (M.row (i := 3) rfl) (rfl) ?_
  exact given M

set_option maxRecDepth 100000 in
theorem sGet_ok {N : NV} {kd at' : Int} {b : Value} {l : List UInt8} {w0 : World} (hb : Bytes w0 b l) {q : List UInt8} (H : Has w0 [nmE N]) (hkz : N.ks.length ≤ 1099511627776) (h1 : ¬ l.length < 17) (h2 : ¬ 1024 < l.length) (h3 : ¬ kd = 0) (h4 : kindOf l = kd) (h5 : SRight (secE l) (secN l) at') (ho : openN N.ks (secE l) (secN l) (hdB kd at') (l.drop 17) = some q) : Does Try.prog 38 [.iface 30 (.pointer (some ⟨N.gn, 0, none⟩)), .int .i64 kd, .int .i64 at', b] w0 [] (fun c : Value => .tuple #[.agg #[.int .i64 kd, .int .i64 (secE l), .int .i64 (secN l), .int .i64 at', c], .int .i64 0]) (fun c => [.bytes 5 c q]) (fun _ => True) := by
  refine enter (n := 75) Try.func38 rfl rfl rfl ?_
  intro fr E
  have M : Mem w0 (feet []) [] (fun w' => Has w' [nmE N] ∧ Bytes w' b l) w0 := Mem.begin (Has.nil w0) (fun w' hw => ⟨H.held hw fun g hg c => feet_nil c, hb.held0 hw⟩)
  refine code_region ?_
  refine snew (ob := .cells #[_, _, _, _, _] 98) (fun g => .pointer (some ⟨g, 0, none⟩)) E M rfl rfl rfl rfl rfl (run_allocN rfl T.zero98) fun g0 fr w M E => ?_
  refine sw E (run_assignC rfl) fun fr E => ?_
  refine seq_nil' ?_
  refine wp_seq ?_
  refine wp_block ?_
  refine code_region ?_
  refine mv E fun fr E => ?_
  refine sw (v := .int .i64 _) E (run_lenR rfl rfl rfl rfl T.slice54 M.fact.2) fun fr E => ?_
  refine sw (v := .bool false) E (tst rfl (decide_eq_false (by omega))) fun fr E => ?_
  refine ma E fun fr E => ?_
  refine seq_nil' ?_
  refine cond_false E rfl (rfl) ?_
  refine code_region ?_
  refine mv E fun fr E => ?_
  refine sw (v := .int .i64 _) E (run_lenR rfl rfl rfl rfl T.slice54 M.fact.2) fun fr E => ?_
  refine sw (v := .bool false) E (tst rfl (decide_eq_false (by omega))) fun fr E => ?_
  refine ma E fun fr E => ?_
  refine seq_nil' ?_
  refine cond_false E rfl (rfl) ?_
  refine code_region ?_
  refine mv E fun fr E => ?_
  refine sw (v := .bool false) E (tst rfl (decide_eq_false (h3))) fun fr E => ?_
  refine mv E fun fr E => ?_
  refine mv E fun fr E => ?_
  refine sgive E M rfl rfl rfl rfl rfl (run_call rfl rfl T.fn24) (Kind_x M.fact.2 (by omega)) fun fr w M E => ?_
  refine mv E fun fr E => ?_
  refine sw (v := .bool false) E (tst rfl (by simp; exact h4)) fun fr E => ?_
  refine sw (v := .bool _) E (rfl) fun fr E => ?_
  refine ma E fun fr E => ?_
  refine seq_nil' ?_
  refine cond_false E rfl (rfl) ?_
  refine wp_skip ?_
  refine block_normal ?_
  refine then_normal ?_
  refine code_region ?_
  refine mv E fun fr E => ?_
  refine sw E (run_sliceR (lo := 1) (hi := 17) rfl M.fact.2 rfl T.slice54 T.size5 (⟨_, _, rfl, rfl⟩) (⟨_, _, rfl, rfl⟩) (by decide) (by omega)) fun fr E => ?_
  refine scall E M rfl rfl rfl rfl rfl (run_call rfl rfl T.fn52) (Read_x (Bytes.cut 1 17 M.fact.2 (by decide) (by omega)) (by simp; omega)) rfl ?_
  rintro ⟨g, rv0⟩ fr w - M E
  refine ma E fun fr E => ?_
  refine seq_nil' ?_
  refine code_region ?_
  refine mv E fun fr E => ?_
  refine mv E fun fr E => ?_
  refine scallI (rdr g rv0 ((l.drop 1).take (17 - 1)) false) E M rfl rfl rfl rfl rfl (run_call rfl rfl T.fn53) rfl (fun H => Reader_Int_x H (by simp; omega)) ?_
  rintro rv1 fr w - M E
  refine mv E fun fr E => ?_
  refine scallI (rdr g rv1 (rNext 8 ((l.drop 1).take (17 - 1), false)).1 (rNext 8 ((l.drop 1).take (17 - 1), false)).2) E M rfl rfl rfl rfl rfl (run_call rfl rfl T.fn53) rfl (fun H => Reader_Int_x H (by simp [rNext]; split <;> simp <;> omega)) ?_
  rintro rv2 fr w - M E
  refine mv E fun fr E => ?_
  refine sw (v := .agg ([_, _, _, _, .slice none 0 0]).toArray) E (run_buildP (vs := [_, _, _, _]) (us := [_, _, _, _, .slice none 0 0]) rfl rfl T.ts98 T.zeroL98 rfl rfl rfl rfl) fun fr E => ?_
  refine snew (ob := .cells #[_, _, _, _, _] 98) (fun g => .pointer (some ⟨g, 0, none⟩)) E M rfl rfl rfl rfl rfl (run_allocN rfl T.zero98) fun g1 fr w M E => ?_
  refine sset (i := 0) (cs' := #[_, _, _, _, _]) E M rfl rfl rfl rfl rfl (run_storeN' (vs := #[_, _, _, _, _]) rfl rfl rfl T.size98 rfl (M.row (i := 0) rfl) rfl rfl rfl) rfl fun fr w M E => ?_
  refine seq_nil' ?_
  refine wp_seq ?_
  refine code_region ?_
  refine sw (v := .pointer (some ⟨_, 1, none⟩)) E (run_fieldAddr rfl rfl T.fld98_1) fun fr E => ?_
  refine sw (v := .int .i64 _) E (run_loadB rfl rfl T.one3 (M.row (i := 0) rfl) rfl) fun fr E => ?_
  refine sw (v := .pointer (some ⟨_, 2, none⟩)) E (run_fieldAddr rfl rfl T.fld98_2) fun fr E => ?_
  refine sw (v := .int .i64 _) E (run_loadB rfl rfl T.one3 (M.row (i := 0) rfl) rfl) fun fr E => ?_
  refine mv E fun fr E => ?_
  refine sgive E M rfl rfl rfl rfl rfl (run_call rfl rfl T.fn54) (right_b true (decide_eq_true h5)) fun fr w M E => ?_
  refine sw (v := .bool _) E (rfl) fun fr E => ?_
  refine seq_nil' ?_
  refine cond_false E rfl (rfl) ?_
  refine wp_skip ?_
  refine then_normal ?_
  refine wp_seq (free_reg (B := T.tab38_11_b) (Vs := (.exact _ :: .exact (.pointer (some ⟨_, 1, none⟩)) :: .exact (.int .i64 _) :: .exact (.pointer (some ⟨_, 2, none⟩)) :: .exact (.int .i64 _) :: .exact _ :: .exact _ :: CameV w.heap.size (fun v => [Ent.bytes 5 v (hdB kd at')]) (fun _ => True) :: .exact _ :: .exact _ :: .exact (.func (.method "Open") #[.iface 30 (.pointer (some ⟨N.gn, 0, none⟩))] #[]) :: .exact (.func (.method "Open") #[.iface 30 (.pointer (some ⟨N.gn, 0, none⟩))] #[]) :: .exact _ :: CameI w.heap.size ([]) (fun c : Value => .tuple #[c, .bool true]) (fun c => [Ent.bytes 5 c q]) (fun _ => True) :: CameI w.heap.size ([]) (fun c : Value => .tuple #[c, .bool true]) (fun c => [Ent.bytes 5 c q]) (fun _ => True) :: CameI w.heap.size ([]) (fun c : Value => c) (fun c => [Ent.bytes 5 c q]) (fun _ => True) :: .exact (.bool true) :: CameI w.heap.size ([]) (fun c : Value => c) (fun c => [Ent.bytes 5 c q]) (fun _ => True) :: .exact _ :: [])) T.tab38_11_i E T.mixed T.tab38_11 rfl (AllS.lasts ⟨trivial, trivial, trivial, trivial, trivial, trivial, trivial, LastsS.cameV, trivial, trivial, trivial, trivial, trivial, LastsS.cameI, LastsS.cameI, LastsS.cameI, trivial, LastsS.cameI, trivial, trivial⟩) ⟨fv rfl rfl (fun x w hx hk => run_move rfl rfl),
      fv rfl rfl (fun x w hx hk => run_fieldAddr rfl rfl T.fld98_1),
      fv rfl rfl (fun x w hx hk => run_loadB rfl rfl T.one3 ((M.ext ((Ext.drew _).trans hx)).row (i := 0) rfl) rfl),
      fv rfl rfl (fun x w hx hk => run_fieldAddr rfl rfl T.fld98_2),
      fv rfl rfl (fun x w hx hk => run_loadB rfl rfl T.one3 ((M.ext ((Ext.drew _).trans hx)).row (i := 0) rfl) rfl),
      fv rfl rfl (fun x w hx hk => run_move rfl rfl),
      fv rfl rfl (fun x w hx hk => run_move rfl rfl),
      fs_ext rfl rfl (fun x w hx hk => ⟨_, _, rfl, rfl, rfl, run_call rfl rfl T.fn55, (head_x kd at' _).extV hx.size⟩),
      fv rfl rfl (fun x w hx hk => run_move rfl rfl),
      fv rfl rfl (fun x w hx hk => run_sliceR (lo := 17) (hi := l.length) rfl (M.ext ((Ext.drew _).trans hx)).fact.2 rfl T.slice54 T.size5 (⟨_, _, rfl, rfl⟩) (rfl) (by omega) (Nat.le_refl _)),
      fv rfl rfl (fun x w hx hk => run_makeMeth rfl rfl),
      fv rfl rfl (fun x w hx hk => run_nilCheckM rfl rfl T.meth30_Open),
      fv rfl rfl (fun x w hx hk => run_move rfl rfl),
      fs_ext rfl rfl (fun x w hx hk => ⟨_, _, rfl, rfl, rfl, run_invoke rfl rfl T.meth30_Open T.fn105, (Open_yes (N := N) (e := secE l) (n := secN l) (M.ext ((Ext.drew _).trans hx)).fact.1 ((hk 7 rfl).1.reads 0 rfl) (Bytes.suf (k := 17) (M.ext ((Ext.drew _).trans hx)).fact.2 (by omega)) (by simp; omega) hkz ho).extI hx.size⟩),
      fs_on (j := 13) rfl rfl rfl rfl (fun x w y hy => ⟨rfl, rfl, rfl, run_moveV rfl hy⟩),
      fs_on (j := 14) rfl rfl rfl rfl (fun x w y hy => ⟨rfl, rfl, rfl, run_extractV rfl hy rfl⟩),
      fs_of (j := 14) rfl rfl rfl rfl (fun x w y hy => ⟨rfl, rfl, rfl, run_extractV rfl hy rfl⟩),
      fs_on (j := 15) rfl rfl rfl rfl (fun x w y hy => ⟨rfl, rfl, rfl, run_assignV rfl hy⟩),
      fv rfl rfl (fun x w hx hk => run_assign rfl rfl), trivial⟩ ?_)
  intro x fr w hx hk E
  obtain ⟨c, hy, -, M⟩ := M.came (val := fun c : Value => c) (outs := fun c => [Ent.bytes 5 c q]) (p := fun _ => True) hx (hk 17 (by decide))
  have E := Env.say (t := 12) E rfl hy
  refine then_normal ?_
  refine wp_seq ?_
  refine code_region ?_
  refine mv E fun fr E => ?_
  refine sw (v := .bool _) E (rfl) fun fr E => ?_
  refine seq_nil' ?_
  refine cond_false E rfl (rfl) ?_
  refine wp_skip ?_
  refine then_normal ?_
  refine code_region ?_
  refine mv E fun fr E => ?_
  refine sw (v := .pointer (some ⟨_, 4, none⟩)) E (run_fieldAddr rfl rfl T.fld98_4) fun fr E => ?_
  refine sset (i := 1) (cs' := #[.int .i64 kd, .int .i64 (secE l), .int .i64 (secN l), .int .i64 at', c]) E M rfl rfl rfl rfl rfl (run_store1' (v := _) rfl rfl rfl T.size54 (M.row (i := 1) rfl) (rfl) (Reads.one (M.reads 0 rfl)) (rfl)) rfl fun fr w M E => ?_
  refine seq_nil' ?_
  refine code_region ?_
  refine sw (v := .agg #[_, _, _, _, _]) E (run_loadAll rfl rfl T.agg98 (M.row (i := 1) rfl) rfl) fun fr E => ?_
  refine sset (i := 4) (cs' := #[.int .i64 kd, .int .i64 (secE l), .int .i64 (secN l), .int .i64 at', c]) E M rfl rfl rfl rfl rfl (run_storeN' (vs := #[.int .i64 kd, .int .i64 (secE l), .int .i64 (secN l), .int .i64 at', c]) rfl rfl rfl T.size98 rfl (M.row (i := 4) rfl) rfl (by obtain ⟨b', c', e'⟩ := Reads.slice (M.reads 0 rfl); rw [e']; rfl) rfl) rfl fun fr w M E => ?_
  refine sw E (run_assignC rfl) fun fr E => ?_
  refine seq_nil' ?_
  refine wp_ret ?_
  refine retC2 E rfl rfl rfl T.agg98 (M.row (i := 4) rfl) (rfl) ?_
  exact ⟨c, rfl, Mem.fin (L := [.bytes 5 c q] ++ _) M (List.sublist_append_left _ _) trivial⟩
end Go.Proofs.Ytnebjbgcibjohaa.K
end
section
namespace Go.Proofs.Ytnebjbgcibjohaa.K
open Go.RowKit Go.Rill Go.Proofs
set_option linter.unusedVariables false
set_option linter.unusedSimpArgs false
/-- What a disk has. -/
structure AD where
  n : Nat
  last : List (List UInt8)
  cache : List (Int × List UInt8)
  armed : Bool
  left : Int
  off : Bool
  writes : Int
  reads : List Int
def AD.new (k : Nat) : AD := ⟨k, List.replicate k [], [], false, 0, false, 0, List.replicate k 0⟩
def aget (c : List (Int × List UInt8)) (k : Int) : Option (List UInt8) := (c.find? fun p => p.1 == k).map (·.2)
def aput (k : Int) (l : List UInt8) : List (Int × List UInt8) → List (Int × List UInt8)
  | [] => [(k, l)]
  | p :: r => if k = p.1 then (k, l) :: r else p :: aput k l r
/-- What is read of a sector. -/
def AD.read (A : AD) (j : Nat) : List UInt8 := match aget A.cache j with | some l => l | none => (A.last[j]?).getD []
def AD.bump (A : AD) (j : Nat) : AD := { A with reads := A.reads.modify j fun r => w64 (r + 1) }
def AD.there (A : AD) (i : Int) : Prop := 0 ≤ i ∧ i < (A.n : Int)
instance (A : AD) (i : Int) : Decidable (A.there i) := by unfold AD.there; infer_instance
def AD.write (A : AD) (i : Int) (l : List UInt8) : Int × AD :=
  if A.off = true then (12, A) else if ¬ A.there i then (7, A) else if 1024 < l.length then (3, A) else if A.armed = true ∧ A.left = 0 then (12, { A with off := true })
  else (0, { A with left := w64 (A.left - 1), cache := aput i l A.cache, writes := w64 (A.writes + 1) })
/-- What the cache's entries read as. -/
def CRel (ps : List (Value × List UInt8)) : List IE → List (Int × List UInt8) → Prop
  | [], [] => True
  | e :: r, p :: q => (e.key = p.1 ∧ (e.val, p.2) ∈ ps ∧ p.2.length ≤ 1024) ∧ CRel ps r q
  | _, _ => False
def LRel (ps : List (Value × List UInt8)) : List Value → List (List UInt8) → Prop
  | [], [] => True
  | v :: r, l :: q => ((v, l) ∈ ps ∧ l.length ≤ 1024) ∧ LRel ps r q
  | _, _ => False
structure Dsk.Abs (S : Dsk) (A : AD) : Prop where
  n : S.n = A.n
  max : A.n ≤ 4096
  len : A.last.length = A.n
  rlen : A.reads.length = A.n
  last : LRel S.ps S.lasts A.last
  cache : CRel S.ps S.cache A.cache
  keys : (A.cache.map (·.1)).Nodup ∧ ∀ p ∈ A.cache, A.there p.1
  born : (S.cache.map (·.born)).Nodup ∧ ∀ e ∈ S.cache, e.born < S.clock
  armed : S.armed = A.armed
  left : S.left = A.left
  off : S.off = A.off
  writes : S.writes = A.writes
  reads : S.reads = A.reads
structure DV where
  gd : Nat
  gm : Nat
  lv : Value
  rv : Value
  S : Dsk
abbrev dk (D : DV) : List Ent := dsk D.gd D.gm D.lv D.rv D.S
abbrev dkE (D : DV) : Ent := Ent.all (dk D)
def DV.is (D : DV) (g : Nat) (A : AD) : Prop := D.gd = g ∧ D.S.Abs A
def DV.new (k : Nat) (q : Nat × Nat × Nat × Nat) : DV := ⟨q.1, q.2.1, .slice (some ⟨q.2.2.1, 0, none⟩) k k, .slice (some ⟨q.2.2.2, 0, none⟩) k k, ⟨k, List.replicate k (.slice none 0 0), [], 0, false, 0, false, 0, List.replicate k 0, [(.slice none 0 0, [])]⟩⟩
theorem lrel_new (ps : List (Value × List UInt8)) (h : (.slice none 0 0, []) ∈ ps) : ∀ k, LRel ps (List.replicate k (.slice none 0 0)) (List.replicate k [])
  | 0 => trivial
  | k + 1 => ⟨⟨h, by decide⟩, lrel_new ps h k⟩
theorem DV.new_is (k : Nat) (q : Nat × Nat × Nat × Nat) (h : k ≤ 4096) : (DV.new k q).is (DV.new k q).gd (AD.new k) :=
  ⟨rfl, ⟨rfl, h, List.length_replicate, List.length_replicate, lrel_new _ (List.mem_singleton.2 rfl) k, trivial, ⟨List.nodup_nil, fun p hp => nomatch hp⟩, ⟨List.nodup_nil, fun e he => nomatch he⟩, rfl, rfl, rfl, rfl, rfl⟩⟩
theorem lrel_mono {x : Value × List UInt8} {ps : List (Value × List UInt8)} : ∀ {vs : List Value} {ls : List (List UInt8)}, LRel ps vs ls → LRel (x :: ps) vs ls
  | [], [], _ => trivial
  | [], _ :: _, h => h.elim
  | _ :: _, [], h => h.elim
  | v :: vs, l :: ls, h => ⟨⟨List.mem_cons_of_mem _ h.1.1, h.1.2⟩, lrel_mono h.2⟩
theorem lrel_get {ps : List (Value × List UInt8)} : ∀ {vs : List Value} {ls : List (List UInt8)} {j : Nat} {v : Value}, LRel ps vs ls → vs[j]? = some v → ∃ l, ls[j]? = some l ∧ (v, l) ∈ ps ∧ l.length ≤ 1024
  | [], _, _, _, _, h => by simp at h
  | _ :: _, [], _, _, h, _ => h.elim
  | u :: vs, l :: ls, 0, v, h, hv => by
    simp only [List.getElem?_cons_zero, Option.some.injEq] at hv
    subst hv
    exact ⟨l, rfl, h.1.1, h.1.2⟩
  | u :: vs, l :: ls, j + 1, v, h, hv => by
    obtain ⟨m, h1, h2⟩ := lrel_get (j := j) h.2 (by simpa using hv)
    exact ⟨m, by simpa using h1, h2⟩
theorem lrel_len {ps : List (Value × List UInt8)} : ∀ {vs : List Value} {ls : List (List UInt8)}, LRel ps vs ls → vs.length = ls.length
  | [], [], _ => rfl
  | [], _ :: _, h => h.elim
  | _ :: _, [], h => h.elim
  | v :: vs, l :: ls, h => by simp [lrel_len h.2]
theorem crel_mono {x : Value × List UInt8} {ps : List (Value × List UInt8)} : ∀ {es : List IE} {c : List (Int × List UInt8)}, CRel ps es c → CRel (x :: ps) es c
  | [], [], _ => trivial
  | [], _ :: _, h => h.elim
  | _ :: _, [], h => h.elim
  | v :: vs, l :: ls, h => ⟨⟨h.1.1, List.mem_cons_of_mem _ h.1.2.1, h.1.2.2⟩, crel_mono h.2⟩
theorem iat_map (k : Int) : ∀ (es : List IE) (i : Nat), (iat k es i).map (·.2) = iget es k
  | [], i => rfl
  | e :: r, i => by
    unfold iget iat
    split
    · rfl
    · have h1 := iat_map k r (i + 1)
      have h2 := iat_map k r (0 + 1)
      rw [h1, h2]
theorem iget_cons (k : Int) (e : IE) (r : List IE) : iget (e :: r) k = if k = e.key then some e.val else iget r k := by
  rw [← iat_map k (e :: r) 0]
  unfold iat
  split
  · rfl
  · exact iat_map k r 1
theorem aget_cons (k : Int) (p : Int × List UInt8) (r : List (Int × List UInt8)) : aget (p :: r) k = if k = p.1 then some p.2 else aget r k := by
  unfold aget
  rw [List.find?_cons]
  by_cases h : k = p.1
  · rw [if_pos h]; simp [h]
  · rw [if_neg h]
    have : (p.1 == k) = false := by simpa using fun c => h c.symm
    rw [this]
theorem crel_some {ps : List (Value × List UInt8)} {k : Int} {v : Value} : ∀ {es : List IE} {c : List (Int × List UInt8)}, CRel ps es c → iget es k = some v → ∃ l, aget c k = some l ∧ (v, l) ∈ ps ∧ l.length ≤ 1024
  | [], _, _, h => by cases h
  | _ :: _, [], h, _ => h.elim
  | e :: r, p :: q, h, hv => by
    rw [iget_cons] at hv
    rw [aget_cons]
    split at hv
    · rename_i hk
      injection hv with hv
      subst hv
      rw [if_pos (hk.trans h.1.1)]
      exact ⟨_, rfl, h.1.2⟩
    · rename_i hk
      rw [if_neg (fun c => hk (c.trans h.1.1.symm))]
      exact crel_some h.2 hv
theorem crel_none {ps : List (Value × List UInt8)} {k : Int} : ∀ {es : List IE} {c : List (Int × List UInt8)}, CRel ps es c → iget es k = none → aget c k = none
  | [], [], _, _ => rfl
  | [], _ :: _, h, _ => h.elim
  | _ :: _, [], h, _ => h.elim
  | e :: r, p :: q, h, hv => by
    rw [iget_cons] at hv
    rw [aget_cons]
    split at hv
    · cases hv
    · rename_i hk
      rw [if_neg (fun c => hk (c.trans h.1.1.symm))]
      exact crel_none h.2 hv
theorem Dsk.Abs.ok {S : Dsk} {A : AD} (h : S.Abs A) : S.Ok where
  len := by rw [lrel_len h.last, h.len, h.n]
  rlen := by rw [h.reads, h.rlen, h.n]
  max := by rw [h.n]; exact h.max
  lasts v hv := by
    obtain ⟨j, hj, rfl⟩ := List.getElem_of_mem hv
    obtain ⟨l, h1, h2, h3⟩ := lrel_get h.last (List.getElem?_eq_getElem hj)
    exact ⟨l, h2, h3⟩
  cache e he := by
    have := h.cache
    revert he this
    generalize S.cache = es
    generalize A.cache = c
    induction es generalizing c with
    | nil => intro he; cases he
    | cons a r ih =>
      intro he hc
      cases c with
      | nil => exact hc.elim
      | cons p q =>
        rcases List.mem_cons.1 he with rfl | he
        · exact ⟨p.2, hc.1.2⟩
        · exact ih q he hc.2
/-- The parts of a disk that is being made, each alone. -/
def NewD (B0 k : Nat) (w : World) (v : Value) : Prop := ∃ lv mv rv, v = .agg #[lv, mv, .bool false, .int .i64 0, .bool false, .int .i64 0, rv] ∧ NewS B0 54 k (.slice none 0 0) w lv ∧ NewM B0 w mv ∧ NewS B0 3 k (.int .i64 0) w rv
theorem NewD.ext {B0 k : Nat} {w w' : World} {v : Value} (h : NewD B0 k w v) (hx : Ext w w') : NewD B0 k w' v := by
  obtain ⟨lv, mv, rv, h0, h1, h2, h3⟩ := h
  exact ⟨lv, mv, rv, h0, h1.ext hx, h2.ext hx, h3.ext hx⟩
theorem newD_fs {ρ : Operand → Value} {o : Oper} {w : World} {k B0 : Nat} {X Y Z : Operand} {lv mv rv : Value} (h1 : NewS B0 54 k (.slice none 0 0) w lv) (h2 : NewM B0 w mv) (h3 : NewS B0 3 k (.int .i64 0) w rv) (ho : o.op = .build 78 #[(0, X), (1, Y), (6, Z)]) (hX : ρ X = lv) (hY : ρ Y = mv) (hZ : ρ Z = rv)
    (ht : tyStruct Try.prog 78 [1, 1, 1, 1, 1, 1, 1] [.slice none 0 0, .map none, .bool false, .int .i64 0, .bool false, .int .i64 0, .slice none 0 0] = true) (hz : zeroOf Try.prog 78 = some (.agg [.slice none 0 0, .map none, .bool false, .int .i64 0, .bool false, .int .i64 0, .slice none 0 0].toArray)) :
    ∃ v w', (execOp ρ o).run Try.prog w = .ok (.value v) w' ∧ Ext w w' ∧ NewD B0 k w' v := by
  obtain ⟨g1, rfl, a1, b1⟩ := h1
  obtain ⟨g2, rfl, a2, b2⟩ := h2
  obtain ⟨g3, rfl, a3, b3⟩ := h3
  have hr := run_buildQ (P := Try.prog) (ρ := ρ) (w := w) (ps := [(0, X), (1, Y), (6, Z)]) (qs := [(0, .slice (some ⟨g1, 0, none⟩) k k), (1, .map (some g2)), (6, .slice (some ⟨g3, 0, none⟩) k k)]) (us := #[.slice (some ⟨g1, 0, none⟩) k k, .map (some g2), .bool false, .int .i64 0, .bool false, .int .i64 0, .slice (some ⟨g3, 0, none⟩) k k]) ho (by simp [hX, hY, hZ]) ht hz rfl
  exact ⟨_, _, hr, Ext.refl _, _, _, _, rfl, ⟨g1, rfl, a1, b1⟩, ⟨g2, rfl, a2, b2⟩, ⟨g3, rfl, a3, b3⟩⟩
theorem newB_fs {ρ : Operand → Value} {o : Oper} {w : World} {k B0 : Nat} {X : Operand} {v : Value} (hk : 1 ≤ k) (hk2 : k ≤ 4096) (hB : B0 ≤ w.heap.size) (h : NewD B0 k w v) (ho : o.op = .box 78 X) (hX : ρ X = v) :
    ∃ u w', (execOp ρ o).run Try.prog w = .ok (.value u) w' ∧ Ext w w' ∧ ∃ q : Nat × Nat × Nat × Nat, u = .pointer (some ⟨q.1, 0, none⟩) ∧ Has w' (dk (DV.new k q)) ∧ (∀ g, feet (dk (DV.new k q)) g → feet [] g ∨ B0 ≤ g) ∧ True := by
  obtain ⟨lv, mv, rv, rfl, ⟨g1, rfl, a1, b1⟩, ⟨g2, rfl, a2, b2⟩, ⟨g3, rfl, a3, b3⟩⟩ := h
  have hr := run_boxN (P := Try.prog) (w := w) ho hX
  have lt : ∀ {g : Nat} {ob : Obj}, w.heap[g]? = some ob → g < w.heap.size := fun h => (Array.getElem?_eq_some_iff.1 h).1
  have hx := Ext.alloc w (.cells #[.slice (some ⟨g1, 0, none⟩) k k, .map (some g2), .bool false, .int .i64 0, .bool false, .int .i64 0, .slice (some ⟨g3, 0, none⟩) k k] 78)
  have l1 := lt a1; have l2 := lt a2; have l3 := lt a3
  have n12 : g1 ≠ g2 := fun e => by subst e; rw [a1] at a2; cases a2
  have n13 : g1 ≠ g3 := fun e => by subst e; rw [a1] at a3; simp at a3
  have n23 : g2 ≠ g3 := fun e => by subst e; rw [a2] at a3; cases a3
  have c1 := (hx.block g1 l1).trans a1; have c2 := (hx.block g2 l2).trans a2; have c3 := (hx.block g3 l3).trans a3
  have c0 := new_blk w (.cells #[.slice (some ⟨g1, 0, none⟩) k k, .map (some g2), .bool false, .int .i64 0, .bool false, .int .i64 0, .slice (some ⟨g3, 0, none⟩) k k] 78)
  have icr : ic (List.replicate k 0) = List.replicate k (.int .i64 0) := by simp [ic]
  have o1 := row_of (g := g1) (k := k) (c := k) (sz := 1) (e := 54) c1 (by simp) (Nat.le_refl _) (by simp only [maxLen]; omega)
  have o3 := row_of (g := g3) (k := k) (c := k) (sz := 1) (e := 3) c3 (by simp) (Nat.le_refl _) (by simp only [maxLen]; omega)
  have hf : ∀ e ∈ dk (DV.new k (w.heap.size, g2, g1, g3)), ∀ g ∈ e.foot, g = w.heap.size ∨ g = g1 ∨ g = g2 ∨ g = g3 := fun e he g hg => by
    simp only [dk, dsk, DV.new, List.mem_cons, List.not_mem_nil, or_false] at he
    rcases he with rfl | rfl | rfl | rfl | rfl <;> simp [Ent.blk, Ent.row, Ent.pool, Value.ownBlock] at hg <;> simp [hg]
  refine ⟨_, _, hr, hx, (w.heap.size, g2, g1, g3), rfl, ⟨fun e he => ?_, fun e he g hg => ?_, ?_⟩, fun g ⟨e, he, hg⟩ => .inr ?_, trivial⟩
  · simp only [dk, dsk, DV.new, List.mem_cons, List.not_mem_nil, or_false] at he
    rcases he with rfl | rfl | rfl | rfl | rfl
    · exact c0
    · have := o1
      simp only [Nat.mul_one] at this
      rw [List.take_of_length_le (by simp)] at this
      exact this
    · exact c2
    · have := o3
      simp only [Nat.mul_one] at this
      rw [List.take_of_length_le (by simp)] at this
      rw [← icr] at this
      exact this
    · intro q hq
      simp only [List.mem_singleton] at hq
      subst hq
      exact Bytes.nil _
  · have := hx.size
    rcases hf e he g hg with rfl | rfl | rfl | rfl
    · simp
    · omega
    · omega
    · omega
  · refine apart_nodup ?_
    show [w.heap.size, g1, g2, g3].Nodup
    simp only [List.nodup_cons, List.mem_cons, List.not_mem_nil, or_false, not_or, List.nodup_nil, and_true, not_false_eq_true]
    exact ⟨⟨by omega, by omega, by omega⟩, ⟨n12, n13⟩, n23⟩
  · rcases hf e he g hg with rfl | rfl | rfl | rfl
    · exact hB
    · exact b1
    · exact b2
    · exact b3
set_option maxRecDepth 100000 in
theorem dNew_ok {k : Nat} {w0 : World} (h : 1 ≤ k) (h2 : k ≤ 4096) : Does Try.prog 32 [.int .i64 (k : Int)] w0 [] (fun D : DV => .tuple #[.pointer (some ⟨D.gd, 0, none⟩), .int .i64 0]) (fun D => [dkE D]) (fun D => D.is D.gd (AD.new k)) := by
  refine enter (n := 17) Try.func32 rfl rfl rfl ?_
  intro fr E
  have M : Mem w0 (feet []) [] (fun _ => True) w0 := Mem.begin (Has.nil w0) (fun _ _ => trivial)
  refine code_region ?_
  refine sw E (run_assignC rfl) fun fr E => ?_
  refine sw E (run_assignC rfl) fun fr E => ?_
  refine seq_nil' ?_
  refine wp_seq ?_
  refine code_region ?_
  refine mv E fun fr E => ?_
  refine sw (v := .bool false) E (tst rfl (decide_eq_false (by omega))) fun fr E => ?_
  refine mv E fun fr E => ?_
  refine mv E fun fr E => ?_
  refine sw (v := .bool false) E (tst rfl (decide_eq_false (by omega))) fun fr E => ?_
  refine sw (v := .bool _) E (rfl) fun fr E => ?_
  refine seq_nil' ?_
  refine cond_false E rfl (rfl) ?_
  refine wp_skip ?_
  refine then_normal ?_
  let w : World := w0
  refine wp_seq (free_reg (B := T.tab32_3_b) (Vs := (.exact _ :: (.rel fun w' v => NewS w.heap.size 54 k (.slice none 0 0) w' v) :: (.rel fun w' v => NewM w.heap.size w' v) :: .exact _ :: (.rel fun w' v => NewS w.heap.size 3 k (.int .i64 0) w' v) :: (.rel fun w' v => NewD w.heap.size k w' v) :: CameI w.heap.size [] (fun q : Nat × Nat × Nat × Nat => .pointer (some ⟨q.1, 0, none⟩)) (fun q => dk (DV.new k q)) (fun _ => True) :: CameI w.heap.size ([]) (fun q : Nat × Nat × Nat × Nat => .pointer (some ⟨q.1, 0, none⟩)) (fun q => dk (DV.new k q)) (fun _ => True) :: .exact _ :: [])) T.tab32_3_i E T.mixed T.tab32_3 rfl (AllS.lasts ⟨trivial, (fun w w' v hx h => h.ext hx), (fun w w' v hx h => h.ext hx), trivial, (fun w w' v hx h => h.ext hx), (fun w w' v hx h => h.ext hx), LastsS.cameI, LastsS.cameI, trivial, trivial⟩) ⟨fv rfl rfl (fun x w hx hk => run_move rfl rfl),
      fs_rel rfl rfl (fun x w hx hk => ⟨rfl, rfl, rfl, made_new hx.size rfl rfl rfl rfl rfl T.slice52 T.zt54 T.zc54 T.by54 (by omega)⟩),
      fs_rel rfl rfl (fun x w hx hk => ⟨rfl, rfl, rfl, map_new hx.size rfl⟩),
      fv rfl rfl (fun x w hx hk => run_move rfl rfl),
      fs_rel rfl rfl (fun x w hx hk => ⟨rfl, rfl, rfl, made_new hx.size rfl rfl rfl rfl rfl T.slice51 T.zt3 T.zc3 T.by3 (by omega)⟩),
      fs_rel rfl rfl (fun x w hx hk => ⟨rfl, rfl, rfl, newD_fs (hk 1 rfl) (hk 2 rfl) (hk 4 rfl) rfl rfl rfl rfl T.ts78 T.zeroL78⟩),
      fs_rel rfl rfl (fun x w hx hk => ⟨rfl, rfl, rfl, newB_fs (by omega) (by omega) hx.size (hk 5 rfl) rfl rfl⟩),
      fs_on (j := 6) rfl rfl rfl rfl (fun x w y hy => ⟨rfl, rfl, rfl, run_assignV rfl hy⟩),
      fv rfl rfl (fun x w hx hk => run_assignC rfl), trivial⟩ ?_)
  intro x fr w hx hk E
  obtain ⟨q, hy, -, M⟩ := M.came (val := fun q : Nat × Nat × Nat × Nat => .pointer (some ⟨q.1, 0, none⟩)) (outs := fun q => dk (DV.new k q)) (p := fun _ => True) hx (hk 7 (by decide))
  have E := Env.say (t := 2) E rfl hy
  refine then_normal ?_
  refine wp_ret ?_
  refine ret2 E rfl rfl rfl ?_
  have M : Mem w0 (feet []) (dk (DV.new k q) ++ []) (fun _ => True) w := M
  exact ⟨DV.new k q, rfl, M.pack.fin (List.Sublist.refl _) (DV.new_is k q (by omega))⟩

theorem Read_a {D : DV} {g : Nat} {A : AD} {w0 : World} (H : Has w0 [dkE D]) (hD : D.is g A) {j : Nat} (hj : j < A.n) : Does Try.prog 12 [.pointer (some ⟨g, 0, none⟩), .int .i64 (j : Int)] w0 [dkE D] (fun x : Value × DV => .tuple #[x.1, .int .i64 0]) (fun x => [Ent.bytes 5 x.1 (A.read j)] ++ [dkE x.2]) (fun x => x.2.is g (A.bump j)) := by
  obtain ⟨gd, gm, lv, rv, S⟩ := D
  obtain ⟨hg, hA⟩ := hD
  have hg : gd = g := hg
  have hA : S.Abs A := hA
  subst hg
  have hj' : j < S.n := by rw [hA.n]; exact hj
  have hrl : j < S.reads.length := by rw [hA.reads, hA.rlen]; exact hj
  have hb : ({ S with reads := S.reads.set j (w64 (S.reads[j] + 1)) } : Dsk).Abs (A.bump j) := by
    refine ⟨hA.n, hA.max, hA.len, ?_, hA.last, hA.cache, hA.keys, hA.born, hA.armed, hA.left, hA.off, hA.writes, ?_⟩
    · show (A.reads.modify j _).length = _; simp [hA.rlen, AD.bump]
    · show S.reads.set j _ = A.reads.modify j _
      have e := hA.reads
      rw [← e]
      apply List.ext_getElem?
      intro m
      rw [List.getElem?_modify, List.getElem?_set]
      by_cases c : j = m
      · subst c; simp [hrl]
      · simp [c]
  cases hc : iget S.cache (j : Int) with
  | some v =>
    obtain ⟨l, h1, h2, h3⟩ := crel_some hA.cache hc
    have e : A.read j = l := by unfold AD.read; rw [h1]
    rw [e]
    exact Does.packed (B := fun x : Value × DV => [Ent.bytes 5 x.1 l]) (C := fun x => dk x.2) (fun H' => Read_cached H' hA.ok hj' h2 h3 hc) H fun c _ => ⟨(c, ⟨gd, gm, lv, rv, _⟩), rfl, rfl, rfl, hb⟩
  | none =>
    have h1 := crel_none hA.cache hc
    obtain ⟨v, hv⟩ : ∃ v, S.lasts[j]? = some v := ⟨_, List.getElem?_eq_getElem (by rw [hA.ok.len]; exact hj')⟩
    obtain ⟨l, h2, h3, h4⟩ := lrel_get hA.last hv
    have e : A.read j = l := by unfold AD.read; rw [h1, h2]; rfl
    rw [e]
    exact Does.packed (B := fun x : Value × DV => [Ent.bytes 5 x.1 l]) (C := fun x => dk x.2) (fun H' => Read_lasts H' hA.ok hj' h3 h4 hc hv) H fun c _ => ⟨(c, ⟨gd, gm, lv, rv, _⟩), rfl, rfl, rfl, hb⟩
end Go.Proofs.Ytnebjbgcibjohaa.K
end
section
namespace Go.Rill.T
open Go.Proofs
end Go.Rill.T
end
section
namespace Go.Proofs.Ytnebjbgcibjohaa.K
open Go.RowKit Go.Rill Go.Proofs
set_option linter.unusedVariables false
set_option linter.unusedSimpArgs false
theorem row_of {P : Program} {f : FuncId} {args : List Value} {w : World} {v : Value} (h : Gives P f args w v) : Calls P f args.toArray w fun e w' => e = .returned v ∧ Below w.heap.size w w' :=
  h.mono fun e w' ⟨_, he, hc, _⟩ => ⟨he, ⟨hc.os, hc.tape, hc.output, hc.held.size, fun k hk => hc.held.block k hk feet_nil⟩⟩
theorem Bytes.as {w : World} {v : Value} {l k : List UInt8} (h : Bytes w v l) (e : l = k) : Bytes w v k := e ▸ h
end Go.Proofs.Ytnebjbgcibjohaa.K
end
section
namespace Go.Proofs.Ytnebjbgcibjohaa.K
open Go.RowKit Go.Rill Go.Proofs
set_option linter.unusedVariables false
set_option linter.unusedSimpArgs false
def Rec.lent : Rec := { Rec.zero with gen := -77 }
end Go.Proofs.Ytnebjbgcibjohaa.K
end
section
namespace Go.Proofs.Ytnebjbgcibjohaa.K
open Go.RowKit Go.Rill Go.Proofs
set_option linter.unusedVariables false
set_option linter.unusedSimpArgs false
/-- A sector out of bytes: its epoch, its number, its plain text. -/
def sgetX (ks : List NKey) (kd at' : Int) (l : List UInt8) : Option (Int × Int × List UInt8) :=
  if ¬ l.length < 17 ∧ ¬ 1024 < l.length ∧ ¬ kd = 0 ∧ kindOf l = kd ∧ SRight (secE l) (secN l) at' then (openN ks (secE l) (secN l) (hdB kd at') (l.drop 17)).map fun q => (secE l, secN l, q) else none
theorem Dsk.Abs.read_len {S : Dsk} {A : AD} (h : S.Abs A) (j : Nat) : (A.read j).length ≤ 1024 := by
  unfold AD.read
  split
  · rename_i l hl
    have hc := h.cache
    revert hc hl
    generalize S.cache = es
    generalize A.cache = c
    intro hl hc
    induction c generalizing es with
    | nil => cases hl
    | cons p q ih =>
      cases es with
      | nil => exact hc.elim
      | cons e r =>
        rw [aget_cons] at hl
        split at hl
        · injection hl with hl; subst hl; exact hc.1.2.2
        · exact ih r hl hc.2
  · cases hl : A.last[j]? with
    | none => simp
    | some l =>
      have := h.last
      have hv : ∃ v, S.lasts[j]? = some v := ⟨_, List.getElem?_eq_getElem (by rw [lrel_len this]; exact (List.getElem?_eq_some_iff.1 hl).1)⟩
      obtain ⟨v, hv⟩ := hv
      obtain ⟨m, h1, _, h3⟩ := lrel_get this hv
      rw [hl] at h1
      injection h1 with h1
      subst h1
      exact h3
theorem Mem.take {w0 w : World} {O : Nat → Prop} {L R : List Ent} {Φ : World → Prop} (M : Mem w0 O (L ++ R) Φ w) : Mem w0 O L Φ w := M.sub (List.sublist_append_left _ _)



theorem sGet_err {N : NV} {kd at' : Int} {l : List UInt8} (hkz : N.ks.length ≤ 1099511627776) (h : sgetX N.ks kd at' l = none) : ∃ err : Int, err ≠ 0 ∧ ∀ (w0 : World) (b : Value), Bytes w0 b l → Has w0 [nmE N] → Gives Try.prog 38 [.iface 30 (.pointer (some ⟨N.gn, 0, none⟩)), .int .i64 kd, .int .i64 at', b] w0 (.tuple #[.agg #[.int .i64 0, .int .i64 0, .int .i64 0, .int .i64 0, .slice none 0 0], .int .i64 err]) := by
  unfold sgetX at h
  by_cases h1 : l.length < 17
  · exact ⟨2, by decide, fun w0 b hb H => sGet_short hb h1⟩
  by_cases h2 : 1024 < l.length
  · exact ⟨3, by decide, fun w0 b hb H => sGet_long hb h1 h2⟩
  by_cases h3 : kd = 0
  · exact ⟨5, by decide, fun w0 b hb H => sGet_kind0 hb h1 h2 h3⟩
  by_cases h4 : kindOf l = kd
  · by_cases h5 : SRight (secE l) (secN l) at'
    · rw [if_pos ⟨h1, h2, h3, h4, h5⟩] at h
      have ho : openN N.ks (secE l) (secN l) (hdB kd at') (l.drop 17) = none := by simpa using h
      exact ⟨19, by decide, fun w0 b hb H => sGet_seal hb H hkz h1 h2 h3 h4 h5 ho⟩
    · exact ⟨7, by decide, fun w0 b hb H => sGet_range hb h1 h2 h3 h4 h5⟩
  · exact ⟨5, by decide, fun w0 b hb H => sGet_kind hb h1 h2 h3 h4⟩
theorem sGet_yes {N : NV} {kd at' e n : Int} {b : Value} {l q : List UInt8} {w0 : World} (hb : Bytes w0 b l) (H : Has w0 [nmE N]) (hkz : N.ks.length ≤ 1099511627776) (h : sgetX N.ks kd at' l = some (e, n, q)) : Does Try.prog 38 [.iface 30 (.pointer (some ⟨N.gn, 0, none⟩)), .int .i64 kd, .int .i64 at', b] w0 [] (fun c : Value => .tuple #[.agg #[.int .i64 kd, .int .i64 e, .int .i64 n, .int .i64 at', c], .int .i64 0]) (fun c => [.bytes 5 c q]) (fun _ => True) := by
  unfold sgetX at h
  split at h
  · rename_i hc
    rw [Option.map_eq_some_iff] at h
    obtain ⟨q', h1, h2⟩ := h
    simp only [Prod.mk.injEq] at h2
    obtain ⟨rfl, rfl, rfl⟩ := h2
    exact sGet_ok hb H hkz hc.1 hc.2.1 hc.2.2.1 hc.2.2.2.1 hc.2.2.2.2 h1
  · cases h
end Go.Proofs.Ytnebjbgcibjohaa.K
end
section
namespace Go.Proofs.Ytnebjbgcibjohaa.K
open Go.RowKit Go.Rill Go.Proofs
set_option linter.unusedVariables false
set_option linter.unusedSimpArgs false
theorem rNext_app {n : Nat} {a b : List UInt8} (h : a.length = n) : rNext n (a ++ b, false) = (b, false) := by
  subst h
  unfold rNext
  rw [if_neg (by simp)]
  simp
theorem rInt_app {v : Int} {b : List UInt8} (h0 : -9223372036854775808 ≤ v) (h1 : v ≤ 9223372036854775807) : rInt (be8 v ++ b, false) = v := by
  unfold rInt
  rw [if_neg (by simp [be8_len])]
  simp only
  rw [List.take_left' (be8_len v), num64_be8 v h0 h1]
theorem rSum_app {s b : List UInt8} (h : s.length = 32) : rSum (s ++ b, false) = s := by
  unfold rSum
  rw [if_neg (by simp [h])]
  exact List.take_left' h
theorem new_read (k j : Nat) : (AD.new k).read j = [] := by
  unfold AD.read AD.new aget
  simp only [List.find?_nil, Option.map_none]
  cases h : (List.replicate k ([] : List UInt8))[j]? with
  | none => rfl
  | some l =>
    have := List.mem_of_getElem? h
    rw [List.mem_replicate] at this
    rw [this.2]
    rfl
/-! ### What is sealed is opened -/
theorem kind_first {kd : Int} (h : 1 ≤ kd ∧ kd ≤ 5) : ((UInt8.ofInt kd).toNat : Int) = kd := by
  rw [ofInt_toNat]
  show kd % 256 = kd
  omega
theorem sectB_len (ks : List NKey) (kd e n at' : Int) (pl : List UInt8) : (sectB ks kd e n at' pl).length = 17 + (sealB ks e n (hdB kd at') pl).length := by
  simp [sectB, be8_len]
  omega
theorem sget_of {ks ks' : List NKey} {kd e n at' : Int} {pl : List UInt8} {m : Nat} (h1 : 1 ≤ kd ∧ kd ≤ 5) (h3 : SRight e n at') (h4 : pl.length ≤ 975) (hk : nat' (⟨e, n, hdB kd at', pl⟩ : NKey) ks' 0 = some m) (hm : sealNo ks ⟨e, n, hdB kd at', pl⟩ = m + 1) : sgetX ks' kd at' (sectB ks kd e n at' pl) = some (e, n, pl) := by
  have hin : inNum e ∧ inNum n := ⟨⟨h3.1.1, h3.2.1.1⟩, ⟨h3.1.2.1, h3.2.1.2⟩⟩
  have hs : sealB ks e n (hdB kd at') pl = pl ++ tagOf (m + 1) := by unfold sealB; rw [if_pos hin, hm]
  have ht : (tagOf (m + 1)).length = 32 := by simp [tagOf, be8_len]
  have hlen : (sectB ks kd e n at' pl).length = 17 + (pl.length + 32) := by rw [sectB_len, hs, List.length_append, ht]
  have hd17 : (sectB ks kd e n at' pl).drop 17 = pl ++ tagOf (m + 1) := by
    rw [← hs]
    unfold sectB
    exact List.drop_left' (by simp [be8_len])
  have h16 : ((sectB ks kd e n at' pl).drop 1).take 16 = be8 e ++ be8 n := by
    show ((be8 e ++ be8 n) ++ sealB ks e n (hdB kd at') pl).take 16 = be8 e ++ be8 n
    exact List.take_left' (by simp [be8_len])
  have hE : secE (sectB ks kd e n at' pl) = e := by
    unfold secE
    rw [h16]
    exact rInt_app (by have := h3.1.1; omega) (by have := h3.2.1.1; omega)
  have hN : secN (sectB ks kd e n at' pl) = n := by
    unfold secN
    rw [h16, rNext_app (be8_len _)]
    have := rInt_app (v := n) (b := []) (by have := h3.1.2.1; omega) (by have := h3.2.1.2; omega)
    rwa [List.append_nil] at this
  have h0 : ((sectB ks kd e n at' pl)[0]'(by omega)) = UInt8.ofInt kd := by simp [sectB]
  have hK : kindOf (sectB ks kd e n at' pl) = kd := by
    have := kind_first h1
    unfold kindOf
    rw [dif_pos (by omega)]
    simp only [h0]
    rw [if_neg (by omega), if_neg (by omega)]
    exact this
  unfold sgetX
  rw [if_pos ⟨by omega, by omega, by omega, hK, by rw [hE, hN]; exact h3⟩, hE, hN, hd17]
  unfold openN
  have e1 : (pl ++ tagOf (m + 1)).length - 32 = pl.length := by rw [List.length_append, ht]; omega
  rw [if_neg (by rw [List.length_append, ht]; omega), e1, List.take_left' rfl, hk]
  simp only
  rw [List.drop_left' rfl, if_pos rfl]
  rfl
theorem nat_app {K : Type} [DecidableEq K] {k : K} {r : List K} : ∀ {ks : List K} {i m : Nat}, nat' k ks i = some m → nat' k (ks ++ r) i = some m
  | [], _, _, h => by cases h
  | q :: ks, i, m, h => by
    unfold nat' at h
    rw [List.cons_append]
    unfold nat'
    split
    · rename_i e
      rwa [if_pos e] at h
    · rename_i e
      rw [if_neg e] at h
      exact nat_app h
theorem sealKs_len (ks : List NKey) (k : NKey) : (sealKs ks k).length ≤ ks.length + 1 := by
  unfold sealKs
  split <;> simp
/-- A sector is written. -/
def AD.put (A : AD) (i : Int) (l : List UInt8) : AD := { A with left := w64 (A.left - 1), cache := aput i l A.cache, writes := w64 (A.writes + 1) }
abbrev _root_.Go.Rill.Rec.at' (r : Rec) : Int := 1 + r.gen.tmod 2
abbrev _root_.Go.Rill.Rec.key (r : Rec) (num : Int) : NKey := ⟨r.epoch, num, hdB 2 r.at', r.bytes⟩
end Go.Proofs.Ytnebjbgcibjohaa.K
end
section
namespace Go.Rill.T
open Go.Proofs
end Go.Rill.T
end
section
namespace Go.Proofs.Ytnebjbgcibjohaa.K
open Go.RowKit Go.Rill Go.Proofs
set_option linter.unusedVariables false
set_option linter.unusedSimpArgs false
/-- A record that is too late for a level. -/
def late (lv : Int) (r : Rec) : Bool := decide (lv + 1 < r.stamp)
/-- The greatest stamp's, the first of these. -/
def pickR (b : Rec) (l : List Rec) : Rec := l.foldl (fun b r => if b.stamp < r.stamp then r else b) b
theorem pickR_snoc (b : Rec) (l : List Rec) (r : Rec) : pickR b (l ++ [r]) = if (pickR b l).stamp < r.stamp then r else pickR b l := by
  unfold pickR
  rw [List.foldl_append]
  rfl
def choice (lv : Int) (l : List Rec) : Option Rec := match l.filter fun r => !late lv r with | [] => none | r :: k => some (pickR r (r :: k))
theorem choice_snoc (lv : Int) (l : List Rec) (r : Rec) : choice lv (l ++ [r]) = if late lv r then choice lv l else match choice lv l with | none => some r | some b => if b.stamp < r.stamp then some r else some b := by
  unfold choice
  rw [List.filter_append]
  cases h : late lv r with
  | true => simp [h]
  | false =>
    cases hf : l.filter fun r => !late lv r with
    | nil => simp [h, pickR]
    | cons x k =>
      simp only [List.filter_cons, List.filter_nil, h, Bool.not_false, if_true, List.cons_append]
      rw [← List.cons_append, pickR_snoc]
      split <;> simp
/-- What the document knows behind so many records. -/
def BestAt (lv : Int) (l : List Rec) (i : Nat) (b : Int) : Prop := (b = -1 ∧ choice lv (l.take i) = none) ∨ ∃ k, ∃ hk : k < l.length, b = (k : Int) ∧ choice lv (l.take i) = some l[k]
theorem BestAt.late {lv : Int} {l : List Rec} {i : Nat} {b : Int} (h : BestAt lv l i b) (hi : i < l.length) (hq : K.late lv l[i] = true) : BestAt lv l (i + 1) b := by
  unfold BestAt
  rw [List.take_succ_eq_append_getElem hi, choice_snoc, hq]
  exact h
theorem BestAt.first {lv : Int} {l : List Rec} {i : Nat} (hi : i < l.length) (h : choice lv (l.take i) = none) (hq : K.late lv l[i] = false) : BestAt lv l (i + 1) (i : Int) := by
  refine .inr ⟨i, hi, rfl, ?_⟩
  rw [List.take_succ_eq_append_getElem hi, choice_snoc, hq, h]
  rfl
theorem BestAt.more {lv : Int} {l : List Rec} {i k : Nat} (hi : i < l.length) (hk : k < l.length) (h : choice lv (l.take i) = some l[k]) (hq : K.late lv l[i] = false) (h3 : (l[k]).stamp < (l[i]).stamp) : BestAt lv l (i + 1) (i : Int) := by
  refine .inr ⟨i, hi, rfl, ?_⟩
  rw [List.take_succ_eq_append_getElem hi, choice_snoc, hq, h]
  simp [h3]
end Go.Proofs.Ytnebjbgcibjohaa.K
end
section
namespace Go.Proofs.Ytnebjbgcibjohaa.K
open Go.RowKit Go.Rill Go.Proofs
set_option linter.unusedVariables false
set_option linter.unusedSimpArgs false
abbrev W1 : AD := (AD.new 4).put (Rec.mk3 1 2).at' (sectB [] 2 (Rec.mk3 1 2).epoch 1 (Rec.mk3 1 2).at' (Rec.mk3 1 2).bytes)
end Go.Proofs.Ytnebjbgcibjohaa.K
end
section
namespace Go.Proofs.Ytnebjbgcibjohaa.K
open Go.RowKit Go.Rill Go.Proofs
set_option linter.unusedVariables false
set_option linter.unusedSimpArgs false
def pickN (k : Int) (m : Nat) : Nat := (if k.tmod m < 0 then k.tmod m + m else k.tmod m).toNat
theorem pickN_eq {k : Int} {m : Nat} (hm : 0 < m) : ((pickN k m : Nat) : Int) = if k.tmod m < 0 then k.tmod m + m else k.tmod m := by
  unfold pickN
  have := tmod_bounds k (show (0 : Int) < m by omega)
  split <;> omega
theorem pickN_lt {k : Int} {m : Nat} (hm : 0 < m) : pickN k m < m := by
  have h1 := pickN_eq (k := k) hm
  have := tmod_bounds k (show (0 : Int) < m by omega)
  split at h1 <;> omega
theorem Pick_x {k : Int} {m : Nat} {w0 : World} (hm : 0 < m) (hz : m ≤ 4611686018427387904) : Gives Try.prog 13 [.int .i64 k, .int .i64 (m : Int)] w0 (.int .i64 ((pickN k m : Nat) : Int)) := by
  rw [pickN_eq hm]
  split
  · exact Pick_neg (by omega) (by omega) ‹_›
  · exact Pick_pos (by omega) (by omega) ‹_›
end Go.Proofs.Ytnebjbgcibjohaa.K
end
section
namespace Go.Proofs.Ytnebjbgcibjohaa.K
open Go.RowKit Go.Rill Go.Proofs
set_option linter.unusedVariables false
set_option linter.unusedSimpArgs false
def spc (l : List (Int × Int × Int)) : List Value := (l.map fun s => [.int .i64 s.1, .int .i64 s.2.1, .int .i64 s.2.2]).flatten
def SpanP (l : List (Int × Int × Int)) : Prop := ∀ s ∈ l, s.2.1 ≤ s.1 ∧ s.1 ≤ s.2.2
instance (l : List (Int × Int × Int)) : Decidable (SpanP l) := by unfold SpanP; infer_instance
theorem spc_get : ∀ {l : List (Int × Int × Int)} {i : Nat} (hi : i < l.length), ((spc l).drop (i * 3)).take 3 = [.int .i64 (l[i]).1, .int .i64 (l[i]).2.1, .int .i64 (l[i]).2.2]
  | s :: l, 0, _ => by simp [spc]
  | s :: l, i + 1, h => by
    have ih := spc_get (l := l) (i := i) (by simpa using h)
    have e : spc (s :: l) = [.int .i64 s.1, .int .i64 s.2.1, .int .i64 s.2.2] ++ spc l := rfl
    rw [e, show (i + 1) * 3 = 3 + i * 3 by omega, ← List.drop_drop]
    simpa using ih
theorem span3 {s l b : Int} (h : SpanP [(s, 16, 32), (l, 32, 64), (b, 1, 64)]) : (16 ≤ s ∧ s ≤ 32) ∧ (32 ≤ l ∧ l ≤ 64) ∧ (1 ≤ b ∧ b ≤ 64) :=
  ⟨h (s, 16, 32) (by simp), h (l, 32, 64) (by simp), h (b, 1, 64) (by simp)⟩
/-- Whether a geometry may be. -/
def GMay (s l b : Int) : Prop := SpanP [(s, 16, 32), (l, 32, 64), (b, 1, 64)] ∧ b + 9 < (s - ((b * 4 + l - 2) / (l - 1)) - 14) * ((l - 1) / 5 + 1)
instance (s l b : Int) : Decidable (GMay s l b) := by unfold GMay; infer_instance
theorem may_bnd {s l b : Int} (h : (16 ≤ s ∧ s ≤ 32) ∧ (32 ≤ l ∧ l ≤ 64) ∧ (1 ≤ b ∧ b ≤ 64)) : (0 ≤ ((b * 4 + l - 2) / (l - 1)) ∧ ((b * 4 + l - 2) / (l - 1)) ≤ 400) ∧ -10000 ≤ (s - ((b * 4 + l - 2) / (l - 1)) - 14) * ((l - 1) / 5 + 1) ∧ (s - ((b * 4 + l - 2) / (l - 1)) - 14) * ((l - 1) / 5 + 1) ≤ 10000 := by
  have h1 := Int.ediv_nonneg (a := b * 4 + l - 2) (b := l - 1) (by omega) (by omega)
  have h2 := Int.ediv_le_self (a := b * 4 + l - 2) (l - 1) (by omega)
  generalize (b * 4 + l - 2) / (l - 1) = q at *
  have h3 : 7 ≤ (l - 1) / 5 + 1 ∧ (l - 1) / 5 + 1 ≤ 13 := by omega
  generalize (l - 1) / 5 + 1 = y at *
  have h4 : y = 7 ∨ y = 8 ∨ y = 9 ∨ y = 10 ∨ y = 11 ∨ y = 12 ∨ y = 13 := by omega
  rcases h4 with rfl | rfl | rfl | rfl | rfl | rfl | rfl <;> omega
theorem run_quoK {P : Program} {ρ : Operand → Value} {o : Oper} {w : World} {t t' : TypeId} {X Y : Operand} {x y : Int} (ho : o.op = .binOp .quo t X Y t') (hX : ρ X = .int .i64 x) (hY : ρ Y = .int .i64 y) (h0 : y ≠ 0) : (execOp ρ o).run P w = .ok (.value (.int .i64 (IntKind.i64.wrap (x.tdiv y)))) w := by
  have hg : (eqGuard .quo t X Y (.int .i64 x) (.int .i64 y)).run P w = .ok () w := rfl
  have hb : (binOp .quo t (.int .i64 x) (.int .i64 y)).run P w = .ok (.int .i64 (IntKind.i64.wrap (x.tdiv y))) w := by
    simp [binOp, Op.intDiv, h0]
  simp only [execOp, ho, hX, hY, Sem.run_bind, hg, Result.andThen_ok, hb]
  rfl
set_option maxRecDepth 100000 in
theorem gwithin_x {a : Value} {l : List (Int × Int × Int)} {r : Bool} {w0 : World} (ha : Reads 3 w0 a l.length (spc l)) (hz : l.length ≤ 1000) (hr : decide (SpanP l) = r) : Gives Try.prog 37 [a] w0 (.bool r) := by
  refine enter (n := 24) Try.func37 rfl rfl rfl ?_
  intro fr E
  have M : Mem w0 (feet []) [] (fun w' => Reads 3 w' a l.length (spc l)) w0 := Mem.begin (Has.nil w0) (fun w' h => ha.held0 h)
  refine code_region ?_
  refine sw E (run_assignC rfl) fun fr E => ?_
  refine seq_nil' ?_
  refine wp_seq ?_
  refine code_region ?_
  refine mv E fun fr E => ?_
  refine sw (v := .int .i64 _) E (run_lenR rfl rfl rfl rfl T.slice119 M.fact) fun fr E => ?_
  refine sw E (run_moveC rfl) fun fr E => ?_
  refine seq_nil' ?_
  refine wp_block ?_
  refine loop_dec (fun d fr w => ∃ i : Nat, d = l.length - i ∧ i ≤ l.length ∧ (∀ j, j < i → ∀ hj : j < l.length, (l[j]).2.1 ≤ (l[j]).1 ∧ (l[j]).1 ≤ (l[j]).2.2) ∧ Env [(5, a), (6, .int .i64 l.length), (7, .int .i64 i)] 24 fr ∧ Mem w0 (feet []) [] (fun w' => Reads 3 w' a l.length (spc l)) w) (l.length) ?_ ?_
  · exact ⟨0, rfl, Nat.zero_le _, fun j hj => absurd hj (by omega), (((Env.nil E).add E (t := 7) rfl).add E (t := 6) rfl).add E (t := 5) rfl, M⟩
  · clear E M
    rintro d fr w ⟨i, rfl, hle, hall, E, M⟩
    by_cases hi : i < l.length
    · by_cases h1 : (l[i]'hi).1 < (l[i]'hi).2.1
      · refine code_region ?_
        refine sw (v := .bool true) E (tst rfl (decide_eq_true (by omega))) fun fr E => ?_
        refine seq_nil' ?_
        refine wp_seq ?_
        refine cond_true E rfl (rfl) ?_
        refine wp_skip ?_
        refine then_normal ?_
        refine wp_seq ?_
        refine wp_block ?_
        refine code_region ?_
        refine sw (v := cellAt a (i * 3)) E (run_indexR (i := i) rfl M.fact rfl rfl (rfl) (hi) T.slice119 T.size96) fun fr E => ?_
        refine sw (v := .agg #[.int .i64 (l[i]'hi).1, .int .i64 (l[i]'hi).2.1, .int .i64 (l[i]'hi).2.2]) E (run_loadRN (k := i * 3) rfl M.fact rfl T.agg96 (by omega) (by decide) (spc_get hi)) fun fr E => ?_
        refine snew (ob := .cells #[_, _, _] 96) (fun g => .pointer (some ⟨g, 0, none⟩)) E M rfl rfl rfl rfl rfl (run_allocN rfl T.zero96) fun g0 fr w M E => ?_
        refine sset (i := 0) (cs' := #[.int .i64 (l[i]'hi).1, .int .i64 (l[i]'hi).2.1, .int .i64 (l[i]'hi).2.2]) E M rfl rfl rfl rfl rfl (run_storeAll (vs := #[.int .i64 (l[i]'hi).1, .int .i64 (l[i]'hi).2.1, .int .i64 (l[i]'hi).2.2]) rfl rfl rfl T.size96 (rfl) (M.row (i := 0) rfl) rfl (by simp [Value.oneCell'])) rfl fun fr w M E => ?_
        refine seq_nil' ?_
        refine code_region ?_
        refine sw (v := .pointer (some ⟨_, 0, none⟩)) E (run_fieldAddr rfl rfl T.fld96_0) fun fr E => ?_
        refine sw (v := .int .i64 _) E (run_loadB rfl rfl T.one3 (M.row (i := 0) rfl) rfl) fun fr E => ?_
        refine sw (v := .pointer (some ⟨_, 1, none⟩)) E (run_fieldAddr rfl rfl T.fld96_1) fun fr E => ?_
        refine sw (v := .int .i64 _) E (run_loadB rfl rfl T.one3 (M.row (i := 0) rfl) rfl) fun fr E => ?_
        refine sw (v := .bool true) E (tst rfl (decide_eq_true h1)) fun fr E => ?_
        refine mv E fun fr E => ?_
        refine sno E rfl rfl rfl rfl fun fr E => ?_
        refine sno E rfl rfl rfl rfl fun fr E => ?_
        refine sno E rfl rfl rfl rfl fun fr E => ?_
        refine sno E rfl rfl rfl rfl fun fr E => ?_
        refine sno E rfl rfl rfl rfl fun fr E => ?_
        refine sw (v := .bool _) E (rfl) fun fr E => ?_
        refine seq_nil' ?_
        refine cond_true E rfl (rfl) ?_
        refine code_region ?_
        refine sw E (run_assignC rfl) fun fr E => ?_
        refine seq_nil' ?_
        refine wp_ret ?_
        refine block_ret ?_
        refine then_ret ?_
        refine then_ret ?_
        refine block_ret ?_
        refine then_ret ?_
        refine ret1 E rfl rfl ?_
        obtain rfl : r = false := by rw [← hr]; exact decide_eq_false (fun hc => by have := hc _ (List.getElem_mem hi); omega)
        exact given M
      · by_cases h2 : (l[i]'hi).2.2 < (l[i]'hi).1
        · refine code_region ?_
          refine sw (v := .bool true) E (tst rfl (decide_eq_true (by omega))) fun fr E => ?_
          refine seq_nil' ?_
          refine wp_seq ?_
          refine cond_true E rfl (rfl) ?_
          refine wp_skip ?_
          refine then_normal ?_
          refine wp_seq ?_
          refine wp_block ?_
          refine code_region ?_
          refine sw (v := cellAt a (i * 3)) E (run_indexR (i := i) rfl M.fact rfl rfl (rfl) (hi) T.slice119 T.size96) fun fr E => ?_
          refine sw (v := .agg #[.int .i64 (l[i]'hi).1, .int .i64 (l[i]'hi).2.1, .int .i64 (l[i]'hi).2.2]) E (run_loadRN (k := i * 3) rfl M.fact rfl T.agg96 (by omega) (by decide) (spc_get hi)) fun fr E => ?_
          refine snew (ob := .cells #[_, _, _] 96) (fun g => .pointer (some ⟨g, 0, none⟩)) E M rfl rfl rfl rfl rfl (run_allocN rfl T.zero96) fun g0 fr w M E => ?_
          refine sset (i := 0) (cs' := #[.int .i64 (l[i]'hi).1, .int .i64 (l[i]'hi).2.1, .int .i64 (l[i]'hi).2.2]) E M rfl rfl rfl rfl rfl (run_storeAll (vs := #[.int .i64 (l[i]'hi).1, .int .i64 (l[i]'hi).2.1, .int .i64 (l[i]'hi).2.2]) rfl rfl rfl T.size96 (rfl) (M.row (i := 0) rfl) rfl (by simp [Value.oneCell'])) rfl fun fr w M E => ?_
          refine seq_nil' ?_
          refine code_region ?_
          refine sw (v := .pointer (some ⟨_, 0, none⟩)) E (run_fieldAddr rfl rfl T.fld96_0) fun fr E => ?_
          refine sw (v := .int .i64 _) E (run_loadB rfl rfl T.one3 (M.row (i := 0) rfl) rfl) fun fr E => ?_
          refine sw (v := .pointer (some ⟨_, 1, none⟩)) E (run_fieldAddr rfl rfl T.fld96_1) fun fr E => ?_
          refine sw (v := .int .i64 _) E (run_loadB rfl rfl T.one3 (M.row (i := 0) rfl) rfl) fun fr E => ?_
          refine sw (v := .bool false) E (tst rfl (decide_eq_false h1)) fun fr E => ?_
          refine mv E fun fr E => ?_
          refine sw (v := .pointer (some ⟨_, 0, none⟩)) E (run_fieldAddr rfl rfl T.fld96_0) fun fr E => ?_
          refine sw (v := .int .i64 _) E (run_loadB rfl rfl T.one3 (M.row (i := 0) rfl) rfl) fun fr E => ?_
          refine sw (v := .pointer (some ⟨_, 2, none⟩)) E (run_fieldAddr rfl rfl T.fld96_2) fun fr E => ?_
          refine sw (v := .int .i64 _) E (run_loadB rfl rfl T.one3 (M.row (i := 0) rfl) rfl) fun fr E => ?_
          refine sw (v := .bool true) E (tst rfl (decide_eq_true h2)) fun fr E => ?_
          refine sw (v := .bool _) E (rfl) fun fr E => ?_
          refine seq_nil' ?_
          refine cond_true E rfl (rfl) ?_
          refine code_region ?_
          refine sw E (run_assignC rfl) fun fr E => ?_
          refine seq_nil' ?_
          refine wp_ret ?_
          refine block_ret ?_
          refine then_ret ?_
          refine then_ret ?_
          refine block_ret ?_
          refine then_ret ?_
          refine ret1 E rfl rfl ?_
          obtain rfl : r = false := by rw [← hr]; exact decide_eq_false (fun hc => by have := hc _ (List.getElem_mem hi); omega)
          exact given M
        · refine code_region ?_
          refine sw (v := .bool true) E (tst rfl (decide_eq_true (by omega))) fun fr E => ?_
          refine seq_nil' ?_
          refine wp_seq ?_
          refine cond_true E rfl (rfl) ?_
          refine wp_skip ?_
          refine then_normal ?_
          refine wp_seq ?_
          refine wp_block ?_
          refine code_region ?_
          refine sw (v := cellAt a (i * 3)) E (run_indexR (i := i) rfl M.fact rfl rfl (rfl) (hi) T.slice119 T.size96) fun fr E => ?_
          refine sw (v := .agg #[.int .i64 (l[i]'hi).1, .int .i64 (l[i]'hi).2.1, .int .i64 (l[i]'hi).2.2]) E (run_loadRN (k := i * 3) rfl M.fact rfl T.agg96 (by omega) (by decide) (spc_get hi)) fun fr E => ?_
          refine snew (ob := .cells #[_, _, _] 96) (fun g => .pointer (some ⟨g, 0, none⟩)) E M rfl rfl rfl rfl rfl (run_allocN rfl T.zero96) fun g0 fr w M E => ?_
          refine sset (i := 0) (cs' := #[.int .i64 (l[i]'hi).1, .int .i64 (l[i]'hi).2.1, .int .i64 (l[i]'hi).2.2]) E M rfl rfl rfl rfl rfl (run_storeAll (vs := #[.int .i64 (l[i]'hi).1, .int .i64 (l[i]'hi).2.1, .int .i64 (l[i]'hi).2.2]) rfl rfl rfl T.size96 (rfl) (M.row (i := 0) rfl) rfl (by simp [Value.oneCell'])) rfl fun fr w M E => ?_
          refine seq_nil' ?_
          refine code_region ?_
          refine sw (v := .pointer (some ⟨_, 0, none⟩)) E (run_fieldAddr rfl rfl T.fld96_0) fun fr E => ?_
          refine sw (v := .int .i64 _) E (run_loadB rfl rfl T.one3 (M.row (i := 0) rfl) rfl) fun fr E => ?_
          refine sw (v := .pointer (some ⟨_, 1, none⟩)) E (run_fieldAddr rfl rfl T.fld96_1) fun fr E => ?_
          refine sw (v := .int .i64 _) E (run_loadB rfl rfl T.one3 (M.row (i := 0) rfl) rfl) fun fr E => ?_
          refine sw (v := .bool false) E (tst rfl (decide_eq_false h1)) fun fr E => ?_
          refine mv E fun fr E => ?_
          refine sw (v := .pointer (some ⟨_, 0, none⟩)) E (run_fieldAddr rfl rfl T.fld96_0) fun fr E => ?_
          refine sw (v := .int .i64 _) E (run_loadB rfl rfl T.one3 (M.row (i := 0) rfl) rfl) fun fr E => ?_
          refine sw (v := .pointer (some ⟨_, 2, none⟩)) E (run_fieldAddr rfl rfl T.fld96_2) fun fr E => ?_
          refine sw (v := .int .i64 _) E (run_loadB rfl rfl T.one3 (M.row (i := 0) rfl) rfl) fun fr E => ?_
          refine sw (v := .bool false) E (tst rfl (decide_eq_false h2)) fun fr E => ?_
          refine sw (v := .bool _) E (rfl) fun fr E => ?_
          refine seq_nil' ?_
          refine cond_false E rfl (rfl) ?_
          refine wp_skip ?_
          refine block_normal ?_
          refine then_normal ?_
          refine code_last ?_
          refine sw (v := .int _ (((i + 1 : Nat) : Int))) E (num rfl ((i64_id (by omega) (by omega)).trans (by omega))) fun fr E => ?_
          refine mv E fun fr E => ?_
          refine seq_nil ?_
          refine then_any ?_
          exact ⟨l.length - (i + 1), by omega, i + 1, rfl, by omega, fun j hj hj2 => (by rcases Nat.lt_or_eq_of_le (Nat.le_of_lt_succ hj) with h | rfl; exact hall j h hj2; omega), (((Env.nil E).add E (t := 7) rfl).add E (t := 6) rfl).add E (t := 5) rfl, M.sub (List.nil_sublist _)⟩
    · obtain rfl : i = l.length := by omega
      refine code_region ?_
      refine sw (v := .bool false) E (tst rfl (decide_eq_false (by omega))) fun fr E => ?_
      refine seq_nil' ?_
      refine wp_seq ?_
      refine cond_false E rfl (rfl) ?_
      refine wp_exit ?_
      refine then_exit ?_
      refine then_exit ?_
      refine block_exit ?_
      refine then_normal ?_
      refine code_region ?_
      refine sw E (run_assignC rfl) fun fr E => ?_
      refine seq_nil' ?_
      refine wp_ret ?_
      refine ret1 E rfl rfl ?_
      obtain rfl : r = true := by rw [← hr]; exact decide_eq_true (fun s hs => by obtain ⟨j, hj, rfl⟩ := List.getElem_of_mem hs; exact hall j hj hj)
      exact given M

set_option maxRecDepth 100000 in
theorem gneed_x {s l b m : Int} {w0 : World} (hl : 32 ≤ l ∧ l ≤ 64) (hm : 1 ≤ m ∧ m ≤ 64) : Gives Try.prog 50 [.agg #[.int .i64 s, .int .i64 l, .int .i64 b], .int .i64 m] w0 (.int .i64 ((m * 4 + l - 2) / (l - 1))) := by
  refine enter (n := 15) Try.func50 rfl rfl rfl ?_
  intro fr E
  have M : Mem w0 (feet []) [] (fun _ => True) w0 := Mem.begin (Has.nil w0) (fun _ _ => trivial)
  refine code_region ?_
  refine snew (ob := .cells (#[.int .i64 s, .int .i64 l, .int .i64 b]) 46) (fun g => .pointer (some ⟨g, 0, none⟩)) E M rfl rfl rfl rfl rfl (run_boxN (cs := (#[.int .i64 s, .int .i64 l, .int .i64 b])) rfl rfl) fun g0 fr w M E => ?_
  refine sw E (run_assignC rfl) fun fr E => ?_
  refine seq_nil' ?_
  refine code_region ?_
  refine mv E fun fr E => ?_
  refine sw (v := .int _ (m * 4)) E (num rfl (i64_id (by omega) (by omega))) fun fr E => ?_
  refine sw (v := .pointer (some ⟨_, 1, none⟩)) E (run_fieldAddr rfl rfl T.fld46_1) fun fr E => ?_
  refine sw (v := .int .i64 _) E (run_loadB rfl rfl T.one3 (M.row (i := 0) rfl) rfl) fun fr E => ?_
  refine sw (v := .int _ (m * 4 + l)) E (num rfl (i64_id (by omega) (by omega))) fun fr E => ?_
  refine sw (v := .int _ (m * 4 + l - 2)) E (num rfl (i64_id (by omega) (by omega))) fun fr E => ?_
  refine sw (v := .pointer (some ⟨_, 1, none⟩)) E (run_fieldAddr rfl rfl T.fld46_1) fun fr E => ?_
  refine sw (v := .int .i64 _) E (run_loadB rfl rfl T.one3 (M.row (i := 0) rfl) rfl) fun fr E => ?_
  refine sw (v := .int _ (l - 1)) E (num rfl (i64_id (by omega) (by omega))) fun fr E => ?_
  refine sw (v := .int .i64 ((m * 4 + l - 2) / (l - 1))) E (num (run_quoK rfl rfl rfl (by omega)) (by rw [Int.tdiv_eq_ediv_of_nonneg (by omega)]; have h1 := Int.ediv_nonneg (a := m * 4 + l - 2) (b := l - 1) (by omega) (by omega); have h2 := Int.ediv_le_self (a := m * 4 + l - 2) (l - 1) (by omega); exact i64_id (by omega) (by omega))) fun fr E => ?_
  refine ma E fun fr E => ?_
  refine seq_nil' ?_
  refine wp_ret ?_
  refine ret1 E rfl rfl ?_
  exact given M

set_option maxRecDepth 100000 in
theorem glean_x {s l b : Int} {w0 : World} (hl : 32 ≤ l ∧ l ≤ 64) : Gives Try.prog 51 [.agg #[.int .i64 s, .int .i64 l, .int .i64 b]] w0 (.int .i64 ((l - 1) / 5)) := by
  refine enter (n := 7) Try.func51 rfl rfl rfl ?_
  intro fr E
  have M : Mem w0 (feet []) [] (fun _ => True) w0 := Mem.begin (Has.nil w0) (fun _ _ => trivial)
  refine code_region ?_
  refine snew (ob := .cells (#[.int .i64 s, .int .i64 l, .int .i64 b]) 46) (fun g => .pointer (some ⟨g, 0, none⟩)) E M rfl rfl rfl rfl rfl (run_boxN (cs := (#[.int .i64 s, .int .i64 l, .int .i64 b])) rfl rfl) fun g0 fr w M E => ?_
  refine sw E (run_assignC rfl) fun fr E => ?_
  refine seq_nil' ?_
  refine code_region ?_
  refine sw (v := .pointer (some ⟨_, 1, none⟩)) E (run_fieldAddr rfl rfl T.fld46_1) fun fr E => ?_
  refine sw (v := .int .i64 _) E (run_loadB rfl rfl T.one3 (M.row (i := 0) rfl) rfl) fun fr E => ?_
  refine sw (v := .int _ (l - 1)) E (num rfl (i64_id (by omega) (by omega))) fun fr E => ?_
  refine sw (v := .int .i64 ((l - 1) / 5)) E (num (run_quoK rfl rfl rfl (by decide)) (by rw [Int.tdiv_eq_ediv_of_nonneg (by omega)]; exact i64_id (by omega) (by omega))) fun fr E => ?_
  refine ma E fun fr E => ?_
  refine seq_nil' ?_
  refine wp_ret ?_
  refine ret1 E rfl rfl ?_
  exact given M

set_option maxRecDepth 100000 in
theorem may_no {s l b : Int} {w0 : World} (hs : ¬ SpanP [(s, 16, 32), (l, 32, 64), (b, 1, 64)]) : Gives Try.prog 36 [.agg #[.int .i64 s, .int .i64 l, .int .i64 b]] w0 (.bool false) := by
  refine enter (n := 32) Try.func36 rfl rfl rfl ?_
  intro fr E
  have M : Mem w0 (feet []) [] (fun _ => True) w0 := Mem.begin (Has.nil w0) (fun _ _ => trivial)
  refine code_region ?_
  refine snew (ob := .cells (#[.int .i64 s, .int .i64 l, .int .i64 b]) 46) (fun g => .pointer (some ⟨g, 0, none⟩)) E M rfl rfl rfl rfl rfl (run_boxN (cs := (#[.int .i64 s, .int .i64 l, .int .i64 b])) rfl rfl) fun g0 fr w M E => ?_
  refine sw E (run_assignC rfl) fun fr E => ?_
  refine seq_nil' ?_
  refine wp_seq (free_reg (B := T.tab36_1_b) (Vs := (.exact (.pointer (some ⟨_, 0, none⟩)) :: .exact (.int .i64 s) :: .exact (.agg ([.int .i64 s, .int .i64 16, .int .i64 32]).toArray) :: .exact (.pointer (some ⟨_, 1, none⟩)) :: .exact (.int .i64 l) :: .exact (.agg ([.int .i64 l, .int .i64 32, .int .i64 64]).toArray) :: .exact (.pointer (some ⟨_, 2, none⟩)) :: .exact (.int .i64 b) :: .exact (.agg ([.int .i64 b, .int .i64 1, .int .i64 64]).toArray) :: (.rel fun w v => Reads 3 w v 3 [.int .i64 s, .int .i64 16, .int .i64 32, .int .i64 l, .int .i64 32, .int .i64 64, .int .i64 b, .int .i64 1, .int .i64 64]) :: .exact (.bool false) :: .exact _ :: .exact undef :: .exact undef :: .exact undef :: .exact undef :: .exact undef :: .exact undef :: .exact undef :: .exact undef :: .exact undef :: .exact undef :: .exact undef :: .exact undef :: .exact undef :: .exact undef :: .exact undef :: .exact undef :: .exact (.bool _) :: .exact _ :: [])) T.tab36_1_i E T.mixed T.tab36_1 rfl (AllS.lasts ⟨trivial, trivial, trivial, trivial, trivial, trivial, trivial, trivial, trivial, (fun w w' v hx h => Reads.ext h hx), trivial, trivial, trivial, trivial, trivial, trivial, trivial, trivial, trivial, trivial, trivial, trivial, trivial, trivial, trivial, trivial, trivial, trivial, trivial, trivial, trivial⟩) ⟨fv rfl rfl (fun x w hx hk => run_fieldAddr rfl rfl T.fld46_0),
      fv rfl rfl (fun x w hx hk => run_loadB rfl rfl T.one3 ((M.ext ((Ext.drew _).trans hx)).row (i := 0) rfl) rfl),
      fv rfl rfl (fun x w hx hk => run_buildP (vs := [.int .i64 s, .int .i64 16, .int .i64 32]) (us := [.int .i64 s, .int .i64 16, .int .i64 32]) rfl rfl T.ts96 T.zeroL96 (rfl) rfl rfl (rfl)),
      fv rfl rfl (fun x w hx hk => run_fieldAddr rfl rfl T.fld46_1),
      fv rfl rfl (fun x w hx hk => run_loadB rfl rfl T.one3 ((M.ext ((Ext.drew _).trans hx)).row (i := 0) rfl) rfl),
      fv rfl rfl (fun x w hx hk => run_buildP (vs := [.int .i64 l, .int .i64 32, .int .i64 64]) (us := [.int .i64 l, .int .i64 32, .int .i64 64]) rfl rfl T.ts96 T.zeroL96 (rfl) rfl rfl (rfl)),
      fv rfl rfl (fun x w hx hk => run_fieldAddr rfl rfl T.fld46_2),
      fv rfl rfl (fun x w hx hk => run_loadB rfl rfl T.one3 ((M.ext ((Ext.drew _).trans hx)).row (i := 0) rfl) rfl),
      fv rfl rfl (fun x w hx hk => run_buildP (vs := [.int .i64 b, .int .i64 1, .int .i64 64]) (us := [.int .i64 b, .int .i64 1, .int .i64 64]) rfl rfl T.ts96 T.zeroL96 (rfl) rfl rfl (rfl)),
      fs_rel rfl rfl (fun x w hx hk => ⟨rfl, rfl, rfl, _, _, run_buildSliceA (us := [.int .i64 s, .int .i64 16, .int .i64 32, .int .i64 l, .int .i64 32, .int .i64 64, .int .i64 b, .int .i64 1, .int .i64 64]) (vs := [.agg #[.int .i64 s, .int .i64 16, .int .i64 32], .agg #[.int .i64 l, .int .i64 32, .int .i64 64], .agg #[.int .i64 b, .int .i64 1, .int .i64 64]]) rfl rfl rfl T.slice119 T.size96 T.zl96 rfl rfl rfl rfl rfl, Ext.alloc _ _, new_reads (n := 3) (sz := 3) rfl (by decide)⟩),
      fs_ext rfl rfl (fun x w hx hk => ⟨_, _, rfl, rfl, rfl, run_call rfl rfl T.fn37, (gwithin_x (l := [(s, 16, 32), (l, 32, 64), (b, 1, 64)]) (hk 9 rfl) (show 3 ≤ 1000 by decide) (decide_eq_false hs)).ext⟩),
      fv rfl rfl (fun x w hx hk => run_move rfl rfl),
      fs_no rfl rfl (fun x => ⟨rfl, rfl⟩),
      fs_no rfl rfl (fun x => ⟨rfl, rfl⟩),
      fs_no rfl rfl (fun x => ⟨rfl, rfl⟩),
      fs_no rfl rfl (fun x => ⟨rfl, rfl⟩),
      fs_no rfl rfl (fun x => ⟨rfl, rfl⟩),
      fs_no rfl rfl (fun x => ⟨rfl, rfl⟩),
      fs_no rfl rfl (fun x => ⟨rfl, rfl⟩),
      fs_no rfl rfl (fun x => ⟨rfl, rfl⟩),
      fs_no rfl rfl (fun x => ⟨rfl, rfl⟩),
      fs_no rfl rfl (fun x => ⟨rfl, rfl⟩),
      fs_no rfl rfl (fun x => ⟨rfl, rfl⟩),
      fs_no rfl rfl (fun x => ⟨rfl, rfl⟩),
      fs_no rfl rfl (fun x => ⟨rfl, rfl⟩),
      fs_no rfl rfl (fun x => ⟨rfl, rfl⟩),
      fs_no rfl rfl (fun x => ⟨rfl, rfl⟩),
      fs_no rfl rfl (fun x => ⟨rfl, rfl⟩),
      fv rfl rfl (fun x w hx hk => rfl),
      fv rfl rfl (fun x w hx hk => run_assign rfl rfl), trivial⟩ ?_)
  intro x fr w hx hk E
  have M := M.ext hx
  refine then_normal ?_
  refine wp_ret ?_
  refine ret1 E rfl rfl ?_
  exact given M

set_option maxRecDepth 100000 in
theorem may_lt {s l b : Int} {w0 : World} (hs : SpanP [(s, 16, 32), (l, 32, 64), (b, 1, 64)]) (hp : b + 9 < (s - ((b * 4 + l - 2) / (l - 1)) - 14) * ((l - 1) / 5 + 1)) : Gives Try.prog 36 [.agg #[.int .i64 s, .int .i64 l, .int .i64 b]] w0 (.bool true) := by
  refine enter (n := 32) Try.func36 rfl rfl rfl ?_
  intro fr E
  have M : Mem w0 (feet []) [] (fun _ => True) w0 := Mem.begin (Has.nil w0) (fun _ _ => trivial)
  refine code_region ?_
  refine snew (ob := .cells (#[.int .i64 s, .int .i64 l, .int .i64 b]) 46) (fun g => .pointer (some ⟨g, 0, none⟩)) E M rfl rfl rfl rfl rfl (run_boxN (cs := (#[.int .i64 s, .int .i64 l, .int .i64 b])) rfl rfl) fun g0 fr w M E => ?_
  refine sw E (run_assignC rfl) fun fr E => ?_
  refine seq_nil' ?_
  refine wp_seq (free_reg (B := T.tab36_1_b) (Vs := (.exact (.pointer (some ⟨_, 0, none⟩)) :: .exact (.int .i64 s) :: .exact (.agg ([.int .i64 s, .int .i64 16, .int .i64 32]).toArray) :: .exact (.pointer (some ⟨_, 1, none⟩)) :: .exact (.int .i64 l) :: .exact (.agg ([.int .i64 l, .int .i64 32, .int .i64 64]).toArray) :: .exact (.pointer (some ⟨_, 2, none⟩)) :: .exact (.int .i64 b) :: .exact (.agg ([.int .i64 b, .int .i64 1, .int .i64 64]).toArray) :: (.rel fun w v => Reads 3 w v 3 [.int .i64 s, .int .i64 16, .int .i64 32, .int .i64 l, .int .i64 32, .int .i64 64, .int .i64 b, .int .i64 1, .int .i64 64]) :: .exact (.bool true) :: .exact _ :: .exact (.pointer (some ⟨_, 2, none⟩)) :: .exact (.int .i64 b) :: .exact (.int _ (b + 9)) :: .exact (.pointer (some ⟨_, 0, none⟩)) :: .exact (.int .i64 s) :: .exact (.agg #[.int .i64 s, .int .i64 l, .int .i64 b]) :: .exact (.pointer (some ⟨_, 2, none⟩)) :: .exact (.int .i64 b) :: .exact (.int .i64 ((b * 4 + l - 2) / (l - 1))) :: .exact (.int _ (s - ((b * 4 + l - 2) / (l - 1)))) :: .exact (.int _ (s - ((b * 4 + l - 2) / (l - 1)) - 14)) :: .exact (.agg #[.int .i64 s, .int .i64 l, .int .i64 b]) :: .exact (.int .i64 ((l - 1) / 5)) :: .exact (.int _ ((l - 1) / 5 + 1)) :: .exact (.int _ ((s - ((b * 4 + l - 2) / (l - 1)) - 14) * ((l - 1) / 5 + 1))) :: .exact (.bool true) :: .exact (.bool _) :: .exact _ :: [])) T.tab36_1_i E T.mixed T.tab36_1 rfl (AllS.lasts ⟨trivial, trivial, trivial, trivial, trivial, trivial, trivial, trivial, trivial, (fun w w' v hx h => Reads.ext h hx), trivial, trivial, trivial, trivial, trivial, trivial, trivial, trivial, trivial, trivial, trivial, trivial, trivial, trivial, trivial, trivial, trivial, trivial, trivial, trivial, trivial⟩) ⟨fv rfl rfl (fun x w hx hk => run_fieldAddr rfl rfl T.fld46_0),
      fv rfl rfl (fun x w hx hk => run_loadB rfl rfl T.one3 ((M.ext ((Ext.drew _).trans hx)).row (i := 0) rfl) rfl),
      fv rfl rfl (fun x w hx hk => run_buildP (vs := [.int .i64 s, .int .i64 16, .int .i64 32]) (us := [.int .i64 s, .int .i64 16, .int .i64 32]) rfl rfl T.ts96 T.zeroL96 (rfl) rfl rfl (rfl)),
      fv rfl rfl (fun x w hx hk => run_fieldAddr rfl rfl T.fld46_1),
      fv rfl rfl (fun x w hx hk => run_loadB rfl rfl T.one3 ((M.ext ((Ext.drew _).trans hx)).row (i := 0) rfl) rfl),
      fv rfl rfl (fun x w hx hk => run_buildP (vs := [.int .i64 l, .int .i64 32, .int .i64 64]) (us := [.int .i64 l, .int .i64 32, .int .i64 64]) rfl rfl T.ts96 T.zeroL96 (rfl) rfl rfl (rfl)),
      fv rfl rfl (fun x w hx hk => run_fieldAddr rfl rfl T.fld46_2),
      fv rfl rfl (fun x w hx hk => run_loadB rfl rfl T.one3 ((M.ext ((Ext.drew _).trans hx)).row (i := 0) rfl) rfl),
      fv rfl rfl (fun x w hx hk => run_buildP (vs := [.int .i64 b, .int .i64 1, .int .i64 64]) (us := [.int .i64 b, .int .i64 1, .int .i64 64]) rfl rfl T.ts96 T.zeroL96 (rfl) rfl rfl (rfl)),
      fs_rel rfl rfl (fun x w hx hk => ⟨rfl, rfl, rfl, _, _, run_buildSliceA (us := [.int .i64 s, .int .i64 16, .int .i64 32, .int .i64 l, .int .i64 32, .int .i64 64, .int .i64 b, .int .i64 1, .int .i64 64]) (vs := [.agg #[.int .i64 s, .int .i64 16, .int .i64 32], .agg #[.int .i64 l, .int .i64 32, .int .i64 64], .agg #[.int .i64 b, .int .i64 1, .int .i64 64]]) rfl rfl rfl T.slice119 T.size96 T.zl96 rfl rfl rfl rfl rfl, Ext.alloc _ _, new_reads (n := 3) (sz := 3) rfl (by decide)⟩),
      fs_ext rfl rfl (fun x w hx hk => ⟨_, _, rfl, rfl, rfl, run_call rfl rfl T.fn37, (gwithin_x (l := [(s, 16, 32), (l, 32, 64), (b, 1, 64)]) (hk 9 rfl) (show 3 ≤ 1000 by decide) (decide_eq_true hs)).ext⟩),
      fv rfl rfl (fun x w hx hk => run_move rfl rfl),
      fv rfl rfl (fun x w hx hk => run_fieldAddr rfl rfl T.fld46_2),
      fv rfl rfl (fun x w hx hk => run_loadB rfl rfl T.one3 ((M.ext ((Ext.drew _).trans hx)).row (i := 0) rfl) rfl),
      fv rfl rfl (fun x w hx hk => num rfl (i64_id (by have := span3 hs; omega) (by have := span3 hs; omega))),
      fv rfl rfl (fun x w hx hk => run_fieldAddr rfl rfl T.fld46_0),
      fv rfl rfl (fun x w hx hk => run_loadB rfl rfl T.one3 ((M.ext ((Ext.drew _).trans hx)).row (i := 0) rfl) rfl),
      fv rfl rfl (fun x w hx hk => run_loadAll rfl rfl T.agg46 ((M.ext ((Ext.drew _).trans hx)).row (i := 0) rfl) rfl),
      fv rfl rfl (fun x w hx hk => run_fieldAddr rfl rfl T.fld46_2),
      fv rfl rfl (fun x w hx hk => run_loadB rfl rfl T.one3 ((M.ext ((Ext.drew _).trans hx)).row (i := 0) rfl) rfl),
      fs_ext rfl rfl (fun x w hx hk => ⟨_, _, rfl, rfl, rfl, run_call rfl rfl T.fn50, (gneed_x (span3 hs).2.1 (span3 hs).2.2).ext⟩),
      fv rfl rfl (fun x w hx hk => num rfl (i64_id (by have := span3 hs; have := (may_bnd (span3 hs)); omega) (by have := span3 hs; have := (may_bnd (span3 hs)); omega))),
      fv rfl rfl (fun x w hx hk => num rfl (i64_id (by have := span3 hs; have := (may_bnd (span3 hs)); omega) (by have := span3 hs; have := (may_bnd (span3 hs)); omega))),
      fv rfl rfl (fun x w hx hk => run_loadAll rfl rfl T.agg46 ((M.ext ((Ext.drew _).trans hx)).row (i := 0) rfl) rfl),
      fs_ext rfl rfl (fun x w hx hk => ⟨_, _, rfl, rfl, rfl, run_call rfl rfl T.fn51, (glean_x (span3 hs).2.1).ext⟩),
      fv rfl rfl (fun x w hx hk => num rfl (i64_id (by have := span3 hs; omega) (by have := span3 hs; omega))),
      fv rfl rfl (fun x w hx hk => num rfl (i64_id (by have := span3 hs; have := (may_bnd (span3 hs)); omega) (by have := span3 hs; have := (may_bnd (span3 hs)); omega))),
      fv rfl rfl (fun x w hx hk => tst rfl (decide_eq_true hp)),
      fv rfl rfl (fun x w hx hk => rfl),
      fv rfl rfl (fun x w hx hk => run_assign rfl rfl), trivial⟩ ?_)
  intro x fr w hx hk E
  have M := M.ext hx
  refine then_normal ?_
  refine wp_ret ?_
  refine ret1 E rfl rfl ?_
  exact given M

set_option maxRecDepth 100000 in
theorem may_ge {s l b : Int} {w0 : World} (hs : SpanP [(s, 16, 32), (l, 32, 64), (b, 1, 64)]) (hp : ¬ b + 9 < (s - ((b * 4 + l - 2) / (l - 1)) - 14) * ((l - 1) / 5 + 1)) : Gives Try.prog 36 [.agg #[.int .i64 s, .int .i64 l, .int .i64 b]] w0 (.bool false) := by
  refine enter (n := 32) Try.func36 rfl rfl rfl ?_
  intro fr E
  have M : Mem w0 (feet []) [] (fun _ => True) w0 := Mem.begin (Has.nil w0) (fun _ _ => trivial)
  refine code_region ?_
  refine snew (ob := .cells (#[.int .i64 s, .int .i64 l, .int .i64 b]) 46) (fun g => .pointer (some ⟨g, 0, none⟩)) E M rfl rfl rfl rfl rfl (run_boxN (cs := (#[.int .i64 s, .int .i64 l, .int .i64 b])) rfl rfl) fun g0 fr w M E => ?_
  refine sw E (run_assignC rfl) fun fr E => ?_
  refine seq_nil' ?_
  refine wp_seq (free_reg (B := T.tab36_1_b) (Vs := (.exact (.pointer (some ⟨_, 0, none⟩)) :: .exact (.int .i64 s) :: .exact (.agg ([.int .i64 s, .int .i64 16, .int .i64 32]).toArray) :: .exact (.pointer (some ⟨_, 1, none⟩)) :: .exact (.int .i64 l) :: .exact (.agg ([.int .i64 l, .int .i64 32, .int .i64 64]).toArray) :: .exact (.pointer (some ⟨_, 2, none⟩)) :: .exact (.int .i64 b) :: .exact (.agg ([.int .i64 b, .int .i64 1, .int .i64 64]).toArray) :: (.rel fun w v => Reads 3 w v 3 [.int .i64 s, .int .i64 16, .int .i64 32, .int .i64 l, .int .i64 32, .int .i64 64, .int .i64 b, .int .i64 1, .int .i64 64]) :: .exact (.bool true) :: .exact _ :: .exact (.pointer (some ⟨_, 2, none⟩)) :: .exact (.int .i64 b) :: .exact (.int _ (b + 9)) :: .exact (.pointer (some ⟨_, 0, none⟩)) :: .exact (.int .i64 s) :: .exact (.agg #[.int .i64 s, .int .i64 l, .int .i64 b]) :: .exact (.pointer (some ⟨_, 2, none⟩)) :: .exact (.int .i64 b) :: .exact (.int .i64 ((b * 4 + l - 2) / (l - 1))) :: .exact (.int _ (s - ((b * 4 + l - 2) / (l - 1)))) :: .exact (.int _ (s - ((b * 4 + l - 2) / (l - 1)) - 14)) :: .exact (.agg #[.int .i64 s, .int .i64 l, .int .i64 b]) :: .exact (.int .i64 ((l - 1) / 5)) :: .exact (.int _ ((l - 1) / 5 + 1)) :: .exact (.int _ ((s - ((b * 4 + l - 2) / (l - 1)) - 14) * ((l - 1) / 5 + 1))) :: .exact (.bool false) :: .exact (.bool _) :: .exact _ :: [])) T.tab36_1_i E T.mixed T.tab36_1 rfl (AllS.lasts ⟨trivial, trivial, trivial, trivial, trivial, trivial, trivial, trivial, trivial, (fun w w' v hx h => Reads.ext h hx), trivial, trivial, trivial, trivial, trivial, trivial, trivial, trivial, trivial, trivial, trivial, trivial, trivial, trivial, trivial, trivial, trivial, trivial, trivial, trivial, trivial⟩) ⟨fv rfl rfl (fun x w hx hk => run_fieldAddr rfl rfl T.fld46_0),
      fv rfl rfl (fun x w hx hk => run_loadB rfl rfl T.one3 ((M.ext ((Ext.drew _).trans hx)).row (i := 0) rfl) rfl),
      fv rfl rfl (fun x w hx hk => run_buildP (vs := [.int .i64 s, .int .i64 16, .int .i64 32]) (us := [.int .i64 s, .int .i64 16, .int .i64 32]) rfl rfl T.ts96 T.zeroL96 (rfl) rfl rfl (rfl)),
      fv rfl rfl (fun x w hx hk => run_fieldAddr rfl rfl T.fld46_1),
      fv rfl rfl (fun x w hx hk => run_loadB rfl rfl T.one3 ((M.ext ((Ext.drew _).trans hx)).row (i := 0) rfl) rfl),
      fv rfl rfl (fun x w hx hk => run_buildP (vs := [.int .i64 l, .int .i64 32, .int .i64 64]) (us := [.int .i64 l, .int .i64 32, .int .i64 64]) rfl rfl T.ts96 T.zeroL96 (rfl) rfl rfl (rfl)),
      fv rfl rfl (fun x w hx hk => run_fieldAddr rfl rfl T.fld46_2),
      fv rfl rfl (fun x w hx hk => run_loadB rfl rfl T.one3 ((M.ext ((Ext.drew _).trans hx)).row (i := 0) rfl) rfl),
      fv rfl rfl (fun x w hx hk => run_buildP (vs := [.int .i64 b, .int .i64 1, .int .i64 64]) (us := [.int .i64 b, .int .i64 1, .int .i64 64]) rfl rfl T.ts96 T.zeroL96 (rfl) rfl rfl (rfl)),
      fs_rel rfl rfl (fun x w hx hk => ⟨rfl, rfl, rfl, _, _, run_buildSliceA (us := [.int .i64 s, .int .i64 16, .int .i64 32, .int .i64 l, .int .i64 32, .int .i64 64, .int .i64 b, .int .i64 1, .int .i64 64]) (vs := [.agg #[.int .i64 s, .int .i64 16, .int .i64 32], .agg #[.int .i64 l, .int .i64 32, .int .i64 64], .agg #[.int .i64 b, .int .i64 1, .int .i64 64]]) rfl rfl rfl T.slice119 T.size96 T.zl96 rfl rfl rfl rfl rfl, Ext.alloc _ _, new_reads (n := 3) (sz := 3) rfl (by decide)⟩),
      fs_ext rfl rfl (fun x w hx hk => ⟨_, _, rfl, rfl, rfl, run_call rfl rfl T.fn37, (gwithin_x (l := [(s, 16, 32), (l, 32, 64), (b, 1, 64)]) (hk 9 rfl) (show 3 ≤ 1000 by decide) (decide_eq_true hs)).ext⟩),
      fv rfl rfl (fun x w hx hk => run_move rfl rfl),
      fv rfl rfl (fun x w hx hk => run_fieldAddr rfl rfl T.fld46_2),
      fv rfl rfl (fun x w hx hk => run_loadB rfl rfl T.one3 ((M.ext ((Ext.drew _).trans hx)).row (i := 0) rfl) rfl),
      fv rfl rfl (fun x w hx hk => num rfl (i64_id (by have := span3 hs; omega) (by have := span3 hs; omega))),
      fv rfl rfl (fun x w hx hk => run_fieldAddr rfl rfl T.fld46_0),
      fv rfl rfl (fun x w hx hk => run_loadB rfl rfl T.one3 ((M.ext ((Ext.drew _).trans hx)).row (i := 0) rfl) rfl),
      fv rfl rfl (fun x w hx hk => run_loadAll rfl rfl T.agg46 ((M.ext ((Ext.drew _).trans hx)).row (i := 0) rfl) rfl),
      fv rfl rfl (fun x w hx hk => run_fieldAddr rfl rfl T.fld46_2),
      fv rfl rfl (fun x w hx hk => run_loadB rfl rfl T.one3 ((M.ext ((Ext.drew _).trans hx)).row (i := 0) rfl) rfl),
      fs_ext rfl rfl (fun x w hx hk => ⟨_, _, rfl, rfl, rfl, run_call rfl rfl T.fn50, (gneed_x (span3 hs).2.1 (span3 hs).2.2).ext⟩),
      fv rfl rfl (fun x w hx hk => num rfl (i64_id (by have := span3 hs; have := (may_bnd (span3 hs)); omega) (by have := span3 hs; have := (may_bnd (span3 hs)); omega))),
      fv rfl rfl (fun x w hx hk => num rfl (i64_id (by have := span3 hs; have := (may_bnd (span3 hs)); omega) (by have := span3 hs; have := (may_bnd (span3 hs)); omega))),
      fv rfl rfl (fun x w hx hk => run_loadAll rfl rfl T.agg46 ((M.ext ((Ext.drew _).trans hx)).row (i := 0) rfl) rfl),
      fs_ext rfl rfl (fun x w hx hk => ⟨_, _, rfl, rfl, rfl, run_call rfl rfl T.fn51, (glean_x (span3 hs).2.1).ext⟩),
      fv rfl rfl (fun x w hx hk => num rfl (i64_id (by have := span3 hs; omega) (by have := span3 hs; omega))),
      fv rfl rfl (fun x w hx hk => num rfl (i64_id (by have := span3 hs; have := (may_bnd (span3 hs)); omega) (by have := span3 hs; have := (may_bnd (span3 hs)); omega))),
      fv rfl rfl (fun x w hx hk => tst rfl (decide_eq_false hp)),
      fv rfl rfl (fun x w hx hk => rfl),
      fv rfl rfl (fun x w hx hk => run_assign rfl rfl), trivial⟩ ?_)
  intro x fr w hx hk E
  have M := M.ext hx
  refine then_normal ?_
  refine wp_ret ?_
  refine ret1 E rfl rfl ?_
  exact given M

theorem gmay_x {s l b : Int} {r : Bool} {w0 : World} (hr : decide (GMay s l b) = r) : Gives Try.prog 36 [.agg #[.int .i64 s, .int .i64 l, .int .i64 b]] w0 (.bool r) := by
  subst hr
  by_cases hs : SpanP [(s, 16, 32), (l, 32, 64), (b, 1, 64)]
  · by_cases hp : b + 9 < (s - ((b * 4 + l - 2) / (l - 1)) - 14) * ((l - 1) / 5 + 1)
    · rw [decide_eq_true (show GMay s l b from ⟨hs, hp⟩)]; exact may_lt hs hp
    · rw [decide_eq_false (show ¬ GMay s l b from fun c => hp c.2)]; exact may_ge hs hp
  · rw [decide_eq_false (show ¬ GMay s l b from fun c => hs c.1)]; exact may_no hs





end Go.Proofs.Ytnebjbgcibjohaa.K
end
section
namespace Go.Rill.T
open Go.Proofs
theorem fn29 : goFn Try.prog 29 = true := by kernel_rfl
abbrev tab14_4_b : List Nat := [0, 1, 3, 7, 0, 0, 32, 127, 255]
theorem tab14_4 : tabOk (regOps Try.f14 4) tab14_4_b 28 = true := by kernel_rfl
abbrev tab14_4_j : List Nat := [0, 1, 2, 3, 4, 5, 6, 7]
end Go.Rill.T
end
section
namespace Go.Rill.T
open Go.Proofs
end Go.Rill.T
end
section
namespace Go.Rill.T
open Go.Proofs
end Go.Rill.T
end
section
namespace Go.Proofs.Ytnebjbgcibjohaa.K
open Go.RowKit Go.Rill Go.Proofs
set_option linter.unusedVariables false
set_option linter.unusedSimpArgs false
end Go.Proofs.Ytnebjbgcibjohaa.K
end
section
namespace Go.Proofs.Ytnebjbgcibjohaa.K
open Go.RowKit Go.Rill Go.Proofs
set_option linter.unusedVariables false
set_option linter.unusedSimpArgs false
end Go.Proofs.Ytnebjbgcibjohaa.K
end
section
namespace Go.Proofs.Ytnebjbgcibjohaa.K
open Go.RowKit Go.Rill Go.Proofs
set_option linter.unusedVariables false
set_option linter.unusedSimpArgs false
end Go.Proofs.Ytnebjbgcibjohaa.K
end
section
namespace Go.Proofs.Ytnebjbgcibjohaa.K
open Go.RowKit Go.Rill Go.Proofs Go.Shelf
set_option linter.unusedVariables false
set_option linter.unusedSimpArgs false
attribute [local go_sem] Oper.semAt_some
end Go.Proofs.Ytnebjbgcibjohaa.K
end
section
namespace Go.Proofs.Ytnebjbgcibjohaa.K
open Go.RowKit Go.Rill Go.Proofs
set_option linter.unusedVariables false
set_option linter.unusedSimpArgs false
end Go.Proofs.Ytnebjbgcibjohaa.K
end
section
namespace Go.Proofs.Ytnebjbgcibjohaa.K
open Go.RowKit Go.Rill Go.Proofs
set_option linter.unusedVariables false
set_option linter.unusedSimpArgs false
def Dsk.tampered (S : Dsk) (j : Nat) (v : Value) (l : List UInt8) : Dsk := { S with lasts := S.lasts.set j v, cache := idel (j : Int) S.cache, ps := (v, l) :: S.ps }
set_option maxRecDepth 100000 in
theorem Tamper_out {gd gm : Nat} {lv rv : Value} {S : Dsk} {w0 : World} (H : Has w0 (dsk gd gm lv rv S)) (hS : S.Ok) {i : Int} {b : Value} {l : List UInt8} (hb : Bytes w0 b l) (hap : ∀ g, b.ownBlock = some g → ¬ feet (dsk gd gm lv rv S) g) (h : ¬ (0 ≤ i ∧ i < (S.n : Int))) : Does Try.prog 14 [.pointer (some ⟨gd, 0, none⟩), .int .i64 i, b] w0 (dsk gd gm lv rv S) (fun _ : Unit => .int .i64 7) (fun _ => dsk gd gm lv rv S) (fun _ => True) := by
  refine enter (n := 28) Try.func14 rfl rfl rfl ?_
  intro fr E
  have M : Mem w0 (feet (dsk gd gm lv rv S)) (dsk gd gm lv rv S) (fun w' => Bytes w' b l) w0 := Mem.begin H (fun w' h => Reads.held hb h hap)
  refine code_region ?_
  refine sw E (run_assignC rfl) fun fr E => ?_
  refine seq_nil' ?_
  refine wp_seq ?_
  refine code_region ?_
  refine mv E fun fr E => ?_
  refine mv E fun fr E => ?_
  refine mv E fun fr E => ?_
  refine scallI (dsk gd gm lv rv S) E M rfl rfl rfl rfl rfl (run_call rfl rfl T.fn29) rfl (fun H => wrong_out H hS M.fact hap h) ?_
  rintro _ fr w - M E
  refine ma E fun fr E => ?_
  refine seq_nil' ?_
  refine code_region ?_
  refine mv E fun fr E => ?_
  refine sw (v := .bool _) E (rfl) fun fr E => ?_
  refine seq_nil' ?_
  refine cond_true E rfl (rfl) ?_
  refine code_region ?_
  refine mv E fun fr E => ?_
  refine ma E fun fr E => ?_
  refine seq_nil' ?_
  refine wp_ret ?_
  refine then_ret ?_
  refine ret1 E rfl rfl ?_
  exact ⟨(), rfl, M.fin (List.Sublist.refl _) trivial⟩

set_option maxRecDepth 100000 in
theorem Tamper_long {gd gm : Nat} {lv rv : Value} {S : Dsk} {w0 : World} (H : Has w0 (dsk gd gm lv rv S)) (hS : S.Ok) {i : Int} {b : Value} {l : List UInt8} (hb : Bytes w0 b l) (hap : ∀ g, b.ownBlock = some g → ¬ feet (dsk gd gm lv rv S) g) (h : 0 ≤ i ∧ i < (S.n : Int)) (hl : 1024 < l.length) : Does Try.prog 14 [.pointer (some ⟨gd, 0, none⟩), .int .i64 i, b] w0 (dsk gd gm lv rv S) (fun _ : Unit => .int .i64 3) (fun _ => dsk gd gm lv rv S) (fun _ => True) := by
  refine enter (n := 28) Try.func14 rfl rfl rfl ?_
  intro fr E
  have M : Mem w0 (feet (dsk gd gm lv rv S)) (dsk gd gm lv rv S) (fun w' => Bytes w' b l) w0 := Mem.begin H (fun w' h => Reads.held hb h hap)
  refine code_region ?_
  refine sw E (run_assignC rfl) fun fr E => ?_
  refine seq_nil' ?_
  refine wp_seq ?_
  refine code_region ?_
  refine mv E fun fr E => ?_
  refine mv E fun fr E => ?_
  refine mv E fun fr E => ?_
  refine scallI (dsk gd gm lv rv S) E M rfl rfl rfl rfl rfl (run_call rfl rfl T.fn29) rfl (fun H => wrong_long H hS M.fact hap h hl) ?_
  rintro _ fr w - M E
  refine ma E fun fr E => ?_
  refine seq_nil' ?_
  refine code_region ?_
  refine mv E fun fr E => ?_
  refine sw (v := .bool _) E (rfl) fun fr E => ?_
  refine seq_nil' ?_
  refine cond_true E rfl (rfl) ?_
  refine code_region ?_
  refine mv E fun fr E => ?_
  refine ma E fun fr E => ?_
  refine seq_nil' ?_
  refine wp_ret ?_
  refine then_ret ?_
  refine ret1 E rfl rfl ?_
  exact ⟨(), rfl, M.fin (List.Sublist.refl _) trivial⟩

set_option maxRecDepth 100000 in
theorem Tamper_ok {gd gm : Nat} {lv rv : Value} {S : Dsk} {w0 : World} (H : Has w0 (dsk gd gm lv rv S)) (hS : S.Ok) {j : Nat} {b : Value} {l : List UInt8} (hb : Bytes w0 b l) (hap : ∀ g, b.ownBlock = some g → ¬ feet (dsk gd gm lv rv S) g) (hj : j < S.n) (h : 0 ≤ (j : Int) ∧ (j : Int) < (S.n : Int)) (hl : ¬ 1024 < l.length) : Does Try.prog 14 [.pointer (some ⟨gd, 0, none⟩), .int .i64 (j : Int), b] w0 (dsk gd gm lv rv S) (fun _ : Value => .int .i64 0) (fun v => dsk gd gm lv rv (S.tampered j v l)) (fun _ => True) := by
  refine enter (n := 28) Try.func14 rfl rfl rfl ?_
  intro fr E
  have M : Mem w0 (feet (dsk gd gm lv rv S)) (dsk gd gm lv rv S) (fun w' => Bytes w' b l) w0 := Mem.begin H (fun w' h => Reads.held hb h hap)
  refine code_region ?_
  refine sw E (run_assignC rfl) fun fr E => ?_
  refine seq_nil' ?_
  refine wp_seq ?_
  refine code_region ?_
  refine mv E fun fr E => ?_
  refine mv E fun fr E => ?_
  refine mv E fun fr E => ?_
  refine scallI (dsk gd gm lv rv S) E M rfl rfl rfl rfl rfl (run_call rfl rfl T.fn29) rfl (fun H => wrong_ok H hS M.fact hap h hl) ?_
  rintro _ fr w - M E
  refine ma E fun fr E => ?_
  refine seq_nil' ?_
  refine code_region ?_
  refine mv E fun fr E => ?_
  refine sw (v := .bool _) E (rfl) fun fr E => ?_
  refine seq_nil' ?_
  refine cond_false E rfl (rfl) ?_
  refine wp_skip ?_
  refine then_normal ?_
  refine wp_seq (free_last (B := T.tab14_4_b) (Vs := (.exact _ :: .exact _ :: .exact (.pointer (some ⟨_, 0, none⟩)) :: .exact _ :: .exact _ :: .exact _ :: CameV w.heap.size (fun v => [.bytes 5 v l]) (fun _ => True) :: .exact _ :: [])) T.tab14_4_j 8 E T.mixed T.tab14_4 rfl rfl rfl (AllS.lasts ⟨trivial, trivial, trivial, trivial, trivial, trivial, LastsS.cameV, trivial, trivial⟩) ⟨fv rfl rfl (fun x w hx hk => run_move rfl rfl),
      fv rfl rfl (fun x w hx hk => run_nilCheck rfl rfl),
      fv rfl rfl (fun x w hx hk => run_fieldAddr rfl rfl T.fld78_0),
      fv rfl rfl (fun x w hx hk => run_loadB rfl rfl T.one52 ((M.ext ((Ext.drew _).trans hx)).row (i := 0) rfl) rfl),
      fv rfl rfl (fun x w hx hk => run_move rfl rfl),
      fv rfl rfl (fun x w hx hk => run_move rfl rfl),
      fs_ext rfl rfl (fun x w hx hk => ⟨_, _, rfl, rfl, rfl, run_call rfl rfl T.fn28, (Clone_x (M.ext ((Ext.drew _).trans hx)).fact (by omega)).extV hx.size⟩),
      fv rfl rfl (fun x w hx hk => run_indexR (i := j) rfl ((M.ext ((Ext.drew _).trans hx)).reads 1 rfl) rfl rfl (rfl) (hj) T.slice52 T.size54), trivial⟩ ?_)
  intro x fr w hx hk E
  have M := M.adopts hx (hk 6 (by decide)).1 (hk 6 (by decide)).2.1
  refine last_setR (i := 2) (k := j * 1) (u := x 6) (xs' := S.lasts.set j (x 6)) E M rfl rfl rfl rfl rfl rfl rfl rfl rfl T.size54 (by omega) (by obtain ⟨b', c', e'⟩ := Reads.slice (M.bytes 0 rfl); rw [e']; rfl) (by rw [Nat.mul_one]) fun fr w M E => ?_
  refine then_normal ?_
  refine code_region ?_
  refine mv E fun fr E => ?_
  refine sw E (run_nilCheck rfl rfl) fun fr E => ?_
  refine sw (v := .pointer (some ⟨_, 1, none⟩)) E (run_fieldAddr rfl rfl T.fld78_1) fun fr E => ?_
  refine sw (v := .map _) E (run_loadB rfl rfl T.one76 (M.row (i := 1) rfl) rfl) fun fr E => ?_
  refine mv E fun fr E => ?_
  refine smdel (i := 3) E M rfl rfl rfl rfl rfl rfl rfl rfl rfl rfl T.map76 fun fr w M E => ?_
  refine seq_nil' ?_
  refine code_region ?_
  refine sw E (run_assignC rfl) fun fr E => ?_
  refine seq_nil' ?_
  refine wp_ret ?_
  refine ret1 E rfl rfl ?_
  have M := (M.pull 5 rfl).pull 1 rfl
  have M := M.pour.perm (L' := dsk gd gm lv rv (S.tampered j _ l)) (perm5 _ _ _ _ _)
  exact ⟨_, rfl, M.fin (List.Sublist.refl _) trivial⟩

/-- A sector is written past the cache. -/
def AD.tamper (A : AD) (i : Int) (l : List UInt8) : Int × AD := if ¬ A.there i then (7, A) else if 1024 < l.length then (3, A) else (0, { A with last := A.last.set i.toNat l, cache := A.cache.filter fun p => !(p.1 == i) })
theorem lrel_set {ps : List (Value × List UInt8)} {u : Value} {k : List UInt8} (hu : (u, k) ∈ ps ∧ k.length ≤ 1024) : ∀ {vs : List Value} {ls : List (List UInt8)} {j : Nat}, LRel ps vs ls → LRel ps (vs.set j u) (ls.set j k)
  | [], [], _, _ => trivial
  | [], _ :: _, _, h => h.elim
  | _ :: _, [], _, h => h.elim
  | v :: vs, l :: ls, 0, h => ⟨hu, h.2⟩
  | v :: vs, l :: ls, j + 1, h => ⟨h.1, lrel_set hu h.2⟩
theorem crel_del {ps : List (Value × List UInt8)} {q : Int} : ∀ {es : List IE} {c : List (Int × List UInt8)}, (c.map (·.1)).Nodup → CRel ps es c → CRel ps (idel q es) (c.filter fun p => !(p.1 == q))
  | [], [], _, _ => trivial
  | [], _ :: _, _, h => h.elim
  | _ :: _, [], _, h => h.elim
  | e :: r, p :: s, hn, h => by
    rw [List.map_cons, List.nodup_cons] at hn
    rw [List.filter_cons]
    unfold idel
    by_cases hq : q = e.key
    · have hp : p.1 = q := by rw [hq]; exact h.1.1.symm
      rw [if_pos hq, if_neg (by simp [hp])]
      rw [List.filter_eq_self.2 fun x hx => by
        simp only [Bool.not_eq_true', beq_eq_false_iff_ne]
        exact fun c => hn.1 (List.mem_map.2 ⟨x, hx, c.trans hp.symm⟩)]
      exact h.2
    · have hp : ¬ p.1 = q := fun c => hq (c.symm.trans h.1.1.symm)
      rw [if_neg hq, if_pos (by simpa using hp)]
      exact ⟨h.1, crel_del hn.2 h.2⟩
theorem idel_sub (q : Int) : ∀ es : List IE, (idel q es).Sublist es
  | [] => .slnil
  | e :: r => by
    unfold idel
    split
    · exact List.sublist_cons_self _ _
    · exact (idel_sub q r).cons_cons _
theorem Tamper_a {D : DV} {g : Nat} {A : AD} {w0 : World} (H : Has w0 [dkE D]) (hD : D.is g A) {i : Int} {b : Value} {l : List UInt8} (hb : Bytes w0 b l) (hap : ∀ g, b.ownBlock = some g → g ∉ (dkE D).foot) : Does Try.prog 14 [.pointer (some ⟨g, 0, none⟩), .int .i64 i, b] w0 [dkE D] (fun _ : DV => .int .i64 (A.tamper i l).1) (fun x => [dkE x]) (fun x => x.is g (A.tamper i l).2) := by
  obtain ⟨gd, gm, lv, rv, S⟩ := D
  obtain ⟨hg, hA⟩ := hD
  have hg : gd = g := hg
  have hA : S.Abs A := hA
  subst hg
  have hap' : ∀ g, b.ownBlock = some g → ¬ feet (dsk gd gm lv rv S) g := fun g hg c => hap g hg (Ent.mem_all.2 c)
  have same : ∀ (r : Int), A.tamper i l = (r, A) → Does Try.prog 14 [.pointer (some ⟨gd, 0, none⟩), .int .i64 i, b] w0 (dsk gd gm lv rv S) (fun _ : Unit => .int .i64 r) (fun _ => dsk gd gm lv rv S) (fun _ => True) → Does Try.prog 14 [.pointer (some ⟨gd, 0, none⟩), .int .i64 i, b] w0 [dkE ⟨gd, gm, lv, rv, S⟩] (fun _ : DV => .int .i64 (A.tamper i l).1) (fun x => [dkE x]) (fun x => x.is gd (A.tamper i l).2) := fun r e h =>
    Does.packed (B := fun _ : DV => []) (C := fun x => dk x) (fun _ => h) H fun _ _ => ⟨⟨gd, gm, lv, rv, S⟩, by rw [e], rfl, rfl, by rw [e]; exact hA⟩
  by_cases h1 : A.there i
  · have h1' : 0 ≤ i ∧ i < (S.n : Int) := by rw [hA.n]; exact h1
    by_cases h2 : 1024 < l.length
    · exact same 3 (by unfold AD.tamper; rw [if_neg (by simpa using h1), if_pos h2]) (Tamper_long H.unpack1 hA.ok hb hap' h1' h2)
    · have e : A.tamper i l = (0, { A with last := A.last.set i.toNat l, cache := A.cache.filter fun p => !(p.1 == i) }) := by unfold AD.tamper; rw [if_neg (by simpa using h1), if_neg h2]
      obtain ⟨j, rfl⟩ : ∃ j : Nat, i = (j : Int) := ⟨i.toNat, by omega⟩
      have hj : j < S.n := by omega
      refine Does.packed (B := fun _ : DV => []) (C := fun x => dk x) (fun _ => Tamper_ok (j := j) H.unpack1 hA.ok hb hap' hj h1' h2) H fun v _ => ⟨⟨gd, gm, lv, rv, S.tampered j v l⟩, by rw [e], rfl, rfl, ?_⟩
      rw [e]
      refine ⟨hA.n, hA.max, by simp [hA.len], hA.rlen, lrel_set ⟨List.mem_cons_self .., by omega⟩ (lrel_mono hA.last), crel_del hA.keys.1 (crel_mono hA.cache), ⟨?_, fun p hp => hA.keys.2 p (List.mem_filter.1 hp).1⟩, ⟨((idel_sub _ _).map _).nodup hA.born.1, fun x hx => hA.born.2 x ((idel_sub _ _).mem hx)⟩, hA.armed, hA.left, hA.off, hA.writes, hA.reads⟩
      exact (List.filter_sublist.map _).nodup hA.keys.1
  · have h1' : ¬ (0 ≤ i ∧ i < (S.n : Int)) := by rw [hA.n]; exact h1
    exact same 7 (by unfold AD.tamper; rw [if_pos h1]) (Tamper_out H.unpack1 hA.ok hb hap' h1')
end Go.Proofs.Ytnebjbgcibjohaa.K
end
section
namespace Go.Proofs.Ytnebjbgcibjohaa.K
open Go.RowKit Go.Rill Go.Proofs Go.Maps Go.Sort Go.Shelf
set_option linter.unusedVariables false
set_option linter.unusedSimpArgs false
def R0 : Value → Option (DataW Unit × List MemPlace) := fun _ => some (.lit (.int .i64 0), [])
end Go.Proofs.Ytnebjbgcibjohaa.K
end
section
namespace Go.Proofs.Ytnebjbgcibjohaa.K
open Go.RowKit Go.Rill Go.Proofs
set_option linter.unusedVariables false
set_option linter.unusedSimpArgs false
end Go.Proofs.Ytnebjbgcibjohaa.K
end
section
namespace Go.Proofs.Ytnebjbgcibjohaa.K
open Go.RowKit Go.Rill Go.Proofs
set_option linter.unusedVariables false
set_option linter.unusedSimpArgs false
end Go.Proofs.Ytnebjbgcibjohaa.K
end
section
namespace Go.Proofs.Ytnebjbgcibjohaa.K
open Go.RowKit Go.Rill Go.Proofs
set_option linter.unusedVariables false
set_option linter.unusedSimpArgs false
theorem run_max2 {P : Program} {ρ : Operand → Value} {o : Oper} {w : World} {A B : Operand} {q : IntKind} {x y : Int} {args : List Operand} {ts : Array TypeId} (ho : o.op = .call { callee := .builtin .max, args := args.toArray, argTypes := ts }) (ha : args = [A, B]) (hA : ρ A = .int q x) (hB : ρ B = .int q y) :
    (execOp ρ o).run P w = .ok (.value (.int q (if y > x then y else x))) w := by
  subst ha
  have := run_max_int2 (P := P) (w := w) ts o.type q q x y
  simp [execOp, ho, resolve, invoke, builtin, hA, hB, this]
end Go.Proofs.Ytnebjbgcibjohaa.K
end
section
namespace Go.Proofs.Ytnebjbgcibjohaa.K
open Go.RowKit Go.Rill Go.Proofs
set_option linter.unusedVariables false
set_option linter.unusedSimpArgs false
/-- A text's own number; what is remembered then; its digest. -/
def textKs (ts : List (List UInt8)) (l : List UInt8) : List (List UInt8) := if l ∈ ts then ts else ts ++ [l]
def textNo (ts : List (List UInt8)) (l : List UInt8) : Nat := match nat' l ts 0 with | some m => m + 1 | none => ts.length + 1
def sumOf (j : Nat) : List UInt8 := List.replicate 24 1 ++ be8 (j : Int)
def ones (i : Nat) : List Value := List.replicate i (.int .u8 1) ++ List.replicate (32 - i) (.int .u8 0)
theorem ones_len {i : Nat} (h : i ≤ 32) : (ones i).length = 32 := by simp [ones]; omega
theorem ones_lt {i : Nat} (h : i < 32) : Nat.blt (0 + i * 1) (ones i).toArray.size = true := by
  have := ones_len (Nat.le_of_lt h)
  simp [this]
  omega
theorem ones_set {i : Nat} (h : i < 32) : ((ones i).toArray.toList.set (0 + i * 1) (.int .u8 1)).toArray = (ones (i + 1)).toArray := by
  have e : 32 - i = (32 - (i + 1)) + 1 := by omega
  congr 1
  show ((ones i).set (0 + i * 1) (.int .u8 1)) = ones (i + 1)
  unfold ones
  rw [show 0 + i * 1 = i by omega, List.set_append_right _ _ (by simp), e, List.replicate_succ, List.length_replicate, Nat.sub_self, List.set_cons_zero, List.replicate_succ']
  simp
theorem bc_one {l : List UInt8} (v : Value) (h : v ∈ bc l) : v.oneCell' = true := by
  obtain ⟨b, _, rfl⟩ := List.mem_map.1 h
  rfl
section
variable {P : Program} {ρ : Operand → Value} {o : Oper} {w : World} {t tx e T : TypeId} {X Y : Operand}
theorem run_sliceAL {L : Operand} {g n lo sz : Nat} {k : IntKind} {x : Int} (ho : o.op = .slice t X (some L) none none) (hX : ρ X = .pointer (some ⟨g, 0, none⟩)) (hL : ρ L = .int k x) (hx : x = lo) (hlo : lo < n) (ht : tyArr P t e n = true) (hs : tySize P e sz = true) : (execOp ρ o).run P w = .ok (.value (.slice (some ⟨g, lo * sz, none⟩) (n - lo) (n - lo))) w := by
  have hb := Go.Rill.run_sliceBound (P := P) (w := w) (k := k) (x := x) (i := lo) (y := n) (c := .sliceB) hx (Nat.le_of_lt hlo)
  unfold tyArr at ht
  cases hu : P.underlying t with
  | none => rw [hu] at ht; cases ht
  | some d =>
    rw [hu] at ht
    cases d with
    | array m' e' =>
      simp at ht
      obtain ⟨rfl, rfl⟩ := ht
      simp [execOp, ho, hX, hL, Instr.sliceAt, Instr.sureAddr, run_underlying hu, Instr.sliceBounds, run_size (w := w) hs, add_plain, hb]
      exact fun c => absurd c (by omega)
    | _ => cases ht
theorem run_copyA {g off n c : Nat} {cs cs' : Array Value} {v : Value} {l : List UInt8} {args : List Operand} {ts : List TypeId} (ho : o.op = .call { callee := .builtin .copy, args := args.toArray, argTypes := ts.toArray }) (ha : args = [X, Y]) (hts : ts = [t, tx]) (hX : ρ X = .slice (some ⟨g, off, none⟩) n c) (hY : ρ Y = v) (ht : tySlice P t e = true) (hs : tySize P e 1 = true) (hg : w.heap[g]? = some (.cells cs T (0, 0))) (hb : Bytes w v l) (hl : l.length = n) (hfit : off + n ≤ cs.size) (hcs : (cs.toList.take off ++ bc l ++ cs.toList.drop (off + n)).toArray = cs') :
    (execOp ρ o).run P w = .ok (.value (.int .i64 n)) (w.setRow g cs') := by
  subst ha hts hcs hl
  obtain ⟨i, hi, hsz⟩ := tySize_info hs
  have hlen : (bc l).length = l.length := by simp [bc]
  rcases hb.2 with ⟨rfl, h0⟩ | ⟨g2, off2, cap, rfl, h1, h2, h3, h4⟩
  · have h0' : l = [] := List.length_eq_zero_iff.1 h0
    subst h0'
    have h := run_copy_nil (P := P) w t tx o.type e ⟨g, off, none⟩ 0 c (slice_und ht) (by rw [hi]; rfl)
    have e1 : (cs.toList.take off ++ bc [] ++ cs.toList.drop (off + 0)).toArray = cs := by simp [bc]
    have hs0 := setRow_self w g cs T (0, 0) hg
    simp [execOp, ho, resolve, invoke, builtin, hX, hY, h, goInt, hs0, bc]
  · have h := run_copy_row (P := P) w t tx o.type e g off l.length c ⟨g2, off2, none⟩ l.length cap cs T (bc l) (slice_und ht) (by rw [hi]; simp [hsz]) hg (by rw [hlen]; simp) (fun j u hu => by rw [add_plain]; exact h4 j u hu) (by rw [hlen]; exact hfit) (fun u hu => bc_one u hu)
    rw [hlen] at h
    simp [execOp, ho, resolve, invoke, builtin, hX, hY, h, goInt]
end
section
variable {P : Program} {Q : Exit → Act → World → Prop} {l : List (Nat × Value)} {n : Nat} {w w0 : World} {ops : Array Oper} {B : List Nat} {Vs : List Go.Rill.Spec} {i : Nat}
/-- A block that changes, in a region of open order; what the operation hands on. -/
theorem fr_chg {g : Nat} {u : Value} {cs cs' : Array Value} {T : TypeId} {fr : Nat × Nat} {o : Oper} {O : Nat → Prop} {R0 : List Ent} {Φ : World → Prop} (ho : ops[i]? = some o) (hs : Vs[i]? = some (CameI w.heap.size [.blk g (.cells cs T fr)] (fun _ : Unit => u) (fun _ => [.blk g (.cells cs' T fr)]) (fun _ => True))) (M : Mem w0 O ([.blk g (.cells cs T fr)] ++ R0) Φ w)
    (h : ∀ (x : Nat → Value) (w' : World), Mem w0 O R0 Φ w' → Has w' [.blk g (.cells cs T fr)] → w.heap.size ≤ w'.heap.size → (∀ j, waits B i j = true → knows Vs x w' j) → covers (envOf ops B l Vs x i) o = true ∧ guardIn ops (envOf ops B l Vs x i) o = true ∧ wantedL ops (envOf ops B l Vs x i) o = true ∧
      (execOp (evL (envOf ops B l Vs x i)) o).run P w' = .ok (.value u) (w'.setRow g cs')) : FStepR P ops B l n Vs (ownRoad (oneFs i [.blk g (.cells cs T fr)]) w.drew) Q i := by
  intro x a w' hx hk E
  have H' : Has w' [.blk g (.cells cs T fr)] := M.front.midst hx fun j hj g hjg => absurd hjg.1 hj
  obtain ⟨h1, h2, h3, h4⟩ := h x w' (M.midst (fun i g h => h.2) hx) H' hx.held.size hk
  refine ⟨o, _, ho, hs, fun K hK => ?_⟩
  rw [E.wanted h2, if_pos h3]
  unfold Oper.wp
  rw [E.exec h1, h4, Oper.upon_value]
  have M2 := H'.mem.set (i := 0) (cs' := cs') rfl
  exact hK u _ (Ch.setRow ⟨rfl, feet_one.2 (List.mem_singleton.2 rfl)⟩) ⟨(), rfl, M2.has, fun q hq => .inl (feet_one.2 (by have := feet_one.1 hq; exact this)), trivial⟩
end
set_option maxRecDepth 100000 in
theorem Sum_old {N : NV} {b : Value} {bl : List UInt8} {w0 : World} (H : Has w0 (nms 112 175 N)) (hb : Bytes w0 b bl) (ab : ∀ g, b.ownBlock = some g → ¬ feet (nms 112 175 N) g) (htz : N.ts.length ≤ 1099511627776) {m : Nat} (hm : nat' bl N.ts 0 = some m) : Does Try.prog 46 [.pointer (some ⟨N.gn, 0, none⟩), b] w0 (nms 112 175 N) (fun _ : NV => .agg (bc (sumOf (m + 1))).toArray) (fun x => nms 112 175 x) (fun x => x.gn = N.gn ∧ x.ks = N.ks ∧ x.ts = N.ts) := by
  refine enter (n := 45) Try.func46 rfl rfl rfl ?_
  intro fr E
  have M : Mem w0 (feet (nms 112 175 N)) (nms 112 175 N) (fun w' => Bytes w' b bl) w0 := Mem.begin H (fun w' k => Reads.held hb k ab)
  refine code_region ?_
  refine snew (ob := .cells _ 28) (fun g => .pointer (some ⟨g, 0, none⟩)) E M rfl rfl rfl rfl rfl (run_allocN rfl T.zero28) fun g0 fr w M E => ?_
  refine seq_nil' ?_
  refine wp_seq (free_reg (B := T.tab46_1_b) (Vs := (.exact _ :: .exact _ :: .exact (.pointer (some ⟨_, 2, none⟩)) :: .exact (.map _) :: .exact _ :: .exact (strV bl) :: .exact (.tuple #[(.int .i64 (((m + 1) : Nat) : Int)), .bool true]) :: .exact _ :: .exact ((.int .i64 (((m + 1) : Nat) : Int))) :: .exact (.bool true) :: .exact ((.int .i64 (((m + 1) : Nat) : Int))) :: .exact (.bool true) :: [])) T.tab46_1_i E T.mixed T.tab46_1 rfl (AllS.lasts ⟨trivial, trivial, trivial, trivial, trivial, trivial, trivial, trivial, trivial, trivial, trivial, trivial, trivial⟩) ⟨fv rfl rfl (fun x w hx hk => run_move rfl rfl),
      fv rfl rfl (fun x w hx hk => run_nilCheck rfl rfl),
      fv rfl rfl (fun x w hx hk => run_fieldAddr rfl rfl T.fld112_2),
      fv rfl rfl (fun x w hx hk => run_loadB rfl rfl T.one109 ((M.ext ((Ext.drew _).trans hx)).row (i := 1) rfl) rfl),
      fv rfl rfl (fun x w hx hk => run_move rfl rfl),
      fv rfl rfl (fun x w hx hk => run_b2s rfl rfl (M.ext ((Ext.drew _).trans hx)).fact T.slice54 T.u8T T.strT),
      fv rfl rfl (fun x w hx hk => run_lookupN (V := textK) (ks := N.ts) (k := bl) (v := (.int .i64 (((m + 1) : Nat) : Int))) (b := true) rfl rfl rfl (texts_fits T.textsM) T.zero3 ((M.ext ((Ext.drew _).trans hx)).row (i := 4) rfl) (by rw [hm])),
      fv rfl rfl (fun x w hx hk => run_move rfl rfl),
      fv rfl rfl (fun x w hx hk => run_extract rfl rfl rfl),
      fv rfl rfl (fun x w hx hk => run_extract rfl rfl rfl),
      fv rfl rfl (fun x w hx hk => run_assign rfl rfl),
      fv rfl rfl (fun x w hx hk => run_assign rfl rfl), trivial⟩ ?_)
  intro x fr w hx hk E
  have M := M.ext hx
  refine then_normal ?_
  refine wp_seq ?_
  refine code_region ?_
  refine mv E fun fr E => ?_
  refine sw (v := .bool _) E (rfl) fun fr E => ?_
  refine seq_nil' ?_
  refine cond_false E rfl (rfl) ?_
  refine wp_skip ?_
  refine then_normal ?_
  refine code_region ?_
  refine snew (ob := .cells _ 28) (fun g => .pointer (some ⟨g, 0, none⟩)) E M rfl rfl rfl rfl rfl (run_allocN rfl T.zero28) fun g1 fr w M E => ?_
  refine seq_nil' ?_
  refine wp_seq ?_
  refine code_region ?_
  refine sw E (run_moveC rfl) fun fr E => ?_
  refine seq_nil' ?_
  refine wp_block ?_
  refine loop_dec (fun d fr w => ∃ i : Nat, d = 32 - i ∧ i ≤ 32 ∧ Env [(34, .int .i64 i), (7, .pointer (some ⟨g1, 0, none⟩)), (4, .pointer (some ⟨g0, 0, none⟩)), (5, .int .i64 (((m + 1) : Nat) : Int))] 45 fr ∧ Mem w0 (feet (nms 112 175 N)) (.blk g1 (.cells (ones i).toArray 28) :: .blk g0 (.cells #[.int .u8 0, .int .u8 0, .int .u8 0, .int .u8 0, .int .u8 0, .int .u8 0, .int .u8 0, .int .u8 0, .int .u8 0, .int .u8 0, .int .u8 0, .int .u8 0, .int .u8 0, .int .u8 0, .int .u8 0, .int .u8 0, .int .u8 0, .int .u8 0, .int .u8 0, .int .u8 0, .int .u8 0, .int .u8 0, .int .u8 0, .int .u8 0, .int .u8 0, .int .u8 0, .int .u8 0, .int .u8 0, .int .u8 0, .int .u8 0, .int .u8 0, .int .u8 0] 28) :: nms 112 175 N) (fun w' => Bytes w' b bl) w) (32) ?_ ?_
  · have M := M.pull 5 rfl
    have M := M.pull 5 rfl
    have M := M.pull 5 rfl
    have M := M.pull 5 rfl
    have M := M.pull 5 rfl
    have M := M.pull 5 rfl
    exact ⟨0, rfl, Nat.zero_le _, ((((Env.nil E).add E (t := 5) rfl).add E (t := 4) rfl).add E (t := 7) rfl).add E (t := 34) rfl, M⟩
  · clear E M
    rintro d fr w ⟨i, rfl, hle, E, M⟩
    by_cases hi : i < 32
    · refine code_region ?_
      refine sw (v := .bool true) E (tst rfl (decide_eq_true (by omega))) fun fr E => ?_
      refine seq_nil' ?_
      refine wp_seq ?_
      refine cond_true E rfl (rfl) ?_
      refine wp_skip ?_
      refine then_normal ?_
      refine wp_seq ?_
      refine wp_block ?_
      refine code_region ?_
      refine mv E fun fr E => ?_
      refine ma E fun fr E => ?_
      refine seq_nil' ?_
      refine code_last ?_
      refine mv E fun fr E => ?_
      refine sw (v := .pointer (some ⟨_, 0 + i * 1, none⟩)) E (run_indexA (i := i) rfl rfl rfl (rfl) (hi) T.arr28 T.size5) fun fr E => ?_
      refine sset (i := 0) (cs' := (ones (i + 1)).toArray) E M rfl rfl rfl rfl rfl (run_store1' (v := _) rfl rfl rfl T.size5 (M.row (i := 0) rfl) (ones_lt hi) (rfl) (ones_set hi)) rfl fun fr w M E => ?_
      refine seq_nil ?_
      refine block_normal ?_
      refine then_normal ?_
      refine code_last ?_
      refine sw (v := .int _ (((i + 1 : Nat) : Int))) E (num rfl ((i64_id (by omega) (by omega)).trans (by omega))) fun fr E => ?_
      refine mv E fun fr E => ?_
      refine seq_nil ?_
      refine then_any ?_
      have M := M.pull 5 rfl
      have M := M.pull 5 rfl
      have M := M.pull 5 rfl
      have M := M.pull 5 rfl
      have M := M.pull 5 rfl
      have M := M.pull 5 rfl
      exact ⟨32 - (i + 1), by omega, i + 1, rfl, by omega, ((((Env.nil E).add E (t := 5) rfl).add E (t := 4) rfl).add E (t := 7) rfl).add E (t := 34) rfl, M⟩
    · obtain rfl : i = 32 := by omega
      refine code_region ?_
      refine sw (v := .bool false) E (tst rfl (decide_eq_false (by omega))) fun fr E => ?_
      refine seq_nil' ?_
      refine wp_seq ?_
      refine cond_false E rfl (rfl) ?_
      refine wp_exit ?_
      refine then_exit ?_
      refine then_exit ?_
      refine block_exit ?_
      refine then_normal ?_
      have M : Mem _ _ ([.blk g1 (.cells (ones 32).toArray 28)] ++ _) _ _ := M
      refine wp_seq (free_regR (B := T.tab46_11_b) (Vs := (.exact (.slice (some ⟨g1, 24, none⟩) 8 8) :: .exact _ :: CameV w.heap.size (fun v => [.bytes 5 v (be8 (((m + 1) : Nat) : Int))]) (fun _ => True) :: CameI w.heap.size ([.blk g1 (.cells (ones 32).toArray 28)]) (fun _ : Unit => .int .i64 8) (fun _ => [.blk g1 (.cells (bc (sumOf (m + 1))).toArray 28)]) (fun _ => True) :: [])) (ownRoad (oneFs 3 ([.blk g1 (.cells (ones 32).toArray 28)])) w.drew) T.tab46_11_i E T.mixed T.tab46_11 rfl ?_ ⟨fr_val rfl rfl M (fun i g h => h.2) (fun x w' M' hB hk => ⟨_, _, rfl, rfl, rfl, run_sliceAL (lo := 24) (n := 32) (sz := 1) rfl rfl rfl rfl (by decide) T.arr28 T.size5, Ext.refl _, rfl⟩),
      fr_val rfl rfl M (fun i g h => h.2) (fun x w' M' hB hk => ⟨_, _, rfl, rfl, rfl, run_move rfl rfl, Ext.refl _, rfl⟩),
      fr_ext rfl rfl M (fun i g h => h.2) (fun x w' M' hB hk => ⟨_, _, rfl, rfl, rfl, run_call rfl rfl T.fn63, (nnumber_x (((m + 1) : Nat) : Int) _).extV hB⟩),
      fr_chg rfl rfl M (fun x w' M' H' hB hk => ⟨rfl, rfl, rfl, run_copyA (l := be8 (((m + 1) : Nat) : Int)) rfl rfl rfl rfl rfl T.slice54 T.size5 (H'.ent 0 rfl) ((hk 2 rfl).1.reads 0 rfl) rfl (by decide) rfl⟩), trivial⟩ ?_)
      · exact one_okW rfl ((allY_ex (allY_ex (allY_any (LastsR.cameV (fun g h => M.old g h)) (allY_in rfl LastsR.came1 allY_nil)))))
      intro x fr w ⟨b, hb, hI⟩ hk E
      obtain ⟨u, hy, -, M⟩ := M.behind (val := fun _ : Unit => .int .i64 8) (outs := fun _ => [.blk g1 (.cells (bc (sumOf (m + 1))).toArray 28)]) (p := fun _ => True) hI (hk 3 (by decide))
      refine then_normal ?_
      refine code_region ?_
      refine sw (v := .agg (bc (sumOf (m + 1))).toArray) E (run_loadAll rfl rfl T.agg28 (M.row (i := 0) rfl) rfl) fun fr E => ?_
      refine sset (i := 1) (cs' := (bc (sumOf (m + 1))).toArray) E M rfl rfl rfl rfl rfl (run_storeAll (vs := (bc (sumOf (m + 1))).toArray) rfl rfl rfl T.size28 (rfl) (M.row (i := 1) rfl) rfl (fun v hv => bc_one v hv)) rfl fun fr w M E => ?_
      refine seq_nil' ?_
      refine wp_ret ?_
      refine retC E rfl rfl T.agg28 (M.row (i := 1) rfl) (rfl) ?_
      have M := M.pull 5 rfl
      have M := M.pull 5 rfl
      have M := M.pull 5 rfl
      have M := M.pull 5 rfl
      exact ⟨N, rfl, Mem.fin (L := nms 112 175 N ++ _) M (List.sublist_append_left _ _) ⟨rfl, rfl, rfl⟩⟩

set_option maxRecDepth 100000 in
theorem Sum_new {N : NV} {b : Value} {bl : List UInt8} {w0 : World} (H : Has w0 (nms 112 175 N)) (hb : Bytes w0 b bl) (ab : ∀ g, b.ownBlock = some g → ¬ feet (nms 112 175 N) g) (htz : N.ts.length ≤ 1099511627776) (hn : bl ∉ N.ts) : Does Try.prog 46 [.pointer (some ⟨N.gn, 0, none⟩), b] w0 (nms 112 175 N) (fun _ : NV => .agg (bc (sumOf (N.ts.length + 1))).toArray) (fun x => nms 112 175 x) (fun x => x.gn = N.gn ∧ x.ks = N.ks ∧ x.ts = N.ts ++ [bl]) := by
  refine enter (n := 45) Try.func46 rfl rfl rfl ?_
  intro fr E
  have M : Mem w0 (feet (nms 112 175 N)) (nms 112 175 N) (fun w' => Bytes w' b bl) w0 := Mem.begin H (fun w' k => Reads.held hb k ab)
  refine code_region ?_
  refine snew (ob := .cells _ 28) (fun g => .pointer (some ⟨g, 0, none⟩)) E M rfl rfl rfl rfl rfl (run_allocN rfl T.zero28) fun g0 fr w M E => ?_
  refine seq_nil' ?_
  refine wp_seq (free_reg (B := T.tab46_1_b) (Vs := (.exact _ :: .exact _ :: .exact (.pointer (some ⟨_, 2, none⟩)) :: .exact (.map _) :: .exact _ :: .exact (strV bl) :: .exact (.tuple #[(.int .i64 0), .bool false]) :: .exact _ :: .exact ((.int .i64 0)) :: .exact (.bool false) :: .exact ((.int .i64 0)) :: .exact (.bool false) :: [])) T.tab46_1_i E T.mixed T.tab46_1 rfl (AllS.lasts ⟨trivial, trivial, trivial, trivial, trivial, trivial, trivial, trivial, trivial, trivial, trivial, trivial, trivial⟩) ⟨fv rfl rfl (fun x w hx hk => run_move rfl rfl),
      fv rfl rfl (fun x w hx hk => run_nilCheck rfl rfl),
      fv rfl rfl (fun x w hx hk => run_fieldAddr rfl rfl T.fld112_2),
      fv rfl rfl (fun x w hx hk => run_loadB rfl rfl T.one109 ((M.ext ((Ext.drew _).trans hx)).row (i := 1) rfl) rfl),
      fv rfl rfl (fun x w hx hk => run_move rfl rfl),
      fv rfl rfl (fun x w hx hk => run_b2s rfl rfl (M.ext ((Ext.drew _).trans hx)).fact T.slice54 T.u8T T.strT),
      fv rfl rfl (fun x w hx hk => run_lookupN (V := textK) (ks := N.ts) (k := bl) (v := (.int .i64 0)) (b := false) rfl rfl rfl (texts_fits T.textsM) T.zero3 ((M.ext ((Ext.drew _).trans hx)).row (i := 4) rfl) (by rw [nat_none hn])),
      fv rfl rfl (fun x w hx hk => run_move rfl rfl),
      fv rfl rfl (fun x w hx hk => run_extract rfl rfl rfl),
      fv rfl rfl (fun x w hx hk => run_extract rfl rfl rfl),
      fv rfl rfl (fun x w hx hk => run_assign rfl rfl),
      fv rfl rfl (fun x w hx hk => run_assign rfl rfl), trivial⟩ ?_)
  intro x fr w hx hk E
  have M := M.ext hx
  refine then_normal ?_
  refine wp_seq ?_
  refine code_region ?_
  refine mv E fun fr E => ?_
  refine sw (v := .bool _) E (rfl) fun fr E => ?_
  refine seq_nil' ?_
  refine cond_true E rfl (rfl) ?_
  refine code_region ?_
  refine mv E fun fr E => ?_
  refine sw E (run_nilCheck rfl rfl) fun fr E => ?_
  refine sw (v := .pointer (some ⟨_, 2, none⟩)) E (run_fieldAddr rfl rfl T.fld112_2) fun fr E => ?_
  refine sw (v := .map _) E (run_loadB rfl rfl T.one109 (M.row (i := 1) rfl) rfl) fun fr E => ?_
  refine sw (v := .int .i64 (N.ts.length : Int)) E (run_lenN (V := textK) (ks := N.ts) rfl rfl rfl rfl (texts_fits T.textsM) (M.row (i := 4) rfl)) fun fr E => ?_
  refine sw (v := .int _ ((((N.ts.length + 1) : Nat) : Int))) E (num rfl ((i64_id (by omega) (by omega)).trans (by omega))) fun fr E => ?_
  refine ma E fun fr E => ?_
  refine seq_nil' ?_
  refine (free_last (B := T.tab46_4_b) (Vs := (.exact _ :: .exact _ :: .exact (.pointer (some ⟨_, 2, none⟩)) :: .exact (.map _) :: .exact _ :: .exact (strV bl) :: .exact _ :: [])) T.tab46_4_j 7 E T.mixed T.tab46_4 rfl rfl rfl (AllS.lasts ⟨trivial, trivial, trivial, trivial, trivial, trivial, trivial, trivial⟩) ⟨fv rfl rfl (fun x w hx hk => run_move rfl rfl),
      fv rfl rfl (fun x w hx hk => run_nilCheck rfl rfl),
      fv rfl rfl (fun x w hx hk => run_fieldAddr rfl rfl T.fld112_2),
      fv rfl rfl (fun x w hx hk => run_loadB rfl rfl T.one109 ((M.ext ((Ext.drew _).trans hx)).row (i := 1) rfl) rfl),
      fv rfl rfl (fun x w hx hk => run_move rfl rfl),
      fv rfl rfl (fun x w hx hk => run_b2s rfl rfl (M.ext ((Ext.drew _).trans hx)).fact T.slice54 T.u8T T.strT),
      fv rfl rfl (fun x w hx hk => run_move rfl rfl), trivial⟩ ?_)
  intro x fr w hx hk E
  have M := M.ext hx
  refine last_mapN (i := 4) (V := textK) (k := bl) E M rfl rfl rfl rfl rfl rfl rfl rfl rfl rfl (texts_fits T.textsM) hn rfl fun fr w M E => ?_
  refine then_normal ?_
  refine code_region ?_
  refine snew (ob := .cells _ 28) (fun g => .pointer (some ⟨g, 0, none⟩)) E M rfl rfl rfl rfl rfl (run_allocN rfl T.zero28) fun g1 fr w M E => ?_
  refine seq_nil' ?_
  refine wp_seq ?_
  refine code_region ?_
  refine sw E (run_moveC rfl) fun fr E => ?_
  refine seq_nil' ?_
  refine wp_block ?_
  refine loop_dec (fun d fr w => ∃ i : Nat, d = 32 - i ∧ i ≤ 32 ∧ Env [(34, .int .i64 i), (7, .pointer (some ⟨g1, 0, none⟩)), (4, .pointer (some ⟨g0, 0, none⟩)), (5, .int .i64 (((N.ts.length + 1) : Nat) : Int))] 45 fr ∧ Mem w0 (feet (nms 112 175 N)) (.blk g1 (.cells (ones i).toArray 28) :: .blk g0 (.cells #[.int .u8 0, .int .u8 0, .int .u8 0, .int .u8 0, .int .u8 0, .int .u8 0, .int .u8 0, .int .u8 0, .int .u8 0, .int .u8 0, .int .u8 0, .int .u8 0, .int .u8 0, .int .u8 0, .int .u8 0, .int .u8 0, .int .u8 0, .int .u8 0, .int .u8 0, .int .u8 0, .int .u8 0, .int .u8 0, .int .u8 0, .int .u8 0, .int .u8 0, .int .u8 0, .int .u8 0, .int .u8 0, .int .u8 0, .int .u8 0, .int .u8 0, .int .u8 0] 28) :: nms 112 175 (⟨N.gn, N.gs, N.gt, N.av, N.ks, N.ts ++ [bl]⟩ : NV)) (fun w' => Bytes w' b bl) w) (32) ?_ ?_
  · have M := M.pull 5 rfl
    have M := M.pull 5 rfl
    have M := M.pull 5 rfl
    have M := M.pull 5 rfl
    have M := M.pull 5 rfl
    have M := M.pull 5 rfl
    exact ⟨0, rfl, Nat.zero_le _, ((((Env.nil E).add E (t := 5) rfl).add E (t := 4) rfl).add E (t := 7) rfl).add E (t := 34) rfl, M⟩
  · clear E M
    rintro d fr w ⟨i, rfl, hle, E, M⟩
    by_cases hi : i < 32
    · refine code_region ?_
      refine sw (v := .bool true) E (tst rfl (decide_eq_true (by omega))) fun fr E => ?_
      refine seq_nil' ?_
      refine wp_seq ?_
      refine cond_true E rfl (rfl) ?_
      refine wp_skip ?_
      refine then_normal ?_
      refine wp_seq ?_
      refine wp_block ?_
      refine code_region ?_
      refine mv E fun fr E => ?_
      refine ma E fun fr E => ?_
      refine seq_nil' ?_
      refine code_last ?_
      refine mv E fun fr E => ?_
      refine sw (v := .pointer (some ⟨_, 0 + i * 1, none⟩)) E (run_indexA (i := i) rfl rfl rfl (rfl) (hi) T.arr28 T.size5) fun fr E => ?_
      refine sset (i := 0) (cs' := (ones (i + 1)).toArray) E M rfl rfl rfl rfl rfl (run_store1' (v := _) rfl rfl rfl T.size5 (M.row (i := 0) rfl) (ones_lt hi) (rfl) (ones_set hi)) rfl fun fr w M E => ?_
      refine seq_nil ?_
      refine block_normal ?_
      refine then_normal ?_
      refine code_last ?_
      refine sw (v := .int _ (((i + 1 : Nat) : Int))) E (num rfl ((i64_id (by omega) (by omega)).trans (by omega))) fun fr E => ?_
      refine mv E fun fr E => ?_
      refine seq_nil ?_
      refine then_any ?_
      have M := M.pull 5 rfl
      have M := M.pull 5 rfl
      have M := M.pull 5 rfl
      have M := M.pull 5 rfl
      have M := M.pull 5 rfl
      have M := M.pull 5 rfl
      exact ⟨32 - (i + 1), by omega, i + 1, rfl, by omega, ((((Env.nil E).add E (t := 5) rfl).add E (t := 4) rfl).add E (t := 7) rfl).add E (t := 34) rfl, M⟩
    · obtain rfl : i = 32 := by omega
      refine code_region ?_
      refine sw (v := .bool false) E (tst rfl (decide_eq_false (by omega))) fun fr E => ?_
      refine seq_nil' ?_
      refine wp_seq ?_
      refine cond_false E rfl (rfl) ?_
      refine wp_exit ?_
      refine then_exit ?_
      refine then_exit ?_
      refine block_exit ?_
      refine then_normal ?_
      have M : Mem _ _ ([.blk g1 (.cells (ones 32).toArray 28)] ++ _) _ _ := M
      refine wp_seq (free_regR (B := T.tab46_11_b) (Vs := (.exact (.slice (some ⟨g1, 24, none⟩) 8 8) :: .exact _ :: CameV w.heap.size (fun v => [.bytes 5 v (be8 (((N.ts.length + 1) : Nat) : Int))]) (fun _ => True) :: CameI w.heap.size ([.blk g1 (.cells (ones 32).toArray 28)]) (fun _ : Unit => .int .i64 8) (fun _ => [.blk g1 (.cells (bc (sumOf (N.ts.length + 1))).toArray 28)]) (fun _ => True) :: [])) (ownRoad (oneFs 3 ([.blk g1 (.cells (ones 32).toArray 28)])) w.drew) T.tab46_11_i E T.mixed T.tab46_11 rfl ?_ ⟨fr_val rfl rfl M (fun i g h => h.2) (fun x w' M' hB hk => ⟨_, _, rfl, rfl, rfl, run_sliceAL (lo := 24) (n := 32) (sz := 1) rfl rfl rfl rfl (by decide) T.arr28 T.size5, Ext.refl _, rfl⟩),
      fr_val rfl rfl M (fun i g h => h.2) (fun x w' M' hB hk => ⟨_, _, rfl, rfl, rfl, run_move rfl rfl, Ext.refl _, rfl⟩),
      fr_ext rfl rfl M (fun i g h => h.2) (fun x w' M' hB hk => ⟨_, _, rfl, rfl, rfl, run_call rfl rfl T.fn63, (nnumber_x (((N.ts.length + 1) : Nat) : Int) _).extV hB⟩),
      fr_chg rfl rfl M (fun x w' M' H' hB hk => ⟨rfl, rfl, rfl, run_copyA (l := be8 (((N.ts.length + 1) : Nat) : Int)) rfl rfl rfl rfl rfl T.slice54 T.size5 (H'.ent 0 rfl) ((hk 2 rfl).1.reads 0 rfl) rfl (by decide) rfl⟩), trivial⟩ ?_)
      · exact one_okW rfl ((allY_ex (allY_ex (allY_any (LastsR.cameV (fun g h => M.old g h)) (allY_in rfl LastsR.came1 allY_nil)))))
      intro x fr w ⟨b, hb, hI⟩ hk E
      obtain ⟨u, hy, -, M⟩ := M.behind (val := fun _ : Unit => .int .i64 8) (outs := fun _ => [.blk g1 (.cells (bc (sumOf (N.ts.length + 1))).toArray 28)]) (p := fun _ => True) hI (hk 3 (by decide))
      refine then_normal ?_
      refine code_region ?_
      refine sw (v := .agg (bc (sumOf (N.ts.length + 1))).toArray) E (run_loadAll rfl rfl T.agg28 (M.row (i := 0) rfl) rfl) fun fr E => ?_
      refine sset (i := 1) (cs' := (bc (sumOf (N.ts.length + 1))).toArray) E M rfl rfl rfl rfl rfl (run_storeAll (vs := (bc (sumOf (N.ts.length + 1))).toArray) rfl rfl rfl T.size28 (rfl) (M.row (i := 1) rfl) rfl (fun v hv => bc_one v hv)) rfl fun fr w M E => ?_
      refine seq_nil' ?_
      refine wp_ret ?_
      refine retC E rfl rfl T.agg28 (M.row (i := 1) rfl) (rfl) ?_
      have M := M.pull 5 rfl
      have M := M.pull 5 rfl
      have M := M.pull 5 rfl
      have M := M.pull 5 rfl
      exact ⟨(⟨N.gn, N.gs, N.gt, N.av, N.ks, N.ts ++ [bl]⟩ : NV), rfl, Mem.fin (L := nms 112 175 (⟨N.gn, N.gs, N.gt, N.av, N.ks, N.ts ++ [bl]⟩ : NV) ++ _) M (List.sublist_append_left _ _) ⟨rfl, rfl, rfl⟩⟩

theorem Sum_p {N : NV} {b : Value} {bl : List UInt8} {w0 : World} (H : Has w0 [nmE N]) (hb : Bytes w0 b bl) (ab : ∀ g, b.ownBlock = some g → g ∉ (nmE N).foot) (htz : N.ts.length ≤ 1099511627776) :
    Does Try.prog 46 [.pointer (some ⟨N.gn, 0, none⟩), b] w0 [nmE N] (fun _ : NV => .agg (bc (sumOf (textNo N.ts bl))).toArray) (fun x => [] ++ [nmE x]) (fun x => x.gn = N.gn ∧ x.ks = N.ks ∧ x.ts = textKs N.ts bl) := by
  refine Does.packed (B := fun _ : NV => []) (C := fun x => nms 112 175 x) (fun H' => ?_) H fun x hx => ⟨x, rfl, rfl, hx⟩
  have ab' : ∀ g, b.ownBlock = some g → ¬ feet (nms 112 175 N) g := fun g hg c => ab g hg (Ent.mem_all.2 c)
  by_cases hk : bl ∈ N.ts
  · obtain ⟨m, hm⟩ := nat_mem hk
    have e1 : textKs N.ts bl = N.ts := if_pos hk
    have e2 : textNo N.ts bl = m + 1 := by unfold textNo; rw [hm]
    rw [e1, e2]
    exact Sum_old H' hb ab' htz hm
  · have e1 : textKs N.ts bl = N.ts ++ [bl] := if_neg hk
    have e2 : textNo N.ts bl = N.ts.length + 1 := by unfold textNo; rw [nat_none hk]
    rw [e1, e2]
    exact Sum_new H' hb ab' htz hk
end Go.Proofs.Ytnebjbgcibjohaa.K
end
section
namespace Go.Proofs.Ytnebjbgcibjohaa.K
open Go.RowKit Go.Rill Go.Proofs
set_option linter.unusedVariables false
set_option linter.unusedSimpArgs false
theorem bneFB {a b : Int} (h : a = b) : (a != b) = false := by simp [h]
theorem bneTB {a b : Int} (h : ¬ a = b) : (a != b) = true := by simp [h]
theorem fit_sum {l : List UInt8} (h : l.length = 32) : Fit (List.replicate 32 .u8) (bc l) := by have := fit_bc l; rwa [h] at this
def mostE (e : Ety) : Int := if e.k = 3 then 8 else 63
/-- An entry's numbers may be. -/
def PlacedE (e : Ety) : Prop := (0 ≤ e.b ∧ e.b ≤ mostE e) ∧ (0 ≤ e.s ∧ e.s ≤ 63) ∧ (¬ e.k = 2 ∨ (e.s = 0 ∧ e.sum = List.replicate 32 0))
instance (e : Ety) : Decidable (PlacedE e) := by unfold PlacedE; infer_instance
set_option maxRecDepth 100000 in
theorem bwithin_1 {n lo hi : Int} {w0 : World} (h1 : lo ≤ n) : Gives Try.prog 64 [.int .i64 n, .int .i64 lo, .int .i64 hi] w0 (.bool (decide (n ≤ hi))) := by
  refine enter (n := 15) Try.func64 rfl rfl rfl ?_
  intro fr E
  have M : Mem w0 (feet []) [] (fun _ => True) w0 := Mem.begin (Has.nil w0) (fun _ _ => trivial)
  refine code_region ?_
  refine sw E (run_assignC rfl) fun fr E => ?_
  refine seq_nil' ?_
  refine code_region ?_
  refine mv E fun fr E => ?_
  refine mv E fun fr E => ?_
  refine sw (v := .bool true) E (tst rfl (decide_eq_true h1)) fun fr E => ?_
  refine mv E fun fr E => ?_
  refine mv E fun fr E => ?_
  refine mv E fun fr E => ?_
  refine sw (v := .bool _) E (rfl) fun fr E => ?_
  refine sw (v := .bool _) E (rfl) fun fr E => ?_
  refine ma E fun fr E => ?_
  refine seq_nil' ?_
  refine wp_ret ?_
  refine ret1 E rfl rfl ?_
  exact given M

set_option maxRecDepth 100000 in
theorem bwithin_2 {n lo hi : Int} {w0 : World} (h1 : ¬ lo ≤ n) : Gives Try.prog 64 [.int .i64 n, .int .i64 lo, .int .i64 hi] w0 (.bool (false)) := by
  refine enter (n := 15) Try.func64 rfl rfl rfl ?_
  intro fr E
  have M : Mem w0 (feet []) [] (fun _ => True) w0 := Mem.begin (Has.nil w0) (fun _ _ => trivial)
  refine code_region ?_
  refine sw E (run_assignC rfl) fun fr E => ?_
  refine seq_nil' ?_
  refine code_region ?_
  refine mv E fun fr E => ?_
  refine mv E fun fr E => ?_
  refine sw (v := .bool false) E (tst rfl (decide_eq_false h1)) fun fr E => ?_
  refine mv E fun fr E => ?_
  refine sno E rfl rfl rfl rfl fun fr E => ?_
  refine sno E rfl rfl rfl rfl fun fr E => ?_
  refine sno E rfl rfl rfl rfl fun fr E => ?_
  refine sw (v := .bool _) E (rfl) fun fr E => ?_
  refine ma E fun fr E => ?_
  refine seq_nil' ?_
  refine wp_ret ?_
  refine ret1 E rfl rfl ?_
  exact given M

theorem bwithin_x {n lo hi : Int} {w0 : World} {r : Bool} (h : decide (lo ≤ n ∧ n ≤ hi) = r) : Gives Try.prog 64 [.int .i64 n, .int .i64 lo, .int .i64 hi] w0 (.bool r) := by
  subst h
  by_cases h1 : lo ≤ n
  · have e : decide (lo ≤ n ∧ n ≤ hi) = decide (n ≤ hi) := by simp [h1]
    rw [e]; exact bwithin_1 h1
  · have e : decide (lo ≤ n ∧ n ≤ hi) = false := by simp [h1]
    rw [e]; exact bwithin_2 h1

set_option maxRecDepth 100000 in
theorem placed_n1 {e : Ety} {w0 : World} (he : e.sum.length = 32) (h3 : e.k = 3) (hb : ¬ (0 ≤ e.b ∧ e.b ≤ 8)) : Gives Try.prog 65 [.agg e.cells.toArray] w0 (.bool false) := by
  refine enter (n := 33) Try.func65 rfl rfl rfl ?_
  intro fr E
  have M : Mem w0 (feet []) [] (fun _ => True) w0 := Mem.begin (Has.nil w0) (fun _ _ => trivial)
  refine code_region ?_
  refine snew (ob := .cells (e.cells.toArray) 83) (fun g => .pointer (some ⟨g, 0, none⟩)) E M rfl rfl rfl rfl rfl (run_boxN (cs := (e.cells.toArray)) rfl rfl) fun g0 fr w M E => ?_
  refine sw E (run_assignC rfl) fun fr E => ?_
  refine seq_nil' ?_
  refine code_region ?_
  refine sw E (run_assignC rfl) fun fr E => ?_
  refine seq_nil' ?_
  refine wp_seq ?_
  refine code_region ?_
  refine sw (v := .pointer (some ⟨_, 0, none⟩)) E (run_fieldAddr rfl rfl T.fld83_0) fun fr E => ?_
  refine sw (v := .int .i64 e.k) E (run_loadB rfl rfl T.one3 (M.row (i := 0) rfl) Ety.c_k) fun fr E => ?_
  refine sw (v := .bool true) E (tst rfl (decide_eq_true h3)) fun fr E => ?_
  refine seq_nil' ?_
  refine cond_true E rfl (rfl) ?_
  refine code_last ?_
  refine sw E (run_assignC rfl) fun fr E => ?_
  refine seq_nil ?_
  refine then_normal ?_
  refine wp_seq ?_
  refine code_region ?_
  refine sw (v := .pointer (some ⟨_, 1, none⟩)) E (run_fieldAddr rfl rfl T.fld83_1) fun fr E => ?_
  refine sw (v := .int .i64 e.b) E (run_loadB rfl rfl T.one3 (M.row (i := 0) rfl) Ety.c_b) fun fr E => ?_
  refine mv E fun fr E => ?_
  refine sw (v := .int _ (8)) E (num rfl (rfl)) fun fr E => ?_
  refine sgive E M rfl rfl rfl rfl rfl (run_call rfl rfl T.fn64) (bwithin_x (decide_eq_false hb)) fun fr w M E => ?_
  refine sw (v := .bool _) E (rfl) fun fr E => ?_
  refine mv E fun fr E => ?_
  refine sno E rfl rfl rfl rfl fun fr E => ?_
  refine sno E rfl rfl rfl rfl fun fr E => ?_
  refine sno E rfl rfl rfl rfl fun fr E => ?_
  refine sno E rfl rfl rfl rfl fun fr E => ?_
  refine sw (v := .bool _) E (rfl) fun fr E => ?_
  refine seq_nil' ?_
  refine cond_true E rfl (rfl) ?_
  refine code_region ?_
  refine sw E (run_assignC rfl) fun fr E => ?_
  refine seq_nil' ?_
  refine wp_ret ?_
  refine then_ret ?_
  refine ret1 E rfl rfl ?_
  exact given M

set_option maxRecDepth 100000 in
theorem placed_n2 {e : Ety} {w0 : World} (he : e.sum.length = 32) (h3 : e.k = 3) (hb : 0 ≤ e.b ∧ e.b ≤ 8) (hs : ¬ (0 ≤ e.s ∧ e.s ≤ 63)) : Gives Try.prog 65 [.agg e.cells.toArray] w0 (.bool false) := by
  refine enter (n := 33) Try.func65 rfl rfl rfl ?_
  intro fr E
  have M : Mem w0 (feet []) [] (fun _ => True) w0 := Mem.begin (Has.nil w0) (fun _ _ => trivial)
  refine code_region ?_
  refine snew (ob := .cells (e.cells.toArray) 83) (fun g => .pointer (some ⟨g, 0, none⟩)) E M rfl rfl rfl rfl rfl (run_boxN (cs := (e.cells.toArray)) rfl rfl) fun g0 fr w M E => ?_
  refine sw E (run_assignC rfl) fun fr E => ?_
  refine seq_nil' ?_
  refine code_region ?_
  refine sw E (run_assignC rfl) fun fr E => ?_
  refine seq_nil' ?_
  refine wp_seq ?_
  refine code_region ?_
  refine sw (v := .pointer (some ⟨_, 0, none⟩)) E (run_fieldAddr rfl rfl T.fld83_0) fun fr E => ?_
  refine sw (v := .int .i64 e.k) E (run_loadB rfl rfl T.one3 (M.row (i := 0) rfl) Ety.c_k) fun fr E => ?_
  refine sw (v := .bool true) E (tst rfl (decide_eq_true h3)) fun fr E => ?_
  refine seq_nil' ?_
  refine cond_true E rfl (rfl) ?_
  refine code_last ?_
  refine sw E (run_assignC rfl) fun fr E => ?_
  refine seq_nil ?_
  refine then_normal ?_
  refine wp_seq ?_
  refine code_region ?_
  refine sw (v := .pointer (some ⟨_, 1, none⟩)) E (run_fieldAddr rfl rfl T.fld83_1) fun fr E => ?_
  refine sw (v := .int .i64 e.b) E (run_loadB rfl rfl T.one3 (M.row (i := 0) rfl) Ety.c_b) fun fr E => ?_
  refine mv E fun fr E => ?_
  refine sw (v := .int _ (8)) E (num rfl (rfl)) fun fr E => ?_
  refine sgive E M rfl rfl rfl rfl rfl (run_call rfl rfl T.fn64) (bwithin_x (decide_eq_true hb)) fun fr w M E => ?_
  refine sw (v := .bool _) E (rfl) fun fr E => ?_
  refine mv E fun fr E => ?_
  refine sw (v := .pointer (some ⟨_, 2, none⟩)) E (run_fieldAddr rfl rfl T.fld83_2) fun fr E => ?_
  refine sw (v := .int .i64 e.s) E (run_loadB rfl rfl T.one3 (M.row (i := 0) rfl) Ety.c_s) fun fr E => ?_
  refine sgive E M rfl rfl rfl rfl rfl (run_call rfl rfl T.fn64) (bwithin_x (decide_eq_false hs)) fun fr w M E => ?_
  refine sw (v := .bool _) E (rfl) fun fr E => ?_
  refine sw (v := .bool _) E (rfl) fun fr E => ?_
  refine seq_nil' ?_
  refine cond_true E rfl (rfl) ?_
  refine code_region ?_
  refine sw E (run_assignC rfl) fun fr E => ?_
  refine seq_nil' ?_
  refine wp_ret ?_
  refine then_ret ?_
  refine ret1 E rfl rfl ?_
  exact given M

set_option maxRecDepth 100000 in
theorem placed_n3 {e : Ety} {w0 : World} (he : e.sum.length = 32) (h3 : e.k = 3) (hb : 0 ≤ e.b ∧ e.b ≤ 8) (hs : 0 ≤ e.s ∧ e.s ≤ 63) (hk : ¬ e.k = 2) : Gives Try.prog 65 [.agg e.cells.toArray] w0 (.bool true) := by
  refine enter (n := 33) Try.func65 rfl rfl rfl ?_
  intro fr E
  have M : Mem w0 (feet []) [] (fun _ => True) w0 := Mem.begin (Has.nil w0) (fun _ _ => trivial)
  refine code_region ?_
  refine snew (ob := .cells (e.cells.toArray) 83) (fun g => .pointer (some ⟨g, 0, none⟩)) E M rfl rfl rfl rfl rfl (run_boxN (cs := (e.cells.toArray)) rfl rfl) fun g0 fr w M E => ?_
  refine sw E (run_assignC rfl) fun fr E => ?_
  refine seq_nil' ?_
  refine code_region ?_
  refine sw E (run_assignC rfl) fun fr E => ?_
  refine seq_nil' ?_
  refine wp_seq ?_
  refine code_region ?_
  refine sw (v := .pointer (some ⟨_, 0, none⟩)) E (run_fieldAddr rfl rfl T.fld83_0) fun fr E => ?_
  refine sw (v := .int .i64 e.k) E (run_loadB rfl rfl T.one3 (M.row (i := 0) rfl) Ety.c_k) fun fr E => ?_
  refine sw (v := .bool true) E (tst rfl (decide_eq_true h3)) fun fr E => ?_
  refine seq_nil' ?_
  refine cond_true E rfl (rfl) ?_
  refine code_last ?_
  refine sw E (run_assignC rfl) fun fr E => ?_
  refine seq_nil ?_
  refine then_normal ?_
  refine wp_seq ?_
  refine code_region ?_
  refine sw (v := .pointer (some ⟨_, 1, none⟩)) E (run_fieldAddr rfl rfl T.fld83_1) fun fr E => ?_
  refine sw (v := .int .i64 e.b) E (run_loadB rfl rfl T.one3 (M.row (i := 0) rfl) Ety.c_b) fun fr E => ?_
  refine mv E fun fr E => ?_
  refine sw (v := .int _ (8)) E (num rfl (rfl)) fun fr E => ?_
  refine sgive E M rfl rfl rfl rfl rfl (run_call rfl rfl T.fn64) (bwithin_x (decide_eq_true hb)) fun fr w M E => ?_
  refine sw (v := .bool _) E (rfl) fun fr E => ?_
  refine mv E fun fr E => ?_
  refine sw (v := .pointer (some ⟨_, 2, none⟩)) E (run_fieldAddr rfl rfl T.fld83_2) fun fr E => ?_
  refine sw (v := .int .i64 e.s) E (run_loadB rfl rfl T.one3 (M.row (i := 0) rfl) Ety.c_s) fun fr E => ?_
  refine sgive E M rfl rfl rfl rfl rfl (run_call rfl rfl T.fn64) (bwithin_x (decide_eq_true hs)) fun fr w M E => ?_
  refine sw (v := .bool _) E (rfl) fun fr E => ?_
  refine sw (v := .bool _) E (rfl) fun fr E => ?_
  refine seq_nil' ?_
  refine cond_false E rfl (rfl) ?_
  refine wp_skip ?_
  refine then_normal ?_
  refine code_region ?_
  refine sw (v := .pointer (some ⟨_, 0, none⟩)) E (run_fieldAddr rfl rfl T.fld83_0) fun fr E => ?_
  refine sw (v := .int .i64 e.k) E (run_loadB rfl rfl T.one3 (M.row (i := 0) rfl) Ety.c_k) fun fr E => ?_
  refine sw (v := .bool true) E (tst rfl (bneTB hk)) fun fr E => ?_
  refine mv E fun fr E => ?_
  refine sno E rfl rfl rfl rfl fun fr E => ?_
  refine sno E rfl rfl rfl rfl fun fr E => ?_
  refine sno E rfl rfl rfl rfl fun fr E => ?_
  refine sno E rfl rfl rfl rfl fun fr E => ?_
  refine sno E rfl rfl rfl rfl fun fr E => ?_
  refine sno E rfl rfl rfl rfl fun fr E => ?_
  refine sno E rfl rfl rfl rfl fun fr E => ?_
  refine sno E rfl rfl rfl rfl fun fr E => ?_
  refine sno E rfl rfl rfl rfl fun fr E => ?_
  refine sw (v := .bool _) E (rfl) fun fr E => ?_
  refine ma E fun fr E => ?_
  refine seq_nil' ?_
  refine wp_ret ?_
  refine ret1 E rfl rfl ?_
  exact given M

set_option maxRecDepth 100000 in
theorem placed_d1 {e : Ety} {w0 : World} (he : e.sum.length = 32) (h3 : ¬ e.k = 3) (hb : ¬ (0 ≤ e.b ∧ e.b ≤ 63)) : Gives Try.prog 65 [.agg e.cells.toArray] w0 (.bool false) := by
  refine enter (n := 33) Try.func65 rfl rfl rfl ?_
  intro fr E
  have M : Mem w0 (feet []) [] (fun _ => True) w0 := Mem.begin (Has.nil w0) (fun _ _ => trivial)
  refine code_region ?_
  refine snew (ob := .cells (e.cells.toArray) 83) (fun g => .pointer (some ⟨g, 0, none⟩)) E M rfl rfl rfl rfl rfl (run_boxN (cs := (e.cells.toArray)) rfl rfl) fun g0 fr w M E => ?_
  refine sw E (run_assignC rfl) fun fr E => ?_
  refine seq_nil' ?_
  refine code_region ?_
  refine sw E (run_assignC rfl) fun fr E => ?_
  refine seq_nil' ?_
  refine wp_seq ?_
  refine code_region ?_
  refine sw (v := .pointer (some ⟨_, 0, none⟩)) E (run_fieldAddr rfl rfl T.fld83_0) fun fr E => ?_
  refine sw (v := .int .i64 e.k) E (run_loadB rfl rfl T.one3 (M.row (i := 0) rfl) Ety.c_k) fun fr E => ?_
  refine sw (v := .bool false) E (tst rfl (decide_eq_false h3)) fun fr E => ?_
  refine seq_nil' ?_
  refine cond_false E rfl (rfl) ?_
  refine wp_skip ?_
  refine then_normal ?_
  refine wp_seq ?_
  refine code_region ?_
  refine sw (v := .pointer (some ⟨_, 1, none⟩)) E (run_fieldAddr rfl rfl T.fld83_1) fun fr E => ?_
  refine sw (v := .int .i64 e.b) E (run_loadB rfl rfl T.one3 (M.row (i := 0) rfl) Ety.c_b) fun fr E => ?_
  refine mv E fun fr E => ?_
  refine sw (v := .int _ (63)) E (num rfl (rfl)) fun fr E => ?_
  refine sgive E M rfl rfl rfl rfl rfl (run_call rfl rfl T.fn64) (bwithin_x (decide_eq_false hb)) fun fr w M E => ?_
  refine sw (v := .bool _) E (rfl) fun fr E => ?_
  refine mv E fun fr E => ?_
  refine sno E rfl rfl rfl rfl fun fr E => ?_
  refine sno E rfl rfl rfl rfl fun fr E => ?_
  refine sno E rfl rfl rfl rfl fun fr E => ?_
  refine sno E rfl rfl rfl rfl fun fr E => ?_
  refine sw (v := .bool _) E (rfl) fun fr E => ?_
  refine seq_nil' ?_
  refine cond_true E rfl (rfl) ?_
  refine code_region ?_
  refine sw E (run_assignC rfl) fun fr E => ?_
  refine seq_nil' ?_
  refine wp_ret ?_
  refine then_ret ?_
  refine ret1 E rfl rfl ?_
  exact given M

set_option maxRecDepth 100000 in
theorem placed_d2 {e : Ety} {w0 : World} (he : e.sum.length = 32) (h3 : ¬ e.k = 3) (hb : 0 ≤ e.b ∧ e.b ≤ 63) (hs : ¬ (0 ≤ e.s ∧ e.s ≤ 63)) : Gives Try.prog 65 [.agg e.cells.toArray] w0 (.bool false) := by
  refine enter (n := 33) Try.func65 rfl rfl rfl ?_
  intro fr E
  have M : Mem w0 (feet []) [] (fun _ => True) w0 := Mem.begin (Has.nil w0) (fun _ _ => trivial)
  refine code_region ?_
  refine snew (ob := .cells (e.cells.toArray) 83) (fun g => .pointer (some ⟨g, 0, none⟩)) E M rfl rfl rfl rfl rfl (run_boxN (cs := (e.cells.toArray)) rfl rfl) fun g0 fr w M E => ?_
  refine sw E (run_assignC rfl) fun fr E => ?_
  refine seq_nil' ?_
  refine code_region ?_
  refine sw E (run_assignC rfl) fun fr E => ?_
  refine seq_nil' ?_
  refine wp_seq ?_
  refine code_region ?_
  refine sw (v := .pointer (some ⟨_, 0, none⟩)) E (run_fieldAddr rfl rfl T.fld83_0) fun fr E => ?_
  refine sw (v := .int .i64 e.k) E (run_loadB rfl rfl T.one3 (M.row (i := 0) rfl) Ety.c_k) fun fr E => ?_
  refine sw (v := .bool false) E (tst rfl (decide_eq_false h3)) fun fr E => ?_
  refine seq_nil' ?_
  refine cond_false E rfl (rfl) ?_
  refine wp_skip ?_
  refine then_normal ?_
  refine wp_seq ?_
  refine code_region ?_
  refine sw (v := .pointer (some ⟨_, 1, none⟩)) E (run_fieldAddr rfl rfl T.fld83_1) fun fr E => ?_
  refine sw (v := .int .i64 e.b) E (run_loadB rfl rfl T.one3 (M.row (i := 0) rfl) Ety.c_b) fun fr E => ?_
  refine mv E fun fr E => ?_
  refine sw (v := .int _ (63)) E (num rfl (rfl)) fun fr E => ?_
  refine sgive E M rfl rfl rfl rfl rfl (run_call rfl rfl T.fn64) (bwithin_x (decide_eq_true hb)) fun fr w M E => ?_
  refine sw (v := .bool _) E (rfl) fun fr E => ?_
  refine mv E fun fr E => ?_
  refine sw (v := .pointer (some ⟨_, 2, none⟩)) E (run_fieldAddr rfl rfl T.fld83_2) fun fr E => ?_
  refine sw (v := .int .i64 e.s) E (run_loadB rfl rfl T.one3 (M.row (i := 0) rfl) Ety.c_s) fun fr E => ?_
  refine sgive E M rfl rfl rfl rfl rfl (run_call rfl rfl T.fn64) (bwithin_x (decide_eq_false hs)) fun fr w M E => ?_
  refine sw (v := .bool _) E (rfl) fun fr E => ?_
  refine sw (v := .bool _) E (rfl) fun fr E => ?_
  refine seq_nil' ?_
  refine cond_true E rfl (rfl) ?_
  refine code_region ?_
  refine sw E (run_assignC rfl) fun fr E => ?_
  refine seq_nil' ?_
  refine wp_ret ?_
  refine then_ret ?_
  refine ret1 E rfl rfl ?_
  exact given M

set_option maxRecDepth 100000 in
theorem placed_d3 {e : Ety} {w0 : World} (he : e.sum.length = 32) (h3 : ¬ e.k = 3) (hb : 0 ≤ e.b ∧ e.b ≤ 63) (hs : 0 ≤ e.s ∧ e.s ≤ 63) (hk : ¬ e.k = 2) : Gives Try.prog 65 [.agg e.cells.toArray] w0 (.bool true) := by
  refine enter (n := 33) Try.func65 rfl rfl rfl ?_
  intro fr E
  have M : Mem w0 (feet []) [] (fun _ => True) w0 := Mem.begin (Has.nil w0) (fun _ _ => trivial)
  refine code_region ?_
  refine snew (ob := .cells (e.cells.toArray) 83) (fun g => .pointer (some ⟨g, 0, none⟩)) E M rfl rfl rfl rfl rfl (run_boxN (cs := (e.cells.toArray)) rfl rfl) fun g0 fr w M E => ?_
  refine sw E (run_assignC rfl) fun fr E => ?_
  refine seq_nil' ?_
  refine code_region ?_
  refine sw E (run_assignC rfl) fun fr E => ?_
  refine seq_nil' ?_
  refine wp_seq ?_
  refine code_region ?_
  refine sw (v := .pointer (some ⟨_, 0, none⟩)) E (run_fieldAddr rfl rfl T.fld83_0) fun fr E => ?_
  refine sw (v := .int .i64 e.k) E (run_loadB rfl rfl T.one3 (M.row (i := 0) rfl) Ety.c_k) fun fr E => ?_
  refine sw (v := .bool false) E (tst rfl (decide_eq_false h3)) fun fr E => ?_
  refine seq_nil' ?_
  refine cond_false E rfl (rfl) ?_
  refine wp_skip ?_
  refine then_normal ?_
  refine wp_seq ?_
  refine code_region ?_
  refine sw (v := .pointer (some ⟨_, 1, none⟩)) E (run_fieldAddr rfl rfl T.fld83_1) fun fr E => ?_
  refine sw (v := .int .i64 e.b) E (run_loadB rfl rfl T.one3 (M.row (i := 0) rfl) Ety.c_b) fun fr E => ?_
  refine mv E fun fr E => ?_
  refine sw (v := .int _ (63)) E (num rfl (rfl)) fun fr E => ?_
  refine sgive E M rfl rfl rfl rfl rfl (run_call rfl rfl T.fn64) (bwithin_x (decide_eq_true hb)) fun fr w M E => ?_
  refine sw (v := .bool _) E (rfl) fun fr E => ?_
  refine mv E fun fr E => ?_
  refine sw (v := .pointer (some ⟨_, 2, none⟩)) E (run_fieldAddr rfl rfl T.fld83_2) fun fr E => ?_
  refine sw (v := .int .i64 e.s) E (run_loadB rfl rfl T.one3 (M.row (i := 0) rfl) Ety.c_s) fun fr E => ?_
  refine sgive E M rfl rfl rfl rfl rfl (run_call rfl rfl T.fn64) (bwithin_x (decide_eq_true hs)) fun fr w M E => ?_
  refine sw (v := .bool _) E (rfl) fun fr E => ?_
  refine sw (v := .bool _) E (rfl) fun fr E => ?_
  refine seq_nil' ?_
  refine cond_false E rfl (rfl) ?_
  refine wp_skip ?_
  refine then_normal ?_
  refine code_region ?_
  refine sw (v := .pointer (some ⟨_, 0, none⟩)) E (run_fieldAddr rfl rfl T.fld83_0) fun fr E => ?_
  refine sw (v := .int .i64 e.k) E (run_loadB rfl rfl T.one3 (M.row (i := 0) rfl) Ety.c_k) fun fr E => ?_
  refine sw (v := .bool true) E (tst rfl (bneTB hk)) fun fr E => ?_
  refine mv E fun fr E => ?_
  refine sno E rfl rfl rfl rfl fun fr E => ?_
  refine sno E rfl rfl rfl rfl fun fr E => ?_
  refine sno E rfl rfl rfl rfl fun fr E => ?_
  refine sno E rfl rfl rfl rfl fun fr E => ?_
  refine sno E rfl rfl rfl rfl fun fr E => ?_
  refine sno E rfl rfl rfl rfl fun fr E => ?_
  refine sno E rfl rfl rfl rfl fun fr E => ?_
  refine sno E rfl rfl rfl rfl fun fr E => ?_
  refine sno E rfl rfl rfl rfl fun fr E => ?_
  refine sw (v := .bool _) E (rfl) fun fr E => ?_
  refine ma E fun fr E => ?_
  refine seq_nil' ?_
  refine wp_ret ?_
  refine ret1 E rfl rfl ?_
  exact given M

set_option maxRecDepth 100000 in
theorem placed_d4 {e : Ety} {w0 : World} (he : e.sum.length = 32) (h3 : ¬ e.k = 3) (hb : 0 ≤ e.b ∧ e.b ≤ 63) (hs : 0 ≤ e.s ∧ e.s ≤ 63) (hk : e.k = 2) (hz : ¬ e.s = 0) : Gives Try.prog 65 [.agg e.cells.toArray] w0 (.bool false) := by
  refine enter (n := 33) Try.func65 rfl rfl rfl ?_
  intro fr E
  have M : Mem w0 (feet []) [] (fun _ => True) w0 := Mem.begin (Has.nil w0) (fun _ _ => trivial)
  refine code_region ?_
  refine snew (ob := .cells (e.cells.toArray) 83) (fun g => .pointer (some ⟨g, 0, none⟩)) E M rfl rfl rfl rfl rfl (run_boxN (cs := (e.cells.toArray)) rfl rfl) fun g0 fr w M E => ?_
  refine sw E (run_assignC rfl) fun fr E => ?_
  refine seq_nil' ?_
  refine code_region ?_
  refine sw E (run_assignC rfl) fun fr E => ?_
  refine seq_nil' ?_
  refine wp_seq ?_
  refine code_region ?_
  refine sw (v := .pointer (some ⟨_, 0, none⟩)) E (run_fieldAddr rfl rfl T.fld83_0) fun fr E => ?_
  refine sw (v := .int .i64 e.k) E (run_loadB rfl rfl T.one3 (M.row (i := 0) rfl) Ety.c_k) fun fr E => ?_
  refine sw (v := .bool false) E (tst rfl (decide_eq_false h3)) fun fr E => ?_
  refine seq_nil' ?_
  refine cond_false E rfl (rfl) ?_
  refine wp_skip ?_
  refine then_normal ?_
  refine wp_seq ?_
  refine code_region ?_
  refine sw (v := .pointer (some ⟨_, 1, none⟩)) E (run_fieldAddr rfl rfl T.fld83_1) fun fr E => ?_
  refine sw (v := .int .i64 e.b) E (run_loadB rfl rfl T.one3 (M.row (i := 0) rfl) Ety.c_b) fun fr E => ?_
  refine mv E fun fr E => ?_
  refine sw (v := .int _ (63)) E (num rfl (rfl)) fun fr E => ?_
  refine sgive E M rfl rfl rfl rfl rfl (run_call rfl rfl T.fn64) (bwithin_x (decide_eq_true hb)) fun fr w M E => ?_
  refine sw (v := .bool _) E (rfl) fun fr E => ?_
  refine mv E fun fr E => ?_
  refine sw (v := .pointer (some ⟨_, 2, none⟩)) E (run_fieldAddr rfl rfl T.fld83_2) fun fr E => ?_
  refine sw (v := .int .i64 e.s) E (run_loadB rfl rfl T.one3 (M.row (i := 0) rfl) Ety.c_s) fun fr E => ?_
  refine sgive E M rfl rfl rfl rfl rfl (run_call rfl rfl T.fn64) (bwithin_x (decide_eq_true hs)) fun fr w M E => ?_
  refine sw (v := .bool _) E (rfl) fun fr E => ?_
  refine sw (v := .bool _) E (rfl) fun fr E => ?_
  refine seq_nil' ?_
  refine cond_false E rfl (rfl) ?_
  refine wp_skip ?_
  refine then_normal ?_
  refine code_region ?_
  refine sw (v := .pointer (some ⟨_, 0, none⟩)) E (run_fieldAddr rfl rfl T.fld83_0) fun fr E => ?_
  refine sw (v := .int .i64 e.k) E (run_loadB rfl rfl T.one3 (M.row (i := 0) rfl) Ety.c_k) fun fr E => ?_
  refine sw (v := .bool false) E (tst rfl (bneFB hk)) fun fr E => ?_
  refine mv E fun fr E => ?_
  refine sw (v := .pointer (some ⟨_, 2, none⟩)) E (run_fieldAddr rfl rfl T.fld83_2) fun fr E => ?_
  refine sw (v := .int .i64 e.s) E (run_loadB rfl rfl T.one3 (M.row (i := 0) rfl) Ety.c_s) fun fr E => ?_
  refine sw (v := .bool false) E (tst rfl (decide_eq_false hz)) fun fr E => ?_
  refine mv E fun fr E => ?_
  refine sno E rfl rfl rfl rfl fun fr E => ?_
  refine sno E rfl rfl rfl rfl fun fr E => ?_
  refine sno E rfl rfl rfl rfl fun fr E => ?_
  refine sno E rfl rfl rfl rfl fun fr E => ?_
  refine sw (v := .bool _) E (rfl) fun fr E => ?_
  refine sw (v := .bool _) E (rfl) fun fr E => ?_
  refine ma E fun fr E => ?_
  refine seq_nil' ?_
  refine wp_ret ?_
  refine ret1 E rfl rfl ?_
  exact given M

set_option maxRecDepth 100000 in
theorem placed_d5 {e : Ety} {w0 : World} (he : e.sum.length = 32) (h3 : ¬ e.k = 3) (hb : 0 ≤ e.b ∧ e.b ≤ 63) (hs : 0 ≤ e.s ∧ e.s ≤ 63) (hk : e.k = 2) (hz : e.s = 0) : Gives Try.prog 65 [.agg e.cells.toArray] w0 (.bool (decide (e.sum = List.replicate 32 0))) := by
  refine enter (n := 33) Try.func65 rfl rfl rfl ?_
  intro fr E
  have M : Mem w0 (feet []) [] (fun _ => True) w0 := Mem.begin (Has.nil w0) (fun _ _ => trivial)
  refine code_region ?_
  refine snew (ob := .cells (e.cells.toArray) 83) (fun g => .pointer (some ⟨g, 0, none⟩)) E M rfl rfl rfl rfl rfl (run_boxN (cs := (e.cells.toArray)) rfl rfl) fun g0 fr w M E => ?_
  refine sw E (run_assignC rfl) fun fr E => ?_
  refine seq_nil' ?_
  refine code_region ?_
  refine sw E (run_assignC rfl) fun fr E => ?_
  refine seq_nil' ?_
  refine wp_seq ?_
  refine code_region ?_
  refine sw (v := .pointer (some ⟨_, 0, none⟩)) E (run_fieldAddr rfl rfl T.fld83_0) fun fr E => ?_
  refine sw (v := .int .i64 e.k) E (run_loadB rfl rfl T.one3 (M.row (i := 0) rfl) Ety.c_k) fun fr E => ?_
  refine sw (v := .bool false) E (tst rfl (decide_eq_false h3)) fun fr E => ?_
  refine seq_nil' ?_
  refine cond_false E rfl (rfl) ?_
  refine wp_skip ?_
  refine then_normal ?_
  refine wp_seq ?_
  refine code_region ?_
  refine sw (v := .pointer (some ⟨_, 1, none⟩)) E (run_fieldAddr rfl rfl T.fld83_1) fun fr E => ?_
  refine sw (v := .int .i64 e.b) E (run_loadB rfl rfl T.one3 (M.row (i := 0) rfl) Ety.c_b) fun fr E => ?_
  refine mv E fun fr E => ?_
  refine sw (v := .int _ (63)) E (num rfl (rfl)) fun fr E => ?_
  refine sgive E M rfl rfl rfl rfl rfl (run_call rfl rfl T.fn64) (bwithin_x (decide_eq_true hb)) fun fr w M E => ?_
  refine sw (v := .bool _) E (rfl) fun fr E => ?_
  refine mv E fun fr E => ?_
  refine sw (v := .pointer (some ⟨_, 2, none⟩)) E (run_fieldAddr rfl rfl T.fld83_2) fun fr E => ?_
  refine sw (v := .int .i64 e.s) E (run_loadB rfl rfl T.one3 (M.row (i := 0) rfl) Ety.c_s) fun fr E => ?_
  refine sgive E M rfl rfl rfl rfl rfl (run_call rfl rfl T.fn64) (bwithin_x (decide_eq_true hs)) fun fr w M E => ?_
  refine sw (v := .bool _) E (rfl) fun fr E => ?_
  refine sw (v := .bool _) E (rfl) fun fr E => ?_
  refine seq_nil' ?_
  refine cond_false E rfl (rfl) ?_
  refine wp_skip ?_
  refine then_normal ?_
  refine code_region ?_
  refine sw (v := .pointer (some ⟨_, 0, none⟩)) E (run_fieldAddr rfl rfl T.fld83_0) fun fr E => ?_
  refine sw (v := .int .i64 e.k) E (run_loadB rfl rfl T.one3 (M.row (i := 0) rfl) Ety.c_k) fun fr E => ?_
  refine sw (v := .bool false) E (tst rfl (bneFB hk)) fun fr E => ?_
  refine mv E fun fr E => ?_
  refine sw (v := .pointer (some ⟨_, 2, none⟩)) E (run_fieldAddr rfl rfl T.fld83_2) fun fr E => ?_
  refine sw (v := .int .i64 e.s) E (run_loadB rfl rfl T.one3 (M.row (i := 0) rfl) Ety.c_s) fun fr E => ?_
  refine sw (v := .bool true) E (tst rfl (decide_eq_true hz)) fun fr E => ?_
  refine mv E fun fr E => ?_
  refine sw (v := .pointer (some ⟨_, 3, none⟩)) E (run_fieldAddr rfl rfl T.fld83_3) fun fr E => ?_
  refine sw (v := .agg (bc e.sum).toArray) E (run_loadN' (vs := (bc e.sum).toArray) rfl rfl T.agg28 (M.row (i := 0) rfl) (by rw [Ety.size he]; rfl) (congrArg List.toArray (Ety.m_sum he))) fun fr E => ?_
  refine sw (v := .agg (bc (List.replicate 32 0)).toArray) E (run_buildEZ (us := (bc (List.replicate 32 0)).toArray) rfl T.arr28 T.size5 T.zero28) fun fr E => ?_
  refine sw (v := .bool (decide (e.sum = List.replicate 32 0))) E (run_eqF (b := decide (e.sum = List.replicate 32 0)) (xs := bc e.sum) (ys := (bc (List.replicate 32 0))) rfl rfl rfl T.flat28 (fit_sum he) (fit_sum (by simp)) (by rw [decide_eq_true_iff]; exact ⟨fun h => by rw [h], fun h => bc_inj h⟩)) fun fr E => ?_
  refine sw (v := .bool _) E (rfl) fun fr E => ?_
  refine sw (v := .bool _) E (rfl) fun fr E => ?_
  refine ma E fun fr E => ?_
  refine seq_nil' ?_
  refine wp_ret ?_
  refine ret1 E rfl rfl ?_
  exact given M

theorem bplaced_x {e : Ety} {w0 : World} (he : e.sum.length = 32) {r : Bool} (hr : decide (PlacedE e) = r) : Gives Try.prog 65 [.agg e.cells.toArray] w0 (.bool r) := by
  subst hr
  have no : ¬ PlacedE e → decide (PlacedE e) = false := fun h => decide_eq_false h
  by_cases h3 : e.k = 3
  · by_cases hb : 0 ≤ e.b ∧ e.b ≤ 8
    · by_cases hs : 0 ≤ e.s ∧ e.s ≤ 63
      · rw [decide_eq_true (show PlacedE e from ⟨by unfold mostE; rw [if_pos h3]; exact hb, hs, .inl (by omega)⟩)]; exact placed_n3 he h3 hb hs (by omega)
      · rw [no fun c => hs c.2.1]; exact placed_n2 he h3 hb hs
    · rw [no fun c => hb (by have := c.1; unfold mostE at this; rw [if_pos h3] at this; exact this)]; exact placed_n1 he h3 hb
  · by_cases hb : 0 ≤ e.b ∧ e.b ≤ 63
    · by_cases hs : 0 ≤ e.s ∧ e.s ≤ 63
      · have hb' : 0 ≤ e.b ∧ e.b ≤ mostE e := by unfold mostE; rw [if_neg h3]; exact hb
        by_cases hk : e.k = 2
        · by_cases hz : e.s = 0
          · have := placed_d5 (w0 := w0) he h3 hb hs hk hz
            have e2 : decide (PlacedE e) = decide (e.sum = List.replicate 32 0) := by
              by_cases h : e.sum = List.replicate 32 0
              · rw [decide_eq_true h]; exact decide_eq_true ⟨hb', hs, .inr ⟨hz, h⟩⟩
              · rw [decide_eq_false h]; exact no fun c => c.2.2.elim (fun c => c hk) fun c => h c.2
            rw [e2]; exact this
          · rw [no fun c => c.2.2.elim (fun c => c hk) fun c => hz c.1]; exact placed_d4 he h3 hb hs hk hz
        · rw [decide_eq_true (show PlacedE e from ⟨hb', hs, .inl hk⟩)]; exact placed_d3 he h3 hb hs hk
      · rw [no fun c => hs c.2.1]; exact placed_d2 he h3 hb hs
    · rw [no fun c => hb (by have := c.1; unfold mostE at this; rw [if_neg h3] at this; exact this)]; exact placed_d1 he h3 hb
end Go.Proofs.Ytnebjbgcibjohaa.K
end
section
namespace Go.Proofs.Ytnebjbgcibjohaa.K
open Go.RowKit Go.Rill Go.Proofs
set_option linter.unusedVariables false
set_option linter.unusedSimpArgs false
def checkE : Int → List Ety → Int
  | _, [] => 0
  | last, e :: r => if ¬ (1 ≤ e.k ∧ e.k ≤ 3) then 5 else if ¬ PlacedE e then 7 else if e.k = 2 then checkE last r else if 0 ≤ last ∧ ¬ e.s = last + 1 then 8 else checkE e.s r
/-- What is wrong with a summary. -/
def checkS (s : Smy) : Int := if 16 < s.es.length then 17 else if ¬ (0 ≤ s.st ∧ s.st ≤ 1099511627776) ∨ ¬ (-1 ≤ s.next ∧ s.next ≤ 31) then 7 else checkE (-1) s.es
section
variable {last : Int} {e : Ety} {r : List Ety}
theorem checkE_kind (h : ¬ (1 ≤ e.k ∧ e.k ≤ 3)) : checkE last (e :: r) = 5 := by rw [checkE, if_pos h]
theorem checkE_place (h : 1 ≤ e.k ∧ e.k ≤ 3) (h2 : ¬ PlacedE e) : checkE last (e :: r) = 7 := by rw [checkE, if_neg (fun c => c h), if_pos h2]
theorem checkE_trim (h : 1 ≤ e.k ∧ e.k ≤ 3) (h2 : PlacedE e) (h3 : e.k = 2) : checkE last (e :: r) = checkE last r := by rw [checkE, if_neg (fun c => c h), if_neg (fun c => c h2), if_pos h3]
theorem checkE_order (h : 1 ≤ e.k ∧ e.k ≤ 3) (h2 : PlacedE e) (h3 : ¬ e.k = 2) (h4 : 0 ≤ last ∧ ¬ e.s = last + 1) : checkE last (e :: r) = 8 := by rw [checkE, if_neg (fun c => c h), if_neg (fun c => c h2), if_neg h3, if_pos h4]
theorem checkE_go (h : 1 ≤ e.k ∧ e.k ≤ 3) (h2 : PlacedE e) (h3 : ¬ e.k = 2) (h4 : ¬ (0 ≤ last ∧ ¬ e.s = last + 1)) : checkE last (e :: r) = checkE e.s r := by rw [checkE, if_neg (fun c => c h), if_neg (fun c => c h2), if_neg h3, if_neg h4]
end
set_option maxRecDepth 100000 in
theorem Check_many {s : Smy} {v : Value} {w0 : World} (hs : s.Ok) (hr : Reads 35 w0 v s.es.length (ecs s.es)) (h : 16 < s.es.length) : Gives Try.prog 47 [.agg (s.cells v).toArray] w0 (.int .i64 17) := by
  refine enter (n := 55) Try.func47 rfl rfl rfl ?_
  intro fr E
  have M : Mem w0 (feet []) [] (fun w' => Reads 35 w' v s.es.length (ecs s.es)) w0 := Mem.begin (Has.nil w0) (fun w' h => Reads.held0 hr h)
  refine code_region ?_
  refine snew (ob := .cells ((s.cells v).toArray) 39) (fun g => .pointer (some ⟨g, 0, none⟩)) E M rfl rfl rfl rfl rfl (run_boxN (cs := ((s.cells v).toArray)) rfl rfl) fun g0 fr w M E => ?_
  refine sw E (run_assignC rfl) fun fr E => ?_
  refine seq_nil' ?_
  refine wp_scope_straight ?_
  refine wp_seq ?_
  refine wp_block ?_
  refine code_region ?_
  refine sw (v := .pointer (some ⟨_, 34, none⟩)) E (run_fieldAddr rfl rfl T.fld39_3) fun fr E => ?_
  refine sw E (run_loadB rfl rfl T.one37 (M.row (i := 0) rfl) (Smy.c_es hs)) fun fr E => ?_
  refine sw (v := .int .i64 _) E (run_lenR rfl rfl rfl rfl T.slice37 (M.fact)) fun fr E => ?_
  refine sw (v := .bool true) E (tst rfl (decide_eq_true (by omega))) fun fr E => ?_
  refine ma E fun fr E => ?_
  refine seq_nil' ?_
  refine cond_true E rfl (rfl) ?_
  refine code_region ?_
  refine sw E (run_assignC rfl) fun fr E => ?_
  refine seq_nil' ?_
  refine wp_ret ?_
  refine block_ret ?_
  refine then_ret ?_
  refine scope_ret ?_
  refine ret1 E rfl rfl ?_
  exact given M

set_option maxRecDepth 100000 in
theorem Check_st {s : Smy} {v : Value} {w0 : World} (hs : s.Ok) (hr : Reads 35 w0 v s.es.length (ecs s.es)) (h : ¬ 16 < s.es.length) (h1 : ¬ (0 ≤ s.st ∧ s.st ≤ 1099511627776)) : Gives Try.prog 47 [.agg (s.cells v).toArray] w0 (.int .i64 7) := by
  refine enter (n := 55) Try.func47 rfl rfl rfl ?_
  intro fr E
  have M : Mem w0 (feet []) [] (fun w' => Reads 35 w' v s.es.length (ecs s.es)) w0 := Mem.begin (Has.nil w0) (fun w' h => Reads.held0 hr h)
  refine code_region ?_
  refine snew (ob := .cells ((s.cells v).toArray) 39) (fun g => .pointer (some ⟨g, 0, none⟩)) E M rfl rfl rfl rfl rfl (run_boxN (cs := ((s.cells v).toArray)) rfl rfl) fun g0 fr w M E => ?_
  refine sw E (run_assignC rfl) fun fr E => ?_
  refine seq_nil' ?_
  refine wp_scope_straight ?_
  refine wp_seq ?_
  refine wp_block ?_
  refine code_region ?_
  refine sw (v := .pointer (some ⟨_, 34, none⟩)) E (run_fieldAddr rfl rfl T.fld39_3) fun fr E => ?_
  refine sw E (run_loadB rfl rfl T.one37 (M.row (i := 0) rfl) (Smy.c_es hs)) fun fr E => ?_
  refine sw (v := .int .i64 _) E (run_lenR rfl rfl rfl rfl T.slice37 (M.fact)) fun fr E => ?_
  refine sw (v := .bool false) E (tst rfl (decide_eq_false (by omega))) fun fr E => ?_
  refine ma E fun fr E => ?_
  refine seq_nil' ?_
  refine cond_false E rfl (rfl) ?_
  refine code_region ?_
  refine sw (v := .pointer (some ⟨_, 0, none⟩)) E (run_fieldAddr rfl rfl T.fld39_0) fun fr E => ?_
  refine sw (v := .int .i64 s.st) E (run_loadB rfl rfl T.one3 (M.row (i := 0) rfl) Smy.c_st) fun fr E => ?_
  refine sgive E M rfl rfl rfl rfl rfl (run_call rfl rfl T.fn64) (bwithin_x (decide_eq_false h1)) fun fr w M E => ?_
  refine sw (v := .bool _) E (rfl) fun fr E => ?_
  refine mv E fun fr E => ?_
  refine sno E rfl rfl rfl rfl fun fr E => ?_
  refine sno E rfl rfl rfl rfl fun fr E => ?_
  refine sno E rfl rfl rfl rfl fun fr E => ?_
  refine sno E rfl rfl rfl rfl fun fr E => ?_
  refine sw (v := .bool _) E (rfl) fun fr E => ?_
  refine ma E fun fr E => ?_
  refine seq_nil' ?_
  refine cond_true E rfl (rfl) ?_
  refine code_region ?_
  refine sw E (run_assignC rfl) fun fr E => ?_
  refine seq_nil' ?_
  refine wp_ret ?_
  refine block_ret ?_
  refine then_ret ?_
  refine scope_ret ?_
  refine ret1 E rfl rfl ?_
  exact given M

set_option maxRecDepth 100000 in
theorem Check_next {s : Smy} {v : Value} {w0 : World} (hs : s.Ok) (hr : Reads 35 w0 v s.es.length (ecs s.es)) (h : ¬ 16 < s.es.length) (h1 : 0 ≤ s.st ∧ s.st ≤ 1099511627776) (h2 : ¬ (-1 ≤ s.next ∧ s.next ≤ 31)) : Gives Try.prog 47 [.agg (s.cells v).toArray] w0 (.int .i64 7) := by
  refine enter (n := 55) Try.func47 rfl rfl rfl ?_
  intro fr E
  have M : Mem w0 (feet []) [] (fun w' => Reads 35 w' v s.es.length (ecs s.es)) w0 := Mem.begin (Has.nil w0) (fun w' h => Reads.held0 hr h)
  refine code_region ?_
  refine snew (ob := .cells ((s.cells v).toArray) 39) (fun g => .pointer (some ⟨g, 0, none⟩)) E M rfl rfl rfl rfl rfl (run_boxN (cs := ((s.cells v).toArray)) rfl rfl) fun g0 fr w M E => ?_
  refine sw E (run_assignC rfl) fun fr E => ?_
  refine seq_nil' ?_
  refine wp_scope_straight ?_
  refine wp_seq ?_
  refine wp_block ?_
  refine code_region ?_
  refine sw (v := .pointer (some ⟨_, 34, none⟩)) E (run_fieldAddr rfl rfl T.fld39_3) fun fr E => ?_
  refine sw E (run_loadB rfl rfl T.one37 (M.row (i := 0) rfl) (Smy.c_es hs)) fun fr E => ?_
  refine sw (v := .int .i64 _) E (run_lenR rfl rfl rfl rfl T.slice37 (M.fact)) fun fr E => ?_
  refine sw (v := .bool false) E (tst rfl (decide_eq_false (by omega))) fun fr E => ?_
  refine ma E fun fr E => ?_
  refine seq_nil' ?_
  refine cond_false E rfl (rfl) ?_
  refine code_region ?_
  refine sw (v := .pointer (some ⟨_, 0, none⟩)) E (run_fieldAddr rfl rfl T.fld39_0) fun fr E => ?_
  refine sw (v := .int .i64 s.st) E (run_loadB rfl rfl T.one3 (M.row (i := 0) rfl) Smy.c_st) fun fr E => ?_
  refine sgive E M rfl rfl rfl rfl rfl (run_call rfl rfl T.fn64) (bwithin_x (decide_eq_true h1)) fun fr w M E => ?_
  refine sw (v := .bool _) E (rfl) fun fr E => ?_
  refine mv E fun fr E => ?_
  refine sw (v := .pointer (some ⟨_, 33, none⟩)) E (run_fieldAddr rfl rfl T.fld39_2) fun fr E => ?_
  refine sw (v := .int .i64 s.next) E (run_loadB rfl rfl T.one3 (M.row (i := 0) rfl) (Smy.c_next hs)) fun fr E => ?_
  refine sgive E M rfl rfl rfl rfl rfl (run_call rfl rfl T.fn64) (bwithin_x (decide_eq_false h2)) fun fr w M E => ?_
  refine sw (v := .bool _) E (rfl) fun fr E => ?_
  refine sw (v := .bool _) E (rfl) fun fr E => ?_
  refine ma E fun fr E => ?_
  refine seq_nil' ?_
  refine cond_true E rfl (rfl) ?_
  refine code_region ?_
  refine sw E (run_assignC rfl) fun fr E => ?_
  refine seq_nil' ?_
  refine wp_ret ?_
  refine block_ret ?_
  refine then_ret ?_
  refine scope_ret ?_
  refine ret1 E rfl rfl ?_
  exact given M

set_option maxRecDepth 100000 in
theorem Check_in {s : Smy} {v : Value} {w0 : World} (hs : s.Ok) (hr : Reads 35 w0 v s.es.length (ecs s.es)) (h : ¬ 16 < s.es.length) (h1 : 0 ≤ s.st ∧ s.st ≤ 1099511627776) (h2 : -1 ≤ s.next ∧ s.next ≤ 31) : Gives Try.prog 47 [.agg (s.cells v).toArray] w0 (.int .i64 (checkE (-1) s.es)) := by
  refine enter (n := 55) Try.func47 rfl rfl rfl ?_
  intro fr E
  have M : Mem w0 (feet []) [] (fun w' => Reads 35 w' v s.es.length (ecs s.es)) w0 := Mem.begin (Has.nil w0) (fun w' h => Reads.held0 hr h)
  refine code_region ?_
  refine snew (ob := .cells ((s.cells v).toArray) 39) (fun g => .pointer (some ⟨g, 0, none⟩)) E M rfl rfl rfl rfl rfl (run_boxN (cs := ((s.cells v).toArray)) rfl rfl) fun g0 fr w M E => ?_
  refine sw E (run_assignC rfl) fun fr E => ?_
  refine seq_nil' ?_
  refine wp_scope_straight ?_
  refine wp_seq ?_
  refine wp_block ?_
  refine code_region ?_
  refine sw (v := .pointer (some ⟨_, 34, none⟩)) E (run_fieldAddr rfl rfl T.fld39_3) fun fr E => ?_
  refine sw E (run_loadB rfl rfl T.one37 (M.row (i := 0) rfl) (Smy.c_es hs)) fun fr E => ?_
  refine sw (v := .int .i64 _) E (run_lenR rfl rfl rfl rfl T.slice37 (M.fact)) fun fr E => ?_
  refine sw (v := .bool false) E (tst rfl (decide_eq_false (by omega))) fun fr E => ?_
  refine ma E fun fr E => ?_
  refine seq_nil' ?_
  refine cond_false E rfl (rfl) ?_
  refine code_region ?_
  refine sw (v := .pointer (some ⟨_, 0, none⟩)) E (run_fieldAddr rfl rfl T.fld39_0) fun fr E => ?_
  refine sw (v := .int .i64 s.st) E (run_loadB rfl rfl T.one3 (M.row (i := 0) rfl) Smy.c_st) fun fr E => ?_
  refine sgive E M rfl rfl rfl rfl rfl (run_call rfl rfl T.fn64) (bwithin_x (decide_eq_true h1)) fun fr w M E => ?_
  refine sw (v := .bool _) E (rfl) fun fr E => ?_
  refine mv E fun fr E => ?_
  refine sw (v := .pointer (some ⟨_, 33, none⟩)) E (run_fieldAddr rfl rfl T.fld39_2) fun fr E => ?_
  refine sw (v := .int .i64 s.next) E (run_loadB rfl rfl T.one3 (M.row (i := 0) rfl) (Smy.c_next hs)) fun fr E => ?_
  refine sgive E M rfl rfl rfl rfl rfl (run_call rfl rfl T.fn64) (bwithin_x (decide_eq_true h2)) fun fr w M E => ?_
  refine sw (v := .bool _) E (rfl) fun fr E => ?_
  refine sw (v := .bool _) E (rfl) fun fr E => ?_
  refine ma E fun fr E => ?_
  refine seq_nil' ?_
  refine cond_false E rfl (rfl) ?_
  refine wp_skip ?_
  refine block_normal ?_
  refine then_normal ?_
  refine code_region ?_
  refine sw E (run_assignC rfl) fun fr E => ?_
  refine seq_nil' ?_
  refine wp_seq ?_
  refine wp_label ?_
  refine then_normal ?_
  refine wp_seq ?_
  refine code_region ?_
  refine sw (v := .pointer (some ⟨_, 34, none⟩)) E (run_fieldAddr rfl rfl T.fld39_3) fun fr E => ?_
  refine sw E (run_loadB rfl rfl T.one37 (M.row (i := 0) rfl) (Smy.c_es hs)) fun fr E => ?_
  refine sw (v := .int .i64 _) E (run_lenR rfl rfl rfl rfl T.slice37 (M.fact)) fun fr E => ?_
  refine sw E (run_moveC rfl) fun fr E => ?_
  refine seq_nil' ?_
  refine wp_block ?_
  refine loop_dec (fun d fr w => ∃ (i : Nat) (last : Int), d = s.es.length - i ∧ i ≤ s.es.length ∧ -1 ≤ last ∧ last ≤ 63 ∧ checkE (-1) s.es = checkE last (s.es.drop i) ∧ Env [(25, .int .i64 (i : Int)), (24, .int .i64 (s.es.length : Int)), (23, v), (3, .int .i64 last)] 55 fr ∧ Mem w0 (feet []) [] (fun w' => Reads 35 w' v s.es.length (ecs s.es)) w) (s.es.length) ?_ ?_
  · exact ⟨0, -1, rfl, Nat.zero_le _, by decide, by decide, rfl, ((((Env.nil E).add E (t := 3) rfl).add E (t := 23) rfl).add E (t := 24) rfl).add E (t := 25) rfl, Mem.take (L := []) M⟩
  · clear E M
    rintro d fr w ⟨i, last, rfl, hle, hl1, hl2, hck, E, M⟩
    by_cases hi : i < s.es.length
    · have he := hs.2.get hi
      have hdr := List.drop_eq_getElem_cons hi
      by_cases h1 : 1 ≤ (s.es[i]).k ∧ (s.es[i]).k ≤ 3
      · by_cases h2 : PlacedE (s.es[i])
        · have hp := h2.2.1
          by_cases h3 : (s.es[i]).k = 2
          · refine code_region ?_
            refine sw (v := .bool true) E (tst rfl (decide_eq_true (by omega))) fun fr E => ?_
            refine seq_nil' ?_
            refine wp_seq ?_
            refine cond_true E rfl (rfl) ?_
            refine wp_skip ?_
            refine then_normal ?_
            refine wp_seq ?_
            refine wp_block ?_
            refine code_region ?_
            refine sw (v := cellAt v (i * 35)) E (run_indexR (i := i) rfl (M.fact) rfl rfl (rfl) (hi) T.slice37 T.size83) fun fr E => ?_
            refine sw (v := .agg (s.es[i]).cells.toArray) E (run_loadRN (k := i * 35) rfl (M.fact) rfl T.agg83 (by omega) (by decide) (ecs_get hs.2 hi)) fun fr E => ?_
            refine snew (ob := .cells _ 83) (fun g => .pointer (some ⟨g, 0, none⟩)) E M rfl rfl rfl rfl rfl (run_allocN rfl T.zero83) fun g1 fr w M E => ?_
            refine sset (i := 0) (cs' := (s.es[i]).cells.toArray) E M rfl rfl rfl rfl rfl (run_storeAll (vs := (s.es[i]).cells.toArray) rfl rfl rfl T.size83 (Ety.size he) (M.row (i := 0) rfl) rfl (fun u hu => Ety.ones _ u (by simpa using hu))) rfl fun fr w M E => ?_
            refine seq_nil' ?_
            refine wp_seq ?_
            refine wp_block ?_
            refine code_region ?_
            refine sw (v := .pointer (some ⟨_, 0, none⟩)) E (run_fieldAddr rfl rfl T.fld83_0) fun fr E => ?_
            refine sw (v := .int .i64 (s.es[i]).k) E (run_loadB rfl rfl T.one3 (M.row (i := 0) rfl) Ety.c_k) fun fr E => ?_
            refine sgive E M rfl rfl rfl rfl rfl (run_call rfl rfl T.fn64) (bwithin_x (decide_eq_true h1)) fun fr w M E => ?_
            refine sw (v := .bool _) E (rfl) fun fr E => ?_
            refine ma E fun fr E => ?_
            refine seq_nil' ?_
            refine cond_false E rfl (rfl) ?_
            refine code_region ?_
            refine sw (v := .agg (s.es[i]).cells.toArray) E (run_loadAll rfl rfl T.agg83 (M.row (i := 0) rfl) (Ety.size he)) fun fr E => ?_
            refine sgive E M rfl rfl rfl rfl rfl (run_call rfl rfl T.fn65) (bplaced_x he (decide_eq_true h2)) fun fr w M E => ?_
            refine sw (v := .bool _) E (rfl) fun fr E => ?_
            refine ma E fun fr E => ?_
            refine seq_nil' ?_
            refine cond_false E rfl (rfl) ?_
            refine code_region ?_
            refine sw (v := .pointer (some ⟨_, 0, none⟩)) E (run_fieldAddr rfl rfl T.fld83_0) fun fr E => ?_
            refine sw (v := .int .i64 (s.es[i]).k) E (run_loadB rfl rfl T.one3 (M.row (i := 0) rfl) Ety.c_k) fun fr E => ?_
            refine sw (v := .bool true) E (tst rfl (decide_eq_true h3)) fun fr E => ?_
            refine ma E fun fr E => ?_
            refine seq_nil' ?_
            refine cond_true E rfl (rfl) ?_
            refine wp_exit ?_
            refine block_other rfl ?_
            refine then_exit ?_
            refine block_exit ?_
            refine then_normal ?_
            refine code_last ?_
            refine sw (v := .int _ (((i + 1 : Nat) : Int))) E (num rfl ((i64_id (by omega) (by omega)).trans (by omega))) fun fr E => ?_
            refine mv E fun fr E => ?_
            refine seq_nil ?_
            refine then_any ?_
            exact ⟨s.es.length - (i + 1), by omega, i + 1, last, rfl, by omega, by omega, by omega, by rw [hck, hdr, checkE_trim h1 h2 h3], ((((Env.nil E).add E (t := 3) rfl).add E (t := 23) rfl).add E (t := 24) rfl).add E (t := 25) rfl, Mem.take (L := []) M⟩
          · by_cases h4 : 0 ≤ last
            · by_cases h5 : (s.es[i]).s = last + 1
              · refine code_region ?_
                refine sw (v := .bool true) E (tst rfl (decide_eq_true (by omega))) fun fr E => ?_
                refine seq_nil' ?_
                refine wp_seq ?_
                refine cond_true E rfl (rfl) ?_
                refine wp_skip ?_
                refine then_normal ?_
                refine wp_seq ?_
                refine wp_block ?_
                refine code_region ?_
                refine sw (v := cellAt v (i * 35)) E (run_indexR (i := i) rfl (M.fact) rfl rfl (rfl) (hi) T.slice37 T.size83) fun fr E => ?_
                refine sw (v := .agg (s.es[i]).cells.toArray) E (run_loadRN (k := i * 35) rfl (M.fact) rfl T.agg83 (by omega) (by decide) (ecs_get hs.2 hi)) fun fr E => ?_
                refine snew (ob := .cells _ 83) (fun g => .pointer (some ⟨g, 0, none⟩)) E M rfl rfl rfl rfl rfl (run_allocN rfl T.zero83) fun g1 fr w M E => ?_
                refine sset (i := 0) (cs' := (s.es[i]).cells.toArray) E M rfl rfl rfl rfl rfl (run_storeAll (vs := (s.es[i]).cells.toArray) rfl rfl rfl T.size83 (Ety.size he) (M.row (i := 0) rfl) rfl (fun u hu => Ety.ones _ u (by simpa using hu))) rfl fun fr w M E => ?_
                refine seq_nil' ?_
                refine wp_seq ?_
                refine wp_block ?_
                refine code_region ?_
                refine sw (v := .pointer (some ⟨_, 0, none⟩)) E (run_fieldAddr rfl rfl T.fld83_0) fun fr E => ?_
                refine sw (v := .int .i64 (s.es[i]).k) E (run_loadB rfl rfl T.one3 (M.row (i := 0) rfl) Ety.c_k) fun fr E => ?_
                refine sgive E M rfl rfl rfl rfl rfl (run_call rfl rfl T.fn64) (bwithin_x (decide_eq_true h1)) fun fr w M E => ?_
                refine sw (v := .bool _) E (rfl) fun fr E => ?_
                refine ma E fun fr E => ?_
                refine seq_nil' ?_
                refine cond_false E rfl (rfl) ?_
                refine code_region ?_
                refine sw (v := .agg (s.es[i]).cells.toArray) E (run_loadAll rfl rfl T.agg83 (M.row (i := 0) rfl) (Ety.size he)) fun fr E => ?_
                refine sgive E M rfl rfl rfl rfl rfl (run_call rfl rfl T.fn65) (bplaced_x he (decide_eq_true h2)) fun fr w M E => ?_
                refine sw (v := .bool _) E (rfl) fun fr E => ?_
                refine ma E fun fr E => ?_
                refine seq_nil' ?_
                refine cond_false E rfl (rfl) ?_
                refine code_region ?_
                refine sw (v := .pointer (some ⟨_, 0, none⟩)) E (run_fieldAddr rfl rfl T.fld83_0) fun fr E => ?_
                refine sw (v := .int .i64 (s.es[i]).k) E (run_loadB rfl rfl T.one3 (M.row (i := 0) rfl) Ety.c_k) fun fr E => ?_
                refine sw (v := .bool false) E (tst rfl (decide_eq_false h3)) fun fr E => ?_
                refine ma E fun fr E => ?_
                refine seq_nil' ?_
                refine cond_false E rfl (rfl) ?_
                refine code_region ?_
                refine mv E fun fr E => ?_
                refine sw (v := .bool true) E (tst rfl (decide_eq_true (by omega))) fun fr E => ?_
                refine mv E fun fr E => ?_
                refine sw (v := .pointer (some ⟨_, 2, none⟩)) E (run_fieldAddr rfl rfl T.fld83_2) fun fr E => ?_
                refine sw (v := .int .i64 (s.es[i]).s) E (run_loadB rfl rfl T.one3 (M.row (i := 0) rfl) Ety.c_s) fun fr E => ?_
                refine mv E fun fr E => ?_
                refine sw (v := .int _ (last + 1)) E (num rfl (i64_id (by omega) (by omega))) fun fr E => ?_
                refine sw (v := .bool false) E (tst rfl (bneFB h5)) fun fr E => ?_
                refine sw (v := .bool _) E (rfl) fun fr E => ?_
                refine ma E fun fr E => ?_
                refine seq_nil' ?_
                refine cond_false E rfl (rfl) ?_
                refine wp_skip ?_
                refine block_normal ?_
                refine then_normal ?_
                refine code_last ?_
                refine sw (v := .pointer (some ⟨_, 2, none⟩)) E (run_fieldAddr rfl rfl T.fld83_2) fun fr E => ?_
                refine sw (v := .int .i64 (s.es[i]).s) E (run_loadB rfl rfl T.one3 (M.row (i := 0) rfl) Ety.c_s) fun fr E => ?_
                refine ma E fun fr E => ?_
                refine seq_nil ?_
                refine block_normal ?_
                refine then_normal ?_
                refine code_last ?_
                refine sw (v := .int _ (((i + 1 : Nat) : Int))) E (num rfl ((i64_id (by omega) (by omega)).trans (by omega))) fun fr E => ?_
                refine mv E fun fr E => ?_
                refine seq_nil ?_
                refine then_any ?_
                exact ⟨s.es.length - (i + 1), by omega, i + 1, (s.es[i]).s, rfl, by omega, by omega, by omega, by rw [hck, hdr, checkE_go h1 h2 h3 (fun c => c.2 h5)], ((((Env.nil E).add E (t := 3) rfl).add E (t := 23) rfl).add E (t := 24) rfl).add E (t := 25) rfl, Mem.take (L := []) M⟩
              · refine code_region ?_
                refine sw (v := .bool true) E (tst rfl (decide_eq_true (by omega))) fun fr E => ?_
                refine seq_nil' ?_
                refine wp_seq ?_
                refine cond_true E rfl (rfl) ?_
                refine wp_skip ?_
                refine then_normal ?_
                refine wp_seq ?_
                refine wp_block ?_
                refine code_region ?_
                refine sw (v := cellAt v (i * 35)) E (run_indexR (i := i) rfl (M.fact) rfl rfl (rfl) (hi) T.slice37 T.size83) fun fr E => ?_
                refine sw (v := .agg (s.es[i]).cells.toArray) E (run_loadRN (k := i * 35) rfl (M.fact) rfl T.agg83 (by omega) (by decide) (ecs_get hs.2 hi)) fun fr E => ?_
                refine snew (ob := .cells _ 83) (fun g => .pointer (some ⟨g, 0, none⟩)) E M rfl rfl rfl rfl rfl (run_allocN rfl T.zero83) fun g1 fr w M E => ?_
                refine sset (i := 0) (cs' := (s.es[i]).cells.toArray) E M rfl rfl rfl rfl rfl (run_storeAll (vs := (s.es[i]).cells.toArray) rfl rfl rfl T.size83 (Ety.size he) (M.row (i := 0) rfl) rfl (fun u hu => Ety.ones _ u (by simpa using hu))) rfl fun fr w M E => ?_
                refine seq_nil' ?_
                refine wp_seq ?_
                refine wp_block ?_
                refine code_region ?_
                refine sw (v := .pointer (some ⟨_, 0, none⟩)) E (run_fieldAddr rfl rfl T.fld83_0) fun fr E => ?_
                refine sw (v := .int .i64 (s.es[i]).k) E (run_loadB rfl rfl T.one3 (M.row (i := 0) rfl) Ety.c_k) fun fr E => ?_
                refine sgive E M rfl rfl rfl rfl rfl (run_call rfl rfl T.fn64) (bwithin_x (decide_eq_true h1)) fun fr w M E => ?_
                refine sw (v := .bool _) E (rfl) fun fr E => ?_
                refine ma E fun fr E => ?_
                refine seq_nil' ?_
                refine cond_false E rfl (rfl) ?_
                refine code_region ?_
                refine sw (v := .agg (s.es[i]).cells.toArray) E (run_loadAll rfl rfl T.agg83 (M.row (i := 0) rfl) (Ety.size he)) fun fr E => ?_
                refine sgive E M rfl rfl rfl rfl rfl (run_call rfl rfl T.fn65) (bplaced_x he (decide_eq_true h2)) fun fr w M E => ?_
                refine sw (v := .bool _) E (rfl) fun fr E => ?_
                refine ma E fun fr E => ?_
                refine seq_nil' ?_
                refine cond_false E rfl (rfl) ?_
                refine code_region ?_
                refine sw (v := .pointer (some ⟨_, 0, none⟩)) E (run_fieldAddr rfl rfl T.fld83_0) fun fr E => ?_
                refine sw (v := .int .i64 (s.es[i]).k) E (run_loadB rfl rfl T.one3 (M.row (i := 0) rfl) Ety.c_k) fun fr E => ?_
                refine sw (v := .bool false) E (tst rfl (decide_eq_false h3)) fun fr E => ?_
                refine ma E fun fr E => ?_
                refine seq_nil' ?_
                refine cond_false E rfl (rfl) ?_
                refine code_region ?_
                refine mv E fun fr E => ?_
                refine sw (v := .bool true) E (tst rfl (decide_eq_true (by omega))) fun fr E => ?_
                refine mv E fun fr E => ?_
                refine sw (v := .pointer (some ⟨_, 2, none⟩)) E (run_fieldAddr rfl rfl T.fld83_2) fun fr E => ?_
                refine sw (v := .int .i64 (s.es[i]).s) E (run_loadB rfl rfl T.one3 (M.row (i := 0) rfl) Ety.c_s) fun fr E => ?_
                refine mv E fun fr E => ?_
                refine sw (v := .int _ (last + 1)) E (num rfl (i64_id (by omega) (by omega))) fun fr E => ?_
                refine sw (v := .bool true) E (tst rfl (bneTB h5)) fun fr E => ?_
                refine sw (v := .bool _) E (rfl) fun fr E => ?_
                refine ma E fun fr E => ?_
                refine seq_nil' ?_
                refine cond_true E rfl (rfl) ?_
                refine code_region ?_
                refine sw E (run_assignC rfl) fun fr E => ?_
                refine seq_nil' ?_
                refine wp_ret ?_
                refine block_ret ?_
                refine then_ret ?_
                refine block_ret ?_
                refine then_ret ?_
                refine then_ret ?_
                refine block_ret ?_
                refine then_ret ?_
                refine scope_ret ?_
                refine ret1 E rfl rfl ?_
                rw [hck, hdr, checkE_order h1 h2 h3 ⟨h4, h5⟩]
                exact given M
            · refine code_region ?_
              refine sw (v := .bool true) E (tst rfl (decide_eq_true (by omega))) fun fr E => ?_
              refine seq_nil' ?_
              refine wp_seq ?_
              refine cond_true E rfl (rfl) ?_
              refine wp_skip ?_
              refine then_normal ?_
              refine wp_seq ?_
              refine wp_block ?_
              refine code_region ?_
              refine sw (v := cellAt v (i * 35)) E (run_indexR (i := i) rfl (M.fact) rfl rfl (rfl) (hi) T.slice37 T.size83) fun fr E => ?_
              refine sw (v := .agg (s.es[i]).cells.toArray) E (run_loadRN (k := i * 35) rfl (M.fact) rfl T.agg83 (by omega) (by decide) (ecs_get hs.2 hi)) fun fr E => ?_
              refine snew (ob := .cells _ 83) (fun g => .pointer (some ⟨g, 0, none⟩)) E M rfl rfl rfl rfl rfl (run_allocN rfl T.zero83) fun g1 fr w M E => ?_
              refine sset (i := 0) (cs' := (s.es[i]).cells.toArray) E M rfl rfl rfl rfl rfl (run_storeAll (vs := (s.es[i]).cells.toArray) rfl rfl rfl T.size83 (Ety.size he) (M.row (i := 0) rfl) rfl (fun u hu => Ety.ones _ u (by simpa using hu))) rfl fun fr w M E => ?_
              refine seq_nil' ?_
              refine wp_seq ?_
              refine wp_block ?_
              refine code_region ?_
              refine sw (v := .pointer (some ⟨_, 0, none⟩)) E (run_fieldAddr rfl rfl T.fld83_0) fun fr E => ?_
              refine sw (v := .int .i64 (s.es[i]).k) E (run_loadB rfl rfl T.one3 (M.row (i := 0) rfl) Ety.c_k) fun fr E => ?_
              refine sgive E M rfl rfl rfl rfl rfl (run_call rfl rfl T.fn64) (bwithin_x (decide_eq_true h1)) fun fr w M E => ?_
              refine sw (v := .bool _) E (rfl) fun fr E => ?_
              refine ma E fun fr E => ?_
              refine seq_nil' ?_
              refine cond_false E rfl (rfl) ?_
              refine code_region ?_
              refine sw (v := .agg (s.es[i]).cells.toArray) E (run_loadAll rfl rfl T.agg83 (M.row (i := 0) rfl) (Ety.size he)) fun fr E => ?_
              refine sgive E M rfl rfl rfl rfl rfl (run_call rfl rfl T.fn65) (bplaced_x he (decide_eq_true h2)) fun fr w M E => ?_
              refine sw (v := .bool _) E (rfl) fun fr E => ?_
              refine ma E fun fr E => ?_
              refine seq_nil' ?_
              refine cond_false E rfl (rfl) ?_
              refine code_region ?_
              refine sw (v := .pointer (some ⟨_, 0, none⟩)) E (run_fieldAddr rfl rfl T.fld83_0) fun fr E => ?_
              refine sw (v := .int .i64 (s.es[i]).k) E (run_loadB rfl rfl T.one3 (M.row (i := 0) rfl) Ety.c_k) fun fr E => ?_
              refine sw (v := .bool false) E (tst rfl (decide_eq_false h3)) fun fr E => ?_
              refine ma E fun fr E => ?_
              refine seq_nil' ?_
              refine cond_false E rfl (rfl) ?_
              refine code_region ?_
              refine mv E fun fr E => ?_
              refine sw (v := .bool false) E (tst rfl (decide_eq_false (by omega))) fun fr E => ?_
              refine mv E fun fr E => ?_
              refine sno E rfl rfl rfl rfl fun fr E => ?_
              refine sno E rfl rfl rfl rfl fun fr E => ?_
              refine sno E rfl rfl rfl rfl fun fr E => ?_
              refine sno E rfl rfl rfl rfl fun fr E => ?_
              refine sno E rfl rfl rfl rfl fun fr E => ?_
              refine sw (v := .bool _) E (rfl) fun fr E => ?_
              refine ma E fun fr E => ?_
              refine seq_nil' ?_
              refine cond_false E rfl (rfl) ?_
              refine wp_skip ?_
              refine block_normal ?_
              refine then_normal ?_
              refine code_last ?_
              refine sw (v := .pointer (some ⟨_, 2, none⟩)) E (run_fieldAddr rfl rfl T.fld83_2) fun fr E => ?_
              refine sw (v := .int .i64 (s.es[i]).s) E (run_loadB rfl rfl T.one3 (M.row (i := 0) rfl) Ety.c_s) fun fr E => ?_
              refine ma E fun fr E => ?_
              refine seq_nil ?_
              refine block_normal ?_
              refine then_normal ?_
              refine code_last ?_
              refine sw (v := .int _ (((i + 1 : Nat) : Int))) E (num rfl ((i64_id (by omega) (by omega)).trans (by omega))) fun fr E => ?_
              refine mv E fun fr E => ?_
              refine seq_nil ?_
              refine then_any ?_
              exact ⟨s.es.length - (i + 1), by omega, i + 1, (s.es[i]).s, rfl, by omega, by omega, by omega, by rw [hck, hdr, checkE_go h1 h2 h3 (fun c => h4 c.1)], ((((Env.nil E).add E (t := 3) rfl).add E (t := 23) rfl).add E (t := 24) rfl).add E (t := 25) rfl, Mem.take (L := []) M⟩
        · refine code_region ?_
          refine sw (v := .bool true) E (tst rfl (decide_eq_true (by omega))) fun fr E => ?_
          refine seq_nil' ?_
          refine wp_seq ?_
          refine cond_true E rfl (rfl) ?_
          refine wp_skip ?_
          refine then_normal ?_
          refine wp_seq ?_
          refine wp_block ?_
          refine code_region ?_
          refine sw (v := cellAt v (i * 35)) E (run_indexR (i := i) rfl (M.fact) rfl rfl (rfl) (hi) T.slice37 T.size83) fun fr E => ?_
          refine sw (v := .agg (s.es[i]).cells.toArray) E (run_loadRN (k := i * 35) rfl (M.fact) rfl T.agg83 (by omega) (by decide) (ecs_get hs.2 hi)) fun fr E => ?_
          refine snew (ob := .cells _ 83) (fun g => .pointer (some ⟨g, 0, none⟩)) E M rfl rfl rfl rfl rfl (run_allocN rfl T.zero83) fun g1 fr w M E => ?_
          refine sset (i := 0) (cs' := (s.es[i]).cells.toArray) E M rfl rfl rfl rfl rfl (run_storeAll (vs := (s.es[i]).cells.toArray) rfl rfl rfl T.size83 (Ety.size he) (M.row (i := 0) rfl) rfl (fun u hu => Ety.ones _ u (by simpa using hu))) rfl fun fr w M E => ?_
          refine seq_nil' ?_
          refine wp_seq ?_
          refine wp_block ?_
          refine code_region ?_
          refine sw (v := .pointer (some ⟨_, 0, none⟩)) E (run_fieldAddr rfl rfl T.fld83_0) fun fr E => ?_
          refine sw (v := .int .i64 (s.es[i]).k) E (run_loadB rfl rfl T.one3 (M.row (i := 0) rfl) Ety.c_k) fun fr E => ?_
          refine sgive E M rfl rfl rfl rfl rfl (run_call rfl rfl T.fn64) (bwithin_x (decide_eq_true h1)) fun fr w M E => ?_
          refine sw (v := .bool _) E (rfl) fun fr E => ?_
          refine ma E fun fr E => ?_
          refine seq_nil' ?_
          refine cond_false E rfl (rfl) ?_
          refine code_region ?_
          refine sw (v := .agg (s.es[i]).cells.toArray) E (run_loadAll rfl rfl T.agg83 (M.row (i := 0) rfl) (Ety.size he)) fun fr E => ?_
          refine sgive E M rfl rfl rfl rfl rfl (run_call rfl rfl T.fn65) (bplaced_x he (decide_eq_false h2)) fun fr w M E => ?_
          refine sw (v := .bool _) E (rfl) fun fr E => ?_
          refine ma E fun fr E => ?_
          refine seq_nil' ?_
          refine cond_true E rfl (rfl) ?_
          refine code_region ?_
          refine sw E (run_assignC rfl) fun fr E => ?_
          refine seq_nil' ?_
          refine wp_ret ?_
          refine block_ret ?_
          refine then_ret ?_
          refine block_ret ?_
          refine then_ret ?_
          refine then_ret ?_
          refine block_ret ?_
          refine then_ret ?_
          refine scope_ret ?_
          refine ret1 E rfl rfl ?_
          rw [hck, hdr, checkE_place h1 h2]
          exact given M
      · refine code_region ?_
        refine sw (v := .bool true) E (tst rfl (decide_eq_true (by omega))) fun fr E => ?_
        refine seq_nil' ?_
        refine wp_seq ?_
        refine cond_true E rfl (rfl) ?_
        refine wp_skip ?_
        refine then_normal ?_
        refine wp_seq ?_
        refine wp_block ?_
        refine code_region ?_
        refine sw (v := cellAt v (i * 35)) E (run_indexR (i := i) rfl (M.fact) rfl rfl (rfl) (hi) T.slice37 T.size83) fun fr E => ?_
        refine sw (v := .agg (s.es[i]).cells.toArray) E (run_loadRN (k := i * 35) rfl (M.fact) rfl T.agg83 (by omega) (by decide) (ecs_get hs.2 hi)) fun fr E => ?_
        refine snew (ob := .cells _ 83) (fun g => .pointer (some ⟨g, 0, none⟩)) E M rfl rfl rfl rfl rfl (run_allocN rfl T.zero83) fun g1 fr w M E => ?_
        refine sset (i := 0) (cs' := (s.es[i]).cells.toArray) E M rfl rfl rfl rfl rfl (run_storeAll (vs := (s.es[i]).cells.toArray) rfl rfl rfl T.size83 (Ety.size he) (M.row (i := 0) rfl) rfl (fun u hu => Ety.ones _ u (by simpa using hu))) rfl fun fr w M E => ?_
        refine seq_nil' ?_
        refine wp_seq ?_
        refine wp_block ?_
        refine code_region ?_
        refine sw (v := .pointer (some ⟨_, 0, none⟩)) E (run_fieldAddr rfl rfl T.fld83_0) fun fr E => ?_
        refine sw (v := .int .i64 (s.es[i]).k) E (run_loadB rfl rfl T.one3 (M.row (i := 0) rfl) Ety.c_k) fun fr E => ?_
        refine sgive E M rfl rfl rfl rfl rfl (run_call rfl rfl T.fn64) (bwithin_x (decide_eq_false h1)) fun fr w M E => ?_
        refine sw (v := .bool _) E (rfl) fun fr E => ?_
        refine ma E fun fr E => ?_
        refine seq_nil' ?_
        refine cond_true E rfl (rfl) ?_
        refine code_region ?_
        refine sw E (run_assignC rfl) fun fr E => ?_
        refine seq_nil' ?_
        refine wp_ret ?_
        refine block_ret ?_
        refine then_ret ?_
        refine block_ret ?_
        refine then_ret ?_
        refine then_ret ?_
        refine block_ret ?_
        refine then_ret ?_
        refine scope_ret ?_
        refine ret1 E rfl rfl ?_
        rw [hck, hdr, checkE_kind h1]
        exact given M
    · obtain rfl : i = s.es.length := by omega
      rw [List.drop_length] at hck
      refine code_region ?_
      refine sw (v := .bool false) E (tst rfl (decide_eq_false (by omega))) fun fr E => ?_
      refine seq_nil' ?_
      refine wp_seq ?_
      refine cond_false E rfl (rfl) ?_
      refine wp_exit ?_
      refine then_exit ?_
      refine then_exit ?_
      refine block_exit ?_
      refine then_normal ?_
      refine code_region ?_
      refine sw E (run_assignC rfl) fun fr E => ?_
      refine seq_nil' ?_
      refine wp_ret ?_
      refine scope_ret ?_
      refine ret1 E rfl rfl ?_
      rw [hck]
      exact given M

theorem bCheck_x {s : Smy} {v : Value} {w0 : World} (hs : s.Ok) (hr : Reads 35 w0 v s.es.length (ecs s.es)) : Gives Try.prog 47 [.agg (s.cells v).toArray] w0 (.int .i64 (checkS s)) := by
  unfold checkS
  by_cases h : 16 < s.es.length
  · rw [if_pos h]; exact Check_many hs hr h
  rw [if_neg h]
  by_cases h1 : 0 ≤ s.st ∧ s.st ≤ 1099511627776
  · by_cases h2 : -1 ≤ s.next ∧ s.next ≤ 31
    · rw [if_neg (fun c => c.elim (fun c => c h1) fun c => c h2)]; exact Check_in hs hr h h1 h2
    · rw [if_pos (.inr h2)]; exact Check_next hs hr h h1 h2
  · rw [if_pos (.inl h1)]; exact Check_st hs hr h h1
end Go.Proofs.Ytnebjbgcibjohaa.K
end
section
namespace Go.Proofs.Ytnebjbgcibjohaa.K
open Go.RowKit Go.Rill Go.Proofs
set_option linter.unusedVariables false
set_option linter.unusedSimpArgs false
/-- A summary's bytes: its head, and so many entries. -/
def accB (s : Smy) : Nat → List UInt8
  | 0 => [] ++ be8 s.st ++ s.prev ++ be8 s.next ++ be8 (s.es.length : Int)
  | i + 1 => match s.es[i]? with
    | some e => accB s i ++ be8 e.k ++ be8 e.b ++ be8 e.s ++ e.sum
    | none => accB s i
def smyB (s : Smy) : List UInt8 := accB s s.es.length
theorem accB_succ {s : Smy} {i : Nat} (h : i < s.es.length) : accB s (i + 1) = accB s i ++ be8 (s.es[i]).k ++ be8 (s.es[i]).b ++ be8 (s.es[i]).s ++ (s.es[i]).sum := by
  rw [accB, List.getElem?_eq_getElem h]
theorem accB_len {s : Smy} (hs : s.Ok) : ∀ {i : Nat}, i ≤ s.es.length → (accB s i).length = 56 + 56 * i
  | 0, _ => by simp [accB, be8_len, hs.1]
  | i + 1, h => by
    have he : (s.es[i]).sum.length = 32 := hs.2.get (Nat.lt_of_succ_le h)
    rw [accB_succ (Nat.lt_of_succ_le h)]
    simp only [List.length_append, be8_len, he, accB_len hs (Nat.le_of_succ_le h)]
    omega
set_option maxRecDepth 100000 in
theorem bPut_ok {s : Smy} {v : Value} {w0 : World} (hs : s.Ok) (hr : Reads 35 w0 v s.es.length (ecs s.es)) (hc : checkS s = 0) (h16 : s.es.length ≤ 16) : Does Try.prog 35 [.agg (s.cells v).toArray] w0 [] (fun r : Value => .tuple #[r, .int .i64 0]) (fun r => [.bytes 5 r (smyB s)]) (fun _ => True) := by
  refine enter (n := 48) Try.func35 rfl rfl rfl ?_
  intro fr E
  have M : Mem w0 (feet []) [] (fun w' => Reads 35 w' v s.es.length (ecs s.es)) w0 := Mem.begin (Has.nil w0) (fun w' h => Reads.held0 hr h)
  refine code_region ?_
  refine snew (ob := .cells ((s.cells v).toArray) 39) (fun g => .pointer (some ⟨g, 0, none⟩)) E M rfl rfl rfl rfl rfl (run_boxN (cs := ((s.cells v).toArray)) rfl rfl) fun g0 fr w M E => ?_
  refine sw E (run_assignC rfl) fun fr E => ?_
  refine sw E (run_assignC rfl) fun fr E => ?_
  refine seq_nil' ?_
  refine wp_seq ?_
  refine code_region ?_
  refine sw (v := .agg (s.cells v).toArray) E (run_loadAll rfl rfl T.agg39 (M.row (i := 0) rfl) (Smy.size hs)) fun fr E => ?_
  refine sgive E M rfl rfl rfl rfl rfl (run_call rfl rfl T.fn47) (bCheck_x hs M.fact) fun fr w M E => ?_
  refine ma E fun fr E => ?_
  refine seq_nil' ?_
  refine code_region ?_
  refine mv E fun fr E => ?_
  refine sw (v := .bool false) E (tst rfl (bneFB hc)) fun fr E => ?_
  refine seq_nil' ?_
  refine cond_false E rfl (rfl) ?_
  refine wp_skip ?_
  refine then_normal ?_
  refine wp_seq (free_reg (B := T.tab35_4_b) (Vs := (.exact (.pointer (some ⟨_, 0, none⟩)) :: .exact (.int .i64 s.st) :: CameV w.heap.size (fun v => [.bytes 5 v ([] ++ be8 s.st)]) (fun _ => True) :: .exact (.pointer (some ⟨_, 1, none⟩)) :: .exact (.agg (bc s.prev).toArray) :: CameV w.heap.size (fun v => [.bytes 5 v ([] ++ be8 s.st ++ s.prev)]) (fun _ => True) :: .exact (.pointer (some ⟨_, 33, none⟩)) :: .exact (.int .i64 s.next) :: CameV w.heap.size (fun v => [.bytes 5 v ([] ++ be8 s.st ++ s.prev ++ be8 s.next)]) (fun _ => True) :: .exact (.pointer (some ⟨_, 34, none⟩)) :: .exact (v) :: .exact (.int .i64 (s.es.length : Int)) :: CameV w.heap.size (fun v => [.bytes 5 v ([] ++ be8 s.st ++ s.prev ++ be8 s.next ++ be8 (s.es.length : Int))]) (fun _ => True) :: CameV w.heap.size (fun v => [.bytes 5 v ([] ++ be8 s.st ++ s.prev ++ be8 s.next ++ be8 (s.es.length : Int))]) (fun _ => True) :: [])) T.tab35_4_i E T.mixed T.tab35_4 rfl (AllS.lasts ⟨trivial, trivial, LastsS.cameV, trivial, trivial, LastsS.cameV, trivial, trivial, LastsS.cameV, trivial, trivial, trivial, LastsS.cameV, LastsS.cameV, trivial⟩) ⟨fv rfl rfl (fun x w hx hk => run_fieldAddr rfl rfl T.fld39_0),
      fv rfl rfl (fun x w hx hk => run_loadB rfl rfl T.one3 ((M.ext ((Ext.drew _).trans hx)).row (i := 0) rfl) Smy.c_st),
      fs_ext rfl rfl (fun x w hx hk => ⟨_, _, rfl, rfl, rfl, run_call rfl rfl T.fn48, (Int_x s.st (Bytes.nil _) (by simp)).extV hx.size⟩),
      fv rfl rfl (fun x w hx hk => run_fieldAddr rfl rfl T.fld39_1),
      fv rfl rfl (fun x w hx hk => run_loadN' (vs := (bc s.prev).toArray) rfl rfl T.agg28 ((M.ext ((Ext.drew _).trans hx)).row (i := 0) rfl) (by rw [Smy.size hs]; rfl) (congrArg List.toArray (Smy.m_prev hs))),
      fs_ext rfl rfl (fun x w hx hk => ⟨_, _, rfl, rfl, rfl, run_call rfl rfl T.fn49, (Sum_x ((hk 2 rfl).1.reads 0 rfl : Bytes _ _ ([] ++ be8 s.st)) hs.1 (by simp [be8, hs.1])).extV hx.size⟩),
      fv rfl rfl (fun x w hx hk => run_fieldAddr rfl rfl T.fld39_2),
      fv rfl rfl (fun x w hx hk => run_loadB rfl rfl T.one3 ((M.ext ((Ext.drew _).trans hx)).row (i := 0) rfl) (Smy.c_next hs)),
      fs_ext rfl rfl (fun x w hx hk => ⟨_, _, rfl, rfl, rfl, run_call rfl rfl T.fn48, (Int_x s.next ((hk 5 rfl).1.reads 0 rfl : Bytes _ _ ([] ++ be8 s.st ++ s.prev)) (by simp [be8, hs.1])).extV hx.size⟩),
      fv rfl rfl (fun x w hx hk => run_fieldAddr rfl rfl T.fld39_3),
      fv rfl rfl (fun x w hx hk => run_loadB rfl rfl T.one37 ((M.ext ((Ext.drew _).trans hx)).row (i := 0) rfl) (Smy.c_es hs)),
      fv rfl rfl (fun x w hx hk => run_lenR rfl rfl rfl rfl T.slice37 ((M.ext ((Ext.drew _).trans hx)).fact)),
      fs_ext rfl rfl (fun x w hx hk => ⟨_, _, rfl, rfl, rfl, run_call rfl rfl T.fn48, (Int_x (s.es.length : Int) ((hk 8 rfl).1.reads 0 rfl : Bytes _ _ ([] ++ be8 s.st ++ s.prev ++ be8 s.next)) (by simp [be8, hs.1])).extV hx.size⟩),
      fs_val rfl rfl (fun x w hx hk => ⟨_, _, rfl, rfl, rfl, run_assign rfl rfl, Ext.refl _, hk 12 rfl⟩), trivial⟩ ?_)
  intro x fr w hx hk E
  have M := M.adopts hx (hk 13 (by decide)).1 (hk 13 (by decide)).2.1
  refine then_normal ?_
  refine wp_seq ?_
  refine code_region ?_
  refine sw (v := .pointer (some ⟨_, 34, none⟩)) E (run_fieldAddr rfl rfl T.fld39_3) fun fr E => ?_
  refine sw E (run_loadB rfl rfl T.one37 (M.row (i := 1) rfl) (Smy.c_es hs)) fun fr E => ?_
  refine sw (v := .int .i64 _) E (run_lenR rfl rfl rfl rfl T.slice37 (M.fact)) fun fr E => ?_
  refine sw E (run_moveC rfl) fun fr E => ?_
  refine seq_nil' ?_
  refine wp_block ?_
  refine loop_dec (fun d fr w => ∃ (i : Nat) (bv : Value), d = s.es.length - i ∧ i ≤ s.es.length ∧ Env [(29, .int .i64 (i : Int)), (28, .int .i64 (s.es.length : Int)), (27, v), (5, bv)] 48 fr ∧ Mem w0 (feet []) [.bytes 5 bv (accB s i)] (fun w' => Reads 35 w' v s.es.length (ecs s.es)) w) (s.es.length) ?_ ?_
  · exact ⟨0, _, rfl, Nat.zero_le _, ((((Env.nil E).add E (t := 5) rfl).add E (t := 27) rfl).add E (t := 28) rfl).add E (t := 29) rfl, Mem.take (L := [.bytes 5 _ (accB s 0)]) M⟩
  · clear E M
    rintro d fr w ⟨i, bv, rfl, hle, E, M⟩
    by_cases hi : i < s.es.length
    · have he := hs.2.get hi
      have hal := accB_len hs (Nat.le_of_lt hi)
      refine code_region ?_
      refine sw (v := .bool true) E (tst rfl (decide_eq_true (by omega))) fun fr E => ?_
      refine seq_nil' ?_
      refine wp_seq ?_
      refine cond_true E rfl (rfl) ?_
      refine wp_skip ?_
      refine then_normal ?_
      refine wp_seq ?_
      refine wp_block ?_
      refine code_region ?_
      refine sw (v := cellAt v (i * 35)) E (run_indexR (i := i) rfl (M.fact) rfl rfl (rfl) (hi) T.slice37 T.size83) fun fr E => ?_
      refine sw (v := .agg (s.es[i]).cells.toArray) E (run_loadRN (k := i * 35) rfl (M.fact) rfl T.agg83 (by omega) (by decide) (ecs_get hs.2 hi)) fun fr E => ?_
      refine snew (ob := .cells _ 83) (fun g => .pointer (some ⟨g, 0, none⟩)) E M rfl rfl rfl rfl rfl (run_allocN rfl T.zero83) fun g1 fr w M E => ?_
      refine sset (i := 0) (cs' := (s.es[i]).cells.toArray) E M rfl rfl rfl rfl rfl (run_storeAll (vs := (s.es[i]).cells.toArray) rfl rfl rfl T.size83 (Ety.size he) (M.row (i := 0) rfl) rfl (fun u hu => Ety.ones _ u (by simpa using hu))) rfl fun fr w M E => ?_
      refine seq_nil' ?_
      refine (free_reg (B := T.tab35_8_b) (Vs := (.exact _ :: .exact (.pointer (some ⟨_, 0, none⟩)) :: .exact (.int .i64 (s.es[i]).k) :: CameV w.heap.size (fun v => [.bytes 5 v (accB s i ++ be8 (s.es[i]).k)]) (fun _ => True) :: .exact (.pointer (some ⟨_, 1, none⟩)) :: .exact (.int .i64 (s.es[i]).b) :: CameV w.heap.size (fun v => [.bytes 5 v (accB s i ++ be8 (s.es[i]).k ++ be8 (s.es[i]).b)]) (fun _ => True) :: .exact (.pointer (some ⟨_, 2, none⟩)) :: .exact (.int .i64 (s.es[i]).s) :: CameV w.heap.size (fun v => [.bytes 5 v (accB s i ++ be8 (s.es[i]).k ++ be8 (s.es[i]).b ++ be8 (s.es[i]).s)]) (fun _ => True) :: .exact (.pointer (some ⟨_, 3, none⟩)) :: .exact (.agg (bc (s.es[i]).sum).toArray) :: CameV w.heap.size (fun v => [.bytes 5 v (accB s i ++ be8 (s.es[i]).k ++ be8 (s.es[i]).b ++ be8 (s.es[i]).s ++ (s.es[i]).sum)]) (fun _ => True) :: CameV w.heap.size (fun v => [.bytes 5 v (accB s i ++ be8 (s.es[i]).k ++ be8 (s.es[i]).b ++ be8 (s.es[i]).s ++ (s.es[i]).sum)]) (fun _ => True) :: [])) T.tab35_8_i E T.mixed T.tab35_8 rfl (AllS.lasts ⟨trivial, trivial, trivial, LastsS.cameV, trivial, trivial, LastsS.cameV, trivial, trivial, LastsS.cameV, trivial, trivial, LastsS.cameV, LastsS.cameV, trivial⟩) ⟨fv rfl rfl (fun x w hx hk => run_move rfl rfl),
      fv rfl rfl (fun x w hx hk => run_fieldAddr rfl rfl T.fld83_0),
      fv rfl rfl (fun x w hx hk => run_loadB rfl rfl T.one3 ((M.ext ((Ext.drew _).trans hx)).row (i := 0) rfl) Ety.c_k),
      fs_ext rfl rfl (fun x w hx hk => ⟨_, _, rfl, rfl, rfl, run_call rfl rfl T.fn48, (Int_x (s.es[i]).k ((M.ext ((Ext.drew _).trans hx)).bytes 1 rfl) (by omega)).extV hx.size⟩),
      fv rfl rfl (fun x w hx hk => run_fieldAddr rfl rfl T.fld83_1),
      fv rfl rfl (fun x w hx hk => run_loadB rfl rfl T.one3 ((M.ext ((Ext.drew _).trans hx)).row (i := 0) rfl) Ety.c_b),
      fs_ext rfl rfl (fun x w hx hk => ⟨_, _, rfl, rfl, rfl, run_call rfl rfl T.fn48, (Int_x (s.es[i]).b ((hk 3 rfl).1.reads 0 rfl : Bytes _ _ (accB s i ++ be8 (s.es[i]).k)) (by simp [be8]; omega)).extV hx.size⟩),
      fv rfl rfl (fun x w hx hk => run_fieldAddr rfl rfl T.fld83_2),
      fv rfl rfl (fun x w hx hk => run_loadB rfl rfl T.one3 ((M.ext ((Ext.drew _).trans hx)).row (i := 0) rfl) Ety.c_s),
      fs_ext rfl rfl (fun x w hx hk => ⟨_, _, rfl, rfl, rfl, run_call rfl rfl T.fn48, (Int_x (s.es[i]).s ((hk 6 rfl).1.reads 0 rfl : Bytes _ _ (accB s i ++ be8 (s.es[i]).k ++ be8 (s.es[i]).b)) (by simp [be8]; omega)).extV hx.size⟩),
      fv rfl rfl (fun x w hx hk => run_fieldAddr rfl rfl T.fld83_3),
      fv rfl rfl (fun x w hx hk => run_loadN' (vs := (bc (s.es[i]).sum).toArray) rfl rfl T.agg28 ((M.ext ((Ext.drew _).trans hx)).row (i := 0) rfl) (by rw [Ety.size he]; rfl) (congrArg List.toArray (Ety.m_sum he))),
      fs_ext rfl rfl (fun x w hx hk => ⟨_, _, rfl, rfl, rfl, run_call rfl rfl T.fn49, (Sum_x ((hk 9 rfl).1.reads 0 rfl : Bytes _ _ (accB s i ++ be8 (s.es[i]).k ++ be8 (s.es[i]).b ++ be8 (s.es[i]).s)) he (by simp [be8]; omega)).extV hx.size⟩),
      fs_val rfl rfl (fun x w hx hk => ⟨_, _, rfl, rfl, rfl, run_assign rfl rfl, Ext.refl _, hk 12 rfl⟩), trivial⟩ ?_)
      intro x fr w hx hk E
      have M := M.adopts hx (hk 13 (by decide)).1 (hk 13 (by decide)).2.1
      refine block_normal ?_
      refine then_normal ?_
      refine code_last ?_
      refine sw (v := .int _ (((i + 1 : Nat) : Int))) E (num rfl ((i64_id (by omega) (by omega)).trans (by omega))) fun fr E => ?_
      refine mv E fun fr E => ?_
      refine seq_nil ?_
      refine then_any ?_
      exact ⟨s.es.length - (i + 1), by omega, i + 1, _, rfl, by omega, ((((Env.nil E).add E (t := 5) rfl).add E (t := 27) rfl).add E (t := 28) rfl).add E (t := 29) rfl, (Mem.take (L := [.bytes 5 _ (accB s i ++ be8 (s.es[i]).k ++ be8 (s.es[i]).b ++ be8 (s.es[i]).s ++ (s.es[i]).sum)]) M).as (by rw [accB_succ hi]; rfl)⟩
    · obtain rfl : i = s.es.length := by omega
      refine code_region ?_
      refine sw (v := .bool false) E (tst rfl (decide_eq_false (by omega))) fun fr E => ?_
      refine seq_nil' ?_
      refine wp_seq ?_
      refine cond_false E rfl (rfl) ?_
      refine wp_exit ?_
      refine then_exit ?_
      refine then_exit ?_
      refine block_exit ?_
      refine then_normal ?_
      refine code_region ?_
      refine mv E fun fr E => ?_
      refine ma E fun fr E => ?_
      refine sw E (run_assignC rfl) fun fr E => ?_
      refine seq_nil' ?_
      refine wp_ret ?_
      refine ret2 E rfl rfl rfl ?_
      exact ⟨bv, rfl, M.fin (sub1 (i := 0) rfl) trivial⟩
end Go.Proofs.Ytnebjbgcibjohaa.K
end
section
namespace Go.Proofs.Ytnebjbgcibjohaa.K
open Go.RowKit Go.Rill Go.Proofs
set_option linter.unusedVariables false
set_option linter.unusedSimpArgs false
set_option maxRecDepth 100000 in
theorem Bad_x {g : Nat} {rv : Value} {l : List UInt8} {bad : Bool} {w0 : World} (H : Has w0 (rdr g rv l bad)) : Gives Try.prog 58 [.pointer (some ⟨g, 0, none⟩)] w0 (.bool bad) := by
  refine enter (n := 7) Try.func58 rfl rfl rfl ?_
  intro fr E
  have M : Mem w0 (feet []) [] (fun w' => Has w' (rdr g rv l bad)) w0 := Mem.begin (Has.nil w0) (fun w' h => H.held h fun g hg c => feet_nil c)
  refine code_region ?_
  refine sw E (run_assignC rfl) fun fr E => ?_
  refine seq_nil' ?_
  refine code_region ?_
  refine mv E fun fr E => ?_
  refine sw E (run_nilCheck rfl rfl) fun fr E => ?_
  refine sw (v := .pointer (some ⟨_, 1, none⟩)) E (run_fieldAddr rfl rfl T.fld136_1) fun fr E => ?_
  refine sw (v := .bool _) E (run_loadB rfl rfl T.one4 (M.fact.ent 0 rfl) rfl) fun fr E => ?_
  refine ma E fun fr E => ?_
  refine seq_nil' ?_
  refine wp_ret ?_
  refine ret1 E rfl rfl ?_
  exact given M

set_option maxRecDepth 100000 in
theorem Left_x {g : Nat} {rv : Value} {l : List UInt8} {w0 : World} (H : Has w0 (rdr g rv l false)) : Gives Try.prog 57 [.pointer (some ⟨g, 0, none⟩)] w0 (.int .i64 (l.length : Int)) := by
  refine enter (n := 12) Try.func57 rfl rfl rfl ?_
  intro fr E
  have M : Mem w0 (feet []) [] (fun w' => Has w' (rdr g rv l false)) w0 := Mem.begin (Has.nil w0) (fun w' h => H.held h fun g hg c => feet_nil c)
  refine code_region ?_
  refine sw E (run_assignC rfl) fun fr E => ?_
  refine seq_nil' ?_
  refine wp_seq ?_
  refine code_region ?_
  refine mv E fun fr E => ?_
  refine sw E (run_nilCheck rfl rfl) fun fr E => ?_
  refine sw (v := .pointer (some ⟨_, 1, none⟩)) E (run_fieldAddr rfl rfl T.fld136_1) fun fr E => ?_
  refine sw (v := .bool _) E (run_loadB rfl rfl T.one4 (M.fact.ent 0 rfl) rfl) fun fr E => ?_
  refine seq_nil' ?_
  refine cond_false E rfl (rfl) ?_
  refine wp_skip ?_
  refine then_normal ?_
  refine code_region ?_
  refine mv E fun fr E => ?_
  refine sw E (run_nilCheck rfl rfl) fun fr E => ?_
  refine sw (v := .pointer (some ⟨_, 0, none⟩)) E (run_fieldAddr rfl rfl T.fld136_0) fun fr E => ?_
  refine sw E (run_loadB rfl rfl T.one54 (M.fact.ent 0 rfl) rfl) fun fr E => ?_
  refine sw (v := .int .i64 _) E (run_lenR rfl rfl rfl rfl T.slice54 (M.fact.ent 1 rfl : Bytes _ _ _)) fun fr E => ?_
  refine ma E fun fr E => ?_
  refine seq_nil' ?_
  refine wp_ret ?_
  refine ret1 E rfl rfl ?_
  exact given M

set_option maxRecDepth 100000 in
theorem rsmall_x {w0 : World} : Gives Try.prog 8 [] w0 (.agg #[.int .i64 20, .int .i64 32, .int .i64 4]) := by
  refine enter (n := 2) Try.func8 rfl rfl rfl ?_
  intro fr E
  have M : Mem w0 (feet []) [] (fun _ => True) w0 := Mem.begin (Has.nil w0) (fun _ _ => trivial)
  refine code_region ?_
  refine snew (ob := .cells #[_, _, _] 46) (fun g => .pointer (some ⟨g, 0, none⟩)) E M rfl rfl rfl rfl rfl (run_allocN rfl T.zero46) fun g0 fr w M E => ?_
  refine seq_nil' ?_
  refine code_region ?_
  refine sw (v := .agg ([_, _, _]).toArray) E (run_buildP (vs := [_, _, _]) (us := [_, _, _]) rfl rfl T.ts46 T.zeroL46 rfl rfl rfl rfl) fun fr E => ?_
  refine sset (i := 0) (cs' := #[.int .i64 20, .int .i64 32, .int .i64 4]) E M rfl rfl rfl rfl rfl (run_storeAll (vs := #[.int .i64 20, .int .i64 32, .int .i64 4]) rfl rfl rfl T.size46 (rfl) (M.row (i := 0) rfl) rfl (by simp [Value.oneCell'])) rfl fun fr w M E => ?_
  refine seq_nil' ?_
  refine wp_ret ?_
  refine retC E rfl rfl T.agg46 (M.row (i := 0) rfl) (rfl) ?_
  exact given M

/-- Entries' bytes. -/
def entB : List Ety → List UInt8
  | [] => []
  | e :: r => be8 e.k ++ (be8 e.b ++ (be8 e.s ++ (e.sum ++ entB r)))
theorem entB_app : ∀ (a : List Ety) (e : Ety), entB (a ++ [e]) = entB a ++ (be8 e.k ++ (be8 e.b ++ (be8 e.s ++ e.sum)))
  | [], e => by simp [entB]
  | x :: a, e => by simp [entB, entB_app a e]
theorem accB_eq (s : Smy) : ∀ {i : Nat}, i ≤ s.es.length → accB s i = be8 s.st ++ (s.prev ++ (be8 s.next ++ (be8 (s.es.length : Int) ++ entB (s.es.take i))))
  | 0, _ => by simp [accB, entB]
  | i + 1, h => by
    rw [accB_succ (Nat.lt_of_succ_le h), accB_eq s (Nat.le_of_succ_le h), List.take_succ_eq_append_getElem (Nat.lt_of_succ_le h), entB_app]
    simp only [List.append_assoc]
theorem smyB_eq (s : Smy) : smyB s = be8 s.st ++ (s.prev ++ (be8 s.next ++ (be8 (s.es.length : Int) ++ entB s.es))) := by
  unfold smyB
  rw [accB_eq s (Nat.le_refl _), List.take_length]
theorem entB_len : ∀ {l : List Ety}, EOk l → (entB l).length = 56 * l.length
  | [], _ => rfl
  | e :: r, h => by
    have h1 : e.sum.length = 32 := h e (List.mem_cons_self ..)
    have h2 := entB_len (l := r) fun x hx => h x (List.mem_cons_of_mem _ hx)
    simp only [entB, List.length_append, be8_len, h1, h2, List.length_cons]
    omega
theorem checkE_all : ∀ {l : List Ety} {last : Int}, checkE last l = 0 → ∀ e ∈ l, (1 ≤ e.k ∧ e.k ≤ 3) ∧ PlacedE e
  | [], _, _, e, he => nomatch he
  | x :: r, last, h, e, he => by
    by_cases h1 : 1 ≤ x.k ∧ x.k ≤ 3
    · by_cases h2 : PlacedE x
      · rcases List.mem_cons.1 he with rfl | he
        · exact ⟨h1, h2⟩
        · by_cases h3 : x.k = 2
          · rw [checkE_trim h1 h2 h3] at h
            exact checkE_all h e he
          · by_cases h4 : 0 ≤ last ∧ ¬ x.s = last + 1
            · rw [checkE_order h1 h2 h3 h4] at h; cases h
            · rw [checkE_go h1 h2 h3 h4] at h
              exact checkE_all h e he
      · rw [checkE_place h1 h2] at h; cases h
    · rw [checkE_kind h1] at h; cases h
theorem checkS_in {s : Smy} (h : checkS s = 0) : s.es.length ≤ 16 ∧ (0 ≤ s.st ∧ s.st ≤ 1099511627776) ∧ (-1 ≤ s.next ∧ s.next ≤ 31) ∧ checkE (-1) s.es = 0 := by
  unfold checkS at h
  split at h
  · cases h
  · split at h
    · cases h
    · rename_i h1 h2
      exact ⟨by omega, Decidable.not_not.1 fun c => h2 (.inl c), Decidable.not_not.1 fun c => h2 (.inr c), h⟩
theorem placed_in {e : Ety} (h : PlacedE e) : (0 ≤ e.b ∧ e.b ≤ 63) ∧ 0 ≤ e.s ∧ e.s ≤ 63 := by
  have h1 := h.1
  have h2 := h.2.1
  unfold mostE at h1
  split at h1 <;> omega
theorem Smy.set_es {s : Smy} (hs : s.Ok) (v u : Value) : (s.cells v).set 34 u = s.cells u := by
  unfold Smy.cells
  have e : (bc s.prev ++ [iv s.next, v]).set 33 u = bc s.prev ++ [iv s.next, u] := by
    rw [List.set_append_right _ _ (by simp [hs.1])]
    simp [hs.1]
  show iv s.st :: (bc s.prev ++ [iv s.next, v]).set 33 u = _
  rw [e]
end Go.Proofs.Ytnebjbgcibjohaa.K
end
section
namespace Go.Proofs.Ytnebjbgcibjohaa.K
open Go.RowKit Go.Rill Go.Proofs
set_option linter.unusedVariables false
set_option linter.unusedSimpArgs false
theorem rdInt_x {g : Nat} {rv : Value} {v : Int} {T : List UInt8} {w0 : World} (H : Has w0 (rdr g rv (be8 v ++ T) false)) (h0 : -9223372036854775808 ≤ v) (h1 : v ≤ 9223372036854775807) (hz : (be8 v ++ T).length ≤ 35184372088832) : Does Try.prog 53 [.pointer (some ⟨g, 0, none⟩)] w0 (rdr g rv (be8 v ++ T) false) (fun _ : Value => Value.int .i64 v) (fun x => rdr g x T false) (fun _ => True) := by
  have := Reader_Int_x H hz
  rw [rInt_app h0 h1, rNext_app (be8_len _)] at this
  exact this
theorem rdSum_x {g : Nat} {rv : Value} {t : List UInt8} {T : List UInt8} {w0 : World} (H : Has w0 (rdr g rv (t ++ T) false)) (ht : t.length = 32) (hz : (t ++ T).length ≤ 35184372088832) : Does Try.prog 56 [.pointer (some ⟨g, 0, none⟩)] w0 (rdr g rv (t ++ T) false) (fun _ : Value => Value.agg (bc t).toArray) (fun x => rdr g x T false) (fun _ => True) := by
  have := Reader_Sum_x H hz
  rw [rSum_app ht, rNext_app ht] at this
  exact this
theorem _root_.Go.Rill.Mem.nilRowF {w0 w : World} {O : Nat → Prop} {L : List Ent} {Φ : World → Prop} (M : Mem w0 O L Φ w) (e sz : Nat) : Mem w0 O (.row e sz (.slice none 0 0) 0 [] :: L) Φ w :=
  M.adopt (Ext.refl w) _ (World.ownsRow_nil w 0 e sz) fun g hg => by simp [Ent.row, Value.ownBlock] at hg
theorem lt_of_hasR {L : List Ent} {w : World} (H : Has w L) {g : Nat} (h : feet L g) : g < w.heap.size := by
  obtain ⟨e, he, hg⟩ := h
  exact H.lt e he g hg
/-- A reader in the midst of its bytes, and a slice beside it. -/
def RQ (g : Nat) (R : Ent) (I : List Ent) (w0 : World) (T : List UInt8) (w : World) : Prop := ∃ rv, Has w (rdr g rv T false ++ [R]) ∧ (∀ q, feet (rdr g rv T false ++ [R]) q → feet I q ∨ w0.heap.size ≤ q) ∧ Ch (feet I) w0 w
def RQs (g : Nat) (R : Ent) (I : List Ent) (w0 : World) (Ts : List (List UInt8)) (k : Nat) (w : World) : Prop := match Ts[k]? with
  | some T => RQ g R I w0 T w
  | none => Ch (feet I) w0 w
section
variable {g : Nat} {R : Ent} {I : List Ent} {w0 w w' : World} {T T' : List UInt8} {Ts : List (List UInt8)} {k : Nat}
theorem RQ.ext (h : RQ g R I w0 T w) (hx : Ext w w') : RQ g R I w0 T w' := by
  obtain ⟨rv, a, b, c⟩ := h
  exact ⟨rv, a.ext hx, b, c.trans (Ch.of_ext hx)⟩
theorem RQs.ch (h : RQs g R I w0 Ts k w) : Ch (feet I) w0 w := by
  unfold RQs at h
  split at h
  · exact h.choose_spec.2.2
  · exact h
theorem RQs.ext (h : RQs g R I w0 Ts k w) (hx : Ext w w') : RQs g R I w0 Ts k w' := by
  unfold RQs at h ⊢
  split
  · rename_i t ht
    rw [ht] at h
    exact h.ext hx
  · rename_i ht
    rw [ht] at h
    exact Ch.trans h (Ch.of_ext hx)
theorem rd_step {f : FuncId} {args : List Value} {P : Program} {val : Value} (hq : RQ g R I w0 T w) (C : ∀ rv, Has w (rdr g rv T false) → Does P f args w (rdr g rv T false) (fun _ : Value => val) (fun x => rdr g x T' false) (fun _ => True)) :
    Calls P f args.toArray w fun e w' => ∃ u, e = .returned u ∧ (RQ g R I w0 T' w' ∧ Ch (fun q => feet I q ∨ w0.heap.size ≤ q) w w') ∧ u = val := by
  obtain ⟨rv, H, hf, hc⟩ := hq
  refine (C rv (H.sub (List.sublist_append_left _ _))).mono fun e w' ⟨x, h1, h2, h3, h4, _⟩ => ⟨_, h1, ⟨⟨x, ((Mem.call (ins := rdr g rv T false) H.mem h2 h3 h4).has), fun q hq => ?_, ?_⟩, ?_⟩, rfl⟩
  · rcases feet_app.1 hq with h | h
    · rcases h4 q h with h | h
      · exact hf q (feet_app.2 (.inl h))
      · exact .inr (Nat.le_trans hc.held.size h)
    · exact hf q (feet_app.2 (.inr h))
  · exact ((hc.mono fun q _ h => Or.inl h : Ch (fun q => feet I q ∨ w0.heap.size ≤ q) w0 w).trans (h2.mono fun q _ h => hf q (feet_app.2 (.inl h)))).mono fun q hlt h => h.elim id fun c => absurd hlt (Nat.not_lt_of_le c)
  · exact h2.mono fun q _ h => hf q (feet_app.2 (.inl h))
theorem newR_row {B0 sz n : Nat} {xs : List Value} {N : Nat → Prop} (h1 : ∀ q, N q → q < B0) {v : Value} {F : Nat → Prop} (hF : ∀ q, F q → N q) (hc : Ch F w w') (h : Reads sz w v n xs ∧ ∀ g, v.ownBlock = some g → B0 ≤ g) : Reads sz w' v n xs ∧ ∀ g, v.ownBlock = some g → B0 ≤ g :=
  ⟨h.1.held hc.held fun g hg hgG => Nat.not_le_of_lt (h1 g (hF g hgG)) (h.2 g hg), h.2⟩
end
/-- The slice grows, behind all that was read. -/
theorem gc_app {P : Program} {X : Exit → Act → World → Prop} {l : List (Nat × Value)} {n : Nat} {w wb : World} {ops : Array Oper} {B : List Nat} {Vs : List Go.Rill.Spec} {i j g : Nat} {O : Nat → Prop} {I R0 : List Ent} {Φ : World → Prop} {cs : List Nat} {Q : Nat → World → Prop} {F : Nat → Nat → Prop} {T : List UInt8}
    {o : Oper} {t tx e e' : TypeId} {A C : Operand} {sz bytes k m : Nat} {ev : Value} {xs news : List Value} {args : List Operand} {ts : List TypeId} {y : (Nat → Value) → Value} (hB : chainNOk B cs = true) (ho : ops[i]? = some o) (hs : Vs[i]? = some (.rel fun w' v => RQ g (.row e sz v (k + m) (xs ++ news)) I w.drew T w')) (hj : cs[j]? = some i) (M : Mem wb O (I ++ R0) Φ w) (hK : ∀ k v, Q k v → Ch (feet I) w.drew v)
    (hop : o.op = .call { callee := .builtin .append, args := args.toArray, argTypes := ts.toArray }) (ha : args = [A, C]) (hts : ts = [t, tx]) (ht : tySlice P t e = true) (htx : tySlice P tx e' = true) (hz : tyZero P e sz = true) (hb : tyBytes' P e bytes = true) (hsz : 0 < sz) (h1 : ∀ u ∈ news, u.oneCell' = true) (hmax : (k + m) * (bytes + 1) ≤ 140737488355328)
    (q5 : ∀ v, Q j v → RQ g (.row e sz ev k xs) I w.drew T v) (q6 : ∀ v, Ch (feet I) w.drew v → Q (j + 1) v) (hF : F j = feet [.row e sz ev k xs])
    (h : ∀ (x : Nat → Value) (w' : World), (∀ j, waits B i j = true → knows Vs x w' j) → covers (envOf ops B l Vs x i) o = true ∧ guardIn ops (envOf ops B l Vs x i) o = true ∧ wantedL ops (envOf ops B l Vs x i) o = true ∧ evL (envOf ops B l Vs x i) A = ev ∧ evL (envOf ops B l Vs x i) C = y x ∧ Reads sz w' (y x) m news) : FStepR P ops B l n Vs (chainN cs Q F) X i :=
  gc_own hB ho hs hj M hK fun x w' M' hQ hk => by
    obtain ⟨c1, c2, c3, c4, c5, c6⟩ := h x w' hk
    obtain ⟨rv, H, hf, hc⟩ := q5 _ hQ
    obtain ⟨v', w'', r1, r2, r3, r4⟩ := run_appendR (P := P) hop ha hts c4 c5 ht htx hz hb hsz (H.ent 2 rfl) c6 h1 hmax
    have hch : Ch (feet [.row e sz ev k xs]) w' w'' := ⟨r3.os, r3.tape, r3.output, ⟨r3.size, fun q hq hn => r3.block q hq (fun he => hn (feet_one.2 (by simp [Ent.row, ← he])))⟩⟩
    have hin : ∀ q, feet [.row e sz ev k xs] q → feet I q ∨ w.drew.heap.size ≤ q := fun q hq => hf q (feet_app.2 (.inr hq))
    have hch2 : Ch (feet I) w.drew w'' := ((hc.mono fun q _ h => Or.inl h : Ch (fun q => feet I q ∨ w.drew.heap.size ≤ q) w.drew w').trans (hch.mono fun q _ h => hin q h)).mono fun q hlt h => h.elim id fun c => absurd hlt (Nat.not_lt_of_le c)
    have hnew : ∀ q, feet [.row e sz v' (k + m) (xs ++ news)] q → feet [.row e sz ev k xs] q ∨ w'.heap.size ≤ q := fun q hq => by
      have hg' : v'.ownBlock = some q := by simpa [Ent.row, feet_one] using hq
      exact (r4 q hg').imp (fun h => feet_one.2 (by simp [Ent.row, h])) id
    have hrow : Has w'' [.row e sz v' (k + m) (xs ++ news)] := ⟨fun x hx => by simp at hx; subst hx; exact r2, fun x hx q hq => by
      simp at hx
      subst hx
      have hg' : v'.ownBlock = some q := by simpa [Ent.row] using hq
      rcases r2.2 with ⟨rfl, _⟩ | ⟨g2, cap, cur, rfl, _, h6, _⟩
      · simp [Value.ownBlock] at hg'
      · simp [Value.ownBlock] at hg'
        subst hg'
        exact (Array.getElem?_eq_some_iff.1 h6).1, List.pairwise_singleton _ _⟩
    have M1 : Mem w' _ ([.row e sz ev k xs] ++ rdr g rv T false) _ w' := H.mem.pull 2 rfl
    have M2 := (((M1.call hch hrow hnew).pull 2 rfl).pull 2 rfl).has
    refine ⟨v', w'', c1, c2, c3, r1, ⟨q6 _ hch2, hF ▸ hch⟩, rv, M2, fun q hq => ?_, hch2⟩
    rcases feet_app.1 hq with h | h
    · exact hf q (feet_app.2 (.inl h))
    · rcases hnew q h with h | h
      · exact hin q h
      · exact .inr (Nat.le_trans hc.held.size h)
set_option maxHeartbeats 1000000 in
set_option maxRecDepth 100000 in
theorem bGet_ok {b : Value} {s : Smy} {w0 : World} (hb : Bytes w0 b (smyB s)) (hs : s.Ok) (hc : checkS s = 0) : Does Try.prog 39 [b] w0 [] (fun v : Value => .tuple #[.agg (s.cells v).toArray, .int .i64 0]) (fun v => [(.row 83 35 v s.es.length (ecs s.es) : Ent)]) (fun _ => True) := by
  refine enter (n := 65) Try.func39 rfl rfl rfl ?_
  intro fr E
  obtain ⟨h16, hst, hnx, hce⟩ := checkS_in hc
  have hall := checkE_all hce
  have hel := entB_len hs.2
  rw [smyB_eq] at hb
  have M : Mem w0 (feet []) [] (fun w' => Bytes w' b (be8 s.st ++ (s.prev ++ (be8 s.next ++ (be8 (s.es.length : Int) ++ entB s.es))))) w0 := Mem.begin (Has.nil w0) (fun w' h => hb.held0 h)
  refine code_region ?_
  refine snew (ob := .cells _ 39) (fun g => .pointer (some ⟨g, 0, none⟩)) E M rfl rfl rfl rfl rfl (run_allocN rfl T.zero39) fun g0 fr w M E => ?_
  refine sw E (run_assignC rfl) fun fr E => ?_
  refine seq_nil' ?_
  refine code_region ?_
  refine mv E fun fr E => ?_
  refine scall E M rfl rfl rfl rfl rfl (run_call rfl rfl T.fn52) (Read_x (l := (be8 s.st ++ (s.prev ++ (be8 s.next ++ (be8 (s.es.length : Int) ++ entB s.es))))) M.fact (by simp [be8_len, hs.1, hel]; omega)) rfl ?_
  rintro ⟨g, rv0⟩ fr w - M E
  refine ma E fun fr E => ?_
  refine seq_nil' ?_
  refine code_region ?_
  refine mv E fun fr E => ?_
  refine scallI (rdr g rv0 (be8 s.st ++ (s.prev ++ (be8 s.next ++ (be8 (s.es.length : Int) ++ entB s.es)))) false) E M rfl rfl rfl rfl rfl (run_call rfl rfl T.fn53) rfl (fun H => rdInt_x H (by omega) (by omega) (by simp [be8_len, hs.1, hel]; omega)) ?_
  rintro rv1 fr w - M E
  refine mv E fun fr E => ?_
  refine scallI (rdr g rv1 (s.prev ++ (be8 s.next ++ (be8 (s.es.length : Int) ++ entB s.es))) false) E M rfl rfl rfl rfl rfl (run_call rfl rfl T.fn56) rfl (fun H => rdSum_x H hs.1 (by simp [be8_len, hs.1, hel]; omega)) ?_
  rintro rv2 fr w - M E
  refine mv E fun fr E => ?_
  refine scallI (rdr g rv2 (be8 s.next ++ (be8 (s.es.length : Int) ++ entB s.es)) false) E M rfl rfl rfl rfl rfl (run_call rfl rfl T.fn53) rfl (fun H => rdInt_x H (by omega) (by omega) (by simp [be8_len, hs.1, hel]; omega)) ?_
  rintro rv3 fr w - M E
  refine sw (v := .agg ((s.cells (.slice none 0 0))).toArray) E (run_buildP (vs := [.int .i64 s.st, .agg (bc s.prev).toArray, .int .i64 s.next]) (us := (s.cells (.slice none 0 0))) rfl rfl T.ts39 T.zeroL39 (by simp [Value.cells, hs.1]) rfl rfl (by simp [Smy.cells, Value.cells, iv])) fun fr E => ?_
  refine snew (ob := .cells _ 39) (fun g => .pointer (some ⟨g, 0, none⟩)) E M rfl rfl rfl rfl rfl (run_allocN rfl T.zero39) fun g1 fr w M E => ?_
  refine sset (i := 0) (cs' := (s.cells (.slice none 0 0)).toArray) E M rfl rfl rfl rfl rfl (run_storeAll (vs := (s.cells (.slice none 0 0)).toArray) rfl rfl rfl T.size39 (Smy.size hs) (M.row (i := 0) rfl) rfl (fun u hu => Smy.ones rfl u (by simpa using hu))) rfl fun fr w M E => ?_
  refine seq_nil' ?_
  refine code_region ?_
  refine mv E fun fr E => ?_
  have M := M.pull 2 rfl
  have M := M.pull 2 rfl
  refine scallI (rdr g rv3 (be8 (s.es.length : Int) ++ entB s.es) false) E M rfl rfl rfl rfl rfl (run_call rfl rfl T.fn53) rfl (fun H => rdInt_x H (by omega) (by omega) (by simp [be8_len, hs.1, hel]; omega)) ?_
  rintro rv4 fr w - M E
  refine ma E fun fr E => ?_
  refine seq_nil' ?_
  refine wp_seq ?_
  have M := M.pull 1 rfl
  have M := M.pull 1 rfl
  refine code_region ?_
  refine mv E fun fr E => ?_
  refine sw (v := .bool false) E (tst rfl (decide_eq_false (by omega))) fun fr E => ?_
  refine mv E fun fr E => ?_
  refine mv E fun fr E => ?_
  refine mv E fun fr E => ?_
  refine sgive E M rfl rfl rfl rfl rfl (run_call rfl rfl T.fn57) (Left_x ((M).has.sub (List.sublist_append_left (rdr g rv4 (entB s.es) false) _))) fun fr w M E => ?_
  refine sw (v := .int .i64 (7 * (s.es.length : Int))) E (num (run_quoK rfl rfl rfl (by decide)) (by rw [hel, Int.tdiv_eq_ediv_of_nonneg (by omega)]; exact (i64_id (by omega) (by omega)).trans (by omega))) fun fr E => ?_
  refine sw (v := .bool false) E (tst rfl (decide_eq_false (by omega))) fun fr E => ?_
  refine sw (v := .bool _) E (rfl) fun fr E => ?_
  refine seq_nil' ?_
  refine cond_false E rfl (rfl) ?_
  refine wp_skip ?_
  refine then_normal ?_
  refine wp_seq ?_
  refine code_region ?_
  refine sw E (run_assignC rfl) fun fr E => ?_
  refine seq_nil' ?_
  refine wp_block ?_
  refine loop_dec (fun d fr w => ∃ (i : Nat) (rv ev : Value), d = s.es.length - i ∧ i ≤ s.es.length ∧ Env [(7, .int .i64 (i : Int)), (6, .int .i64 (s.es.length : Int)), (5, .pointer (some ⟨g1, 0, none⟩)), (4, .pointer (some ⟨g, 0, none⟩)), (2, .pointer (some ⟨g0, 0, none⟩))] 65 fr ∧ Mem w0 (feet []) (rdr g rv (entB (s.es.drop i)) false ++ [.row 83 35 ev i (ecs (s.es.take i)), .blk g1 (.cells (s.cells ev).toArray 39), .blk g0 (.cells (Smy.cells ⟨0, List.replicate 32 0, 0, []⟩ (.slice none 0 0)).toArray 39)]) (fun w' => Bytes w' b (be8 s.st ++ (s.prev ++ (be8 s.next ++ (be8 (s.es.length : Int) ++ entB s.es))))) w) (s.es.length) ?_ ?_
  · have M := M.pull 3 rfl
    have M := M.pull 3 rfl
    have M := M.pull 3 rfl
    have M := M.pull 3 rfl
    have M := M.nilRowF 83 35
    have M := (M.pull 2 rfl).pull 2 rfl
    exact ⟨0, rv4, _, rfl, Nat.zero_le _, (((((Env.nil E).add E (t := 2) rfl).add E (t := 4) rfl).add E (t := 5) rfl).add E (t := 6) rfl).add E (t := 7) rfl, M⟩
  · clear E M
    rintro d fr w ⟨i, rv, ev, rfl, hle, E, M⟩
    by_cases hi : i < s.es.length
    · refine wp_seq ?_
      refine code_region ?_
      refine mv E fun fr E => ?_
      refine mv E fun fr E => ?_
      refine sw (v := .bool true) E (tst rfl (decide_eq_true (by omega))) fun fr E => ?_
      refine mv E fun fr E => ?_
      refine mv E fun fr E => ?_
      refine sgive E M rfl rfl rfl rfl rfl (run_call rfl rfl T.fn58) (Bad_x (bad := false) ((M).has.sub (List.sublist_append_left (rdr g rv (entB (s.es.drop i)) false) _))) fun fr w M E => ?_
      refine sw (v := .bool _) E (rfl) fun fr E => ?_
      refine sw (v := .bool _) E (rfl) fun fr E => ?_
      refine seq_nil' ?_
      refine cond_true E rfl (rfl) ?_
      refine wp_skip ?_
      refine then_normal ?_
      refine wp_seq ?_
      refine wp_block ?_
      have M := M.pull 4 rfl
      have M := M.pull 4 rfl
      have M := M.pull 4 rfl
      have M := M.pull 4 rfl
      have M := M.pull 4 rfl
      have he := hs.2.get hi
      have hdr := List.drop_eq_getElem_cons hi
      rw [hdr] at M
      obtain ⟨hk13, hpl⟩ := hall _ (List.getElem_mem hi)
      have hpi := placed_in hpl
      have hE := entB_len (hs.2.drop (i + 1))
      have hEl : (entB (s.es.drop (i + 1))).length ≤ 896 := by rw [hE]; simp; omega
      have M : Mem _ _ ((rdr g rv (be8 (s.es[i]).k ++ (be8 (s.es[i]).b ++ (be8 (s.es[i]).s ++ ((s.es[i]).sum ++ (entB (s.es.drop (i + 1))))))) false ++ [(.row 83 35 ev i (ecs (s.es.take i)) : Ent)]) ++ _) _ w := M
      have hK : ∀ k v, (RQs g (.row 83 35 ev i (ecs (s.es.take i)) : Ent) (rdr g rv (be8 (s.es[i]).k ++ (be8 (s.es[i]).b ++ (be8 (s.es[i]).s ++ ((s.es[i]).sum ++ (entB (s.es.drop (i + 1))))))) false ++ [(.row 83 35 ev i (ecs (s.es.take i)) : Ent)]) w.drew [(be8 (s.es[i]).k ++ (be8 (s.es[i]).b ++ (be8 (s.es[i]).s ++ ((s.es[i]).sum ++ (entB (s.es.drop (i + 1))))))), (be8 (s.es[i]).b ++ (be8 (s.es[i]).s ++ ((s.es[i]).sum ++ (entB (s.es.drop (i + 1)))))), (be8 (s.es[i]).s ++ ((s.es[i]).sum ++ (entB (s.es.drop (i + 1))))), ((s.es[i]).sum ++ (entB (s.es.drop (i + 1)))), (entB (s.es.drop (i + 1)))]) k v → Ch (feet (rdr g rv (be8 (s.es[i]).k ++ (be8 (s.es[i]).b ++ (be8 (s.es[i]).s ++ ((s.es[i]).sum ++ (entB (s.es.drop (i + 1))))))) false ++ [(.row 83 35 ev i (ecs (s.es.take i)) : Ent)])) w.drew v := fun k v h => h.ch
      have h0 : (RQs g (.row 83 35 ev i (ecs (s.es.take i)) : Ent) (rdr g rv (be8 (s.es[i]).k ++ (be8 (s.es[i]).b ++ (be8 (s.es[i]).s ++ ((s.es[i]).sum ++ (entB (s.es.drop (i + 1))))))) false ++ [(.row 83 35 ev i (ecs (s.es.take i)) : Ent)]) w.drew [(be8 (s.es[i]).k ++ (be8 (s.es[i]).b ++ (be8 (s.es[i]).s ++ ((s.es[i]).sum ++ (entB (s.es.drop (i + 1))))))), (be8 (s.es[i]).b ++ (be8 (s.es[i]).s ++ ((s.es[i]).sum ++ (entB (s.es.drop (i + 1)))))), (be8 (s.es[i]).s ++ ((s.es[i]).sum ++ (entB (s.es.drop (i + 1))))), ((s.es[i]).sum ++ (entB (s.es.drop (i + 1)))), (entB (s.es.drop (i + 1)))]) 0 w.drew := ⟨rv, (M.has.sub (List.sublist_append_left _ _)).ext (Ext.drew w), fun q h => .inl h, Ch.refl _ _⟩
      have hB : chainNOk T.tab39_9_b [3, 5, 7, 9, 12] = true := by decide
      refine (free_lastR (B := T.tab39_9_b) (Vs := (.exact (.pointer (some ⟨g1, 34, none⟩)) :: .exact (ev) :: .exact (.pointer (some ⟨g, 0, none⟩)) :: .exact (.int .i64 (s.es[i]).k) :: .exact (.pointer (some ⟨g, 0, none⟩)) :: .exact (.int .i64 (s.es[i]).b) :: .exact (.pointer (some ⟨g, 0, none⟩)) :: .exact (.int .i64 (s.es[i]).s) :: .exact (.pointer (some ⟨g, 0, none⟩)) :: .exact (.agg (bc (s.es[i]).sum).toArray) :: .exact (.agg (s.es[i]).cells.toArray) :: NewR w.heap.size 35 1 (s.es[i]).cells :: .rel (fun w' v => RQ g (.row 83 35 v (i + 1) (ecs (s.es.take i) ++ (s.es[i]).cells)) (rdr g rv (be8 (s.es[i]).k ++ (be8 (s.es[i]).b ++ (be8 (s.es[i]).s ++ ((s.es[i]).sum ++ (entB (s.es.drop (i + 1))))))) false ++ [(.row 83 35 ev i (ecs (s.es.take i)) : Ent)]) w.drew (entB (s.es.drop (i + 1))) w') :: .exact (.pointer (some ⟨g1, 34, none⟩)) :: [])) (chainN [3, 5, 7, 9, 12] (RQs g (.row 83 35 ev i (ecs (s.es.take i)) : Ent) (rdr g rv (be8 (s.es[i]).k ++ (be8 (s.es[i]).b ++ (be8 (s.es[i]).s ++ ((s.es[i]).sum ++ (entB (s.es.drop (i + 1))))))) false ++ [(.row 83 35 ev i (ecs (s.es.take i)) : Ent)]) w.drew [(be8 (s.es[i]).k ++ (be8 (s.es[i]).b ++ (be8 (s.es[i]).s ++ ((s.es[i]).sum ++ (entB (s.es.drop (i + 1))))))), (be8 (s.es[i]).b ++ (be8 (s.es[i]).s ++ ((s.es[i]).sum ++ (entB (s.es.drop (i + 1)))))), (be8 (s.es[i]).s ++ ((s.es[i]).sum ++ (entB (s.es.drop (i + 1))))), ((s.es[i]).sum ++ (entB (s.es.drop (i + 1)))), (entB (s.es.drop (i + 1)))]) (fun k q => if k = 4 then feet [(.row 83 35 ev i (ecs (s.es.take i)) : Ent)] q else (feet (rdr g rv (be8 (s.es[i]).k ++ (be8 (s.es[i]).b ++ (be8 (s.es[i]).s ++ ((s.es[i]).sum ++ (entB (s.es.drop (i + 1))))))) false ++ [(.row 83 35 ev i (ecs (s.es.take i)) : Ent)]) q ∨ w.drew.heap.size ≤ q))) T.tab39_9_j 14 E T.mixed T.tab39_9 rfl rfl rfl ?_ ⟨gc_val rfl rfl rfl M hK (fun x w' M' hk => ⟨_, rfl, rfl, rfl, run_fieldAddr rfl rfl T.fld39_3, rfl⟩),
      gc_val rfl rfl rfl M hK (fun x w' M' hk => ⟨_, rfl, rfl, rfl, run_loadB rfl rfl T.one37 (M'.row (i := 0) rfl) (Smy.c_es hs), rfl⟩),
      gc_val rfl rfl rfl M hK (fun x w' M' hk => ⟨_, rfl, rfl, rfl, run_move rfl rfl, rfl⟩),
      gc_call (j := 0) hB rfl rfl rfl M hK (fun x w' M' hQ hk => ⟨_, _, rfl, rfl, rfl, run_call rfl rfl T.fn53, rd_step (hQ : RQ g _ _ _ _ w') fun rv' H => rdInt_x H (by omega) (by omega) (by simp [be8_len, show (s.es[i]).sum.length = 32 from he]; omega)⟩),
      gc_val rfl rfl rfl M hK (fun x w' M' hk => ⟨_, rfl, rfl, rfl, run_move rfl rfl, rfl⟩),
      gc_call (j := 1) hB rfl rfl rfl M hK (fun x w' M' hQ hk => ⟨_, _, rfl, rfl, rfl, run_call rfl rfl T.fn53, rd_step (hQ : RQ g _ _ _ _ w') fun rv' H => rdInt_x H (by omega) (by omega) (by simp [be8_len, show (s.es[i]).sum.length = 32 from he]; omega)⟩),
      gc_val rfl rfl rfl M hK (fun x w' M' hk => ⟨_, rfl, rfl, rfl, run_move rfl rfl, rfl⟩),
      gc_call (j := 2) hB rfl rfl rfl M hK (fun x w' M' hQ hk => ⟨_, _, rfl, rfl, rfl, run_call rfl rfl T.fn53, rd_step (hQ : RQ g _ _ _ _ w') fun rv' H => rdInt_x H (by omega) (by omega) (by simp [be8_len, show (s.es[i]).sum.length = 32 from he]; omega)⟩),
      gc_val rfl rfl rfl M hK (fun x w' M' hk => ⟨_, rfl, rfl, rfl, run_move rfl rfl, rfl⟩),
      gc_call (j := 3) hB rfl rfl rfl M hK (fun x w' M' hQ hk => ⟨_, _, rfl, rfl, rfl, run_call rfl rfl T.fn56, rd_step (hQ : RQ g _ _ _ _ w') fun rv' H => rdSum_x H he (by simp [show (s.es[i]).sum.length = 32 from he]; omega)⟩),
      gc_val rfl rfl rfl M hK (fun x w' M' hk => ⟨_, rfl, rfl, rfl, run_buildP (vs := [.int .i64 (s.es[i]).k, .int .i64 (s.es[i]).b, .int .i64 (s.es[i]).s, .agg (bc (s.es[i]).sum).toArray]) (us := (s.es[i]).cells) rfl rfl T.ts83 T.zeroL83 (by simp [Value.cells, show (s.es[i]).sum.length = 32 from he]) rfl rfl (by simp [Ety.cells, Value.cells, iv]), rfl⟩),
      gc_new rfl rfl rfl M hK (fun x w' M' hs' hk => ⟨_, _, rfl, rfl, rfl, run_buildSliceA (us := (s.es[i]).cells) (vs := [.agg (s.es[i]).cells.toArray]) rfl rfl rfl T.slice37 T.size83 T.zl83 rfl (by simp [Value.cells, Ety.len he]) rfl rfl (by simp [Value.cells]), Ext.alloc _ _, new_reads (by simp [Ety.len he]) (by decide), fun q hq => by have := new_own q hq; exact Nat.le_trans hs' this⟩),
      gc_app (j := 4) (k := i) (m := 1) (bytes := 56) (news := (s.es[i]).cells) (y := fun x => x 11) hB rfl rfl rfl M hK rfl rfl rfl T.slice37 T.slice37 T.zt83 T.by83 (by decide) (fun u hu => Ety.ones _ u hu) (by omega) (fun v h => h) (fun v h => h) rfl (fun x w' hk => ⟨rfl, rfl, rfl, rfl, rfl, (hk 11 rfl).1⟩),
      gc_val rfl rfl rfl M hK (fun x w' M' hk => ⟨_, rfl, rfl, rfl, run_fieldAddr rfl rfl T.fld39_3, rfl⟩), trivial⟩ ?_)
      · exact chainN_ok hB h0 (fun k v v' hx h => h.ext hx) rfl ⟨trivial, trivial, trivial, trivial, trivial, trivial, trivial, trivial, trivial, trivial, trivial, ⟨fun w1 w2 v hx h => ⟨h.1.ext hx, h.2⟩, .inl rfl, .inl rfl, .inl rfl, .inl rfl, .inr (fun w1 w2 v hc h => newR_row (N := feet _) (fun q hq => lt_of_hasR M.front (feet_app.2 (.inr hq))) (fun q hq => hq) hc h), trivial⟩, ⟨fun w1 w2 v hx h => h.ext hx, .inl rfl, .inl rfl, .inl rfl, .inl rfl, .inl rfl, trivial⟩, trivial, trivial⟩
      intro x fr w2 ⟨bb, hbb, hI⟩ hk E
      obtain ⟨rv2, HH, hf, hcc⟩ : RQ g (.row 83 35 (x 12) (i + 1) (ecs (s.es.take i) ++ (s.es[i]).cells)) (rdr g rv (be8 (s.es[i]).k ++ (be8 (s.es[i]).b ++ (be8 (s.es[i]).s ++ ((s.es[i]).sum ++ (entB (s.es.drop (i + 1))))))) false ++ [(.row 83 35 ev i (ecs (s.es.take i)) : Ent)]) w.drew (entB (s.es.drop (i + 1))) w2 := hk 12 (by decide)
      have M := Mem.call (ins := (rdr g rv (be8 (s.es[i]).k ++ (be8 (s.es[i]).b ++ (be8 (s.es[i]).s ++ ((s.es[i]).sum ++ (entB (s.es.drop (i + 1))))))) false ++ [(.row 83 35 ev i (ecs (s.es.take i)) : Ent)])) M ((Ch.of_ext (Ext.drew _)).trans hcc) HH (fun q hq => hf q hq)
      obtain ⟨xb, xc, hx12⟩ := Reads.slice (ownsRow_reads (HH.ent 2 rfl))
      refine last_set (i := 3) (cs' := (s.cells (x 12)).toArray) E M rfl rfl rfl rfl rfl rfl (run_store1' (v := x 12) rfl rfl rfl T.size37 (M.row (i := 3) rfl) (by rw [Smy.size hs]; rfl) (by rw [hx12]; rfl) (congrArg List.toArray (Smy.set_es hs ev (x 12)))) rfl fun fr w M E => ?_
      refine block_normal ?_
      refine then_normal ?_
      refine code_last ?_
      refine mv E fun fr E => ?_
      refine sw (v := .int _ (((i + 1 : Nat) : Int))) E (num rfl ((i64_id (by omega) (by omega)).trans (by omega))) fun fr E => ?_
      refine ma E fun fr E => ?_
      refine seq_nil ?_
      refine then_any ?_
      exact ⟨s.es.length - (i + 1), by omega, i + 1, rv2, _, rfl, by omega, (((((Env.nil E).add E (t := 2) rfl).add E (t := 4) rfl).add E (t := 5) rfl).add E (t := 6) rfl).add E (t := 7) rfl, M.as (by rw [List.take_succ_eq_append_getElem hi, ecs_append, ecs_one]; rfl)⟩
    · obtain rfl : i = s.es.length := by omega
      rw [List.drop_length, List.take_length] at M
      have hev := Reads.slice (ownsRow_reads (M.ent (e := (.row 83 35 ev s.es.length (ecs s.es) : Ent)) 2 rfl))
      obtain ⟨eb, ec, hev⟩ := hev
      refine wp_seq ?_
      refine code_region ?_
      refine mv E fun fr E => ?_
      refine mv E fun fr E => ?_
      refine sw (v := .bool false) E (tst rfl (decide_eq_false (by omega))) fun fr E => ?_
      refine mv E fun fr E => ?_
      refine sno E rfl rfl rfl rfl fun fr E => ?_
      refine sno E rfl rfl rfl rfl fun fr E => ?_
      refine sno E rfl rfl rfl rfl fun fr E => ?_
      refine sw (v := .bool _) E (rfl) fun fr E => ?_
      refine seq_nil' ?_
      refine cond_false E rfl (rfl) ?_
      refine wp_exit ?_
      refine then_exit ?_
      refine then_exit ?_
      refine block_exit ?_
      refine then_normal ?_
      refine code_region ?_
      refine mv E fun fr E => ?_
      refine scallI (rdr g rv [] false) E M rfl rfl rfl rfl rfl (run_call rfl rfl T.fn59) rfl (fun H => End_x (l := []) (bad := false) H (by simp)) ?_
      rintro _ fr w - M E
      refine ma E fun fr E => ?_
      refine seq_nil' ?_
      refine wp_seq ?_
      refine code_region ?_
      refine mv E fun fr E => ?_
      refine sw (v := .bool true) E (tst rfl (rfl)) fun fr E => ?_
      refine seq_nil' ?_
      refine cond_true E rfl (rfl) ?_
      refine code_last ?_
      refine sw (v := .agg (s.cells ev).toArray) E (run_loadAll rfl rfl T.agg39 (M.row (i := 3) rfl) (Smy.size hs)) fun fr E => ?_
      refine sgive E M rfl rfl rfl rfl rfl (run_call rfl rfl T.fn47) (bCheck_x hs (ownsRow_reads ((M).ent (e := (.row 83 35 ev s.es.length (ecs s.es) : Ent)) 2 rfl))) fun fr w M E => ?_
      refine ma E fun fr E => ?_
      refine seq_nil ?_
      refine then_normal ?_
      refine wp_seq ?_
      refine code_region ?_
      refine mv E fun fr E => ?_
      refine sw (v := .bool false) E (tst rfl (bneFB hc)) fun fr E => ?_
      refine seq_nil' ?_
      refine cond_false E rfl (rfl) ?_
      refine wp_skip ?_
      refine then_normal ?_
      refine code_region ?_
      refine sw (v := .agg (s.cells ev).toArray) E (run_loadAll rfl rfl T.agg39 (M.row (i := 3) rfl) (Smy.size hs)) fun fr E => ?_
      refine sset (i := 4) (cs' := (s.cells ev).toArray) E M rfl rfl rfl rfl rfl (run_storeAll (vs := (s.cells ev).toArray) rfl rfl rfl T.size39 (Smy.size hs) (M.row (i := 4) rfl) rfl (fun u hu => Smy.ones (v := ev) (by rw [hev]; rfl) u (by simpa using hu))) rfl fun fr w M E => ?_
      refine sw E (run_assignC rfl) fun fr E => ?_
      refine seq_nil' ?_
      refine wp_ret ?_
      refine retC2 E rfl rfl rfl T.agg39 (M.row (i := 4) rfl) (Smy.size hs) ?_
      have M := M.pull 2 rfl
      exact ⟨ev, rfl, Mem.fin (L := [(.row 83 35 ev s.es.length (ecs s.es) : Ent)] ++ _) M (List.sublist_append_left _ _) trivial⟩
end Go.Proofs.Ytnebjbgcibjohaa.K
end
