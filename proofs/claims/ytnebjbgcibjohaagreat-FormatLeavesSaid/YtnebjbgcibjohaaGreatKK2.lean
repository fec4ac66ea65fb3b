/- Plain laws: what is written is read. -/
import Derived.Test.YtnebjbgcibjohaaGreatKK1
import Derived.Test.YtnebjbgcibjohaaGreatProg
import Derived.Test.YtnebjbgcibjohaaGreatRR
import Derived.Test.YtnebjbgcibjohaaGreatRR1
import Derived.Test.YtnebjbgcibjohaaGreatKK
import Derived.RangeFuncNested
import Derived.RangeFuncBound
import Derived.RangeFuncCalls
import Derived.RangeFuncLeaves
import Derived.Shelf.Abstract
import Derived.Shelf.RegionOpen
import Derived.WalkKit
import Derived.OwnWalkIn
import Derived.TacticsInMore
import Derived.LoopNIn
import Derived.LoopIn
import Derived.Shelf.SlIterI.Nil
import Derived.Shelf.SortM.Plain
import Derived.Shelf.SortM.SortNone
import Derived.Laws.CopyRow
section
namespace Go.Proofs.YtnebjbgcibjohaaGreat.K
open Go.RowKit Go.Rill Go.Proofs
set_option linter.unusedVariables false
set_option linter.unusedSimpArgs false
theorem rNext_app {n : Nat} {a b : List UInt8} (h : a.length = n) : rNext n (a ++ b, false) = (b, false) := by
  subst h
  unfold rNext
  rw [if_neg (by simp)]
  simp
theorem rInt_app {v : Int} {b : List UInt8} (h0 : -9223372036854775808 ≤ v) (h1 : v ≤ 9223372036854775807) : rInt (be8 v ++ b, false) = v := by
  unfold rInt
  rw [if_neg (by simp [be8_len])]
  simp only
  rw [List.take_left' (be8_len v), num64_be8 v h0 h1]
theorem rSum_app {s b : List UInt8} (h : s.length = 32) : rSum (s ++ b, false) = s := by
  unfold rSum
  rw [if_neg (by simp [h])]
  exact List.take_left' h
theorem rRef_app {v : Int} {s b : List UInt8} (hs : s.length = 32) (h0 : -9223372036854775808 ≤ v) (h1 : v ≤ 9223372036854775807) : rRef (be8 v ++ (s ++ b), false) = (v, s) := by
  unfold rRef
  rw [if_neg (by simp [be8_len, hs]; omega)]
  simp only
  have e : (be8 v ++ (s ++ b)).take 40 = be8 v ++ s := by rw [← List.append_assoc]; exact List.take_left' (by simp [be8_len, hs])
  rw [e, List.take_left' (be8_len v), List.drop_left' (be8_len v), num64_be8 v h0 h1]
/-- A record's bytes, and others behind them, are read as it. -/
theorem read_of {r : Rec} (hr : r.Ok) (hm : r.May) (x : List UInt8) : rst (r.bytes ++ x) 11 = (x, false) ∧ Rec.read (r.bytes ++ x) = r := by
  obtain ⟨⟨h1, h2, h3⟩, h4, ⟨h5, h6⟩, ⟨h7, h8⟩⟩ := hm
  have h1 : 1 ≤ r.gen ∧ r.gen ≤ 1099511627776 := h1
  have h2 : 1 ≤ r.stamp ∧ r.stamp ≤ 1099511627776 := h2
  have h3 : 1 ≤ r.epoch ∧ r.epoch ≤ 1099511627776 := h3
  have h9 : 0 ≤ r.rat ∧ r.rat ≤ 4095 := by rcases h4 with h4 | h4 <;> omega
  obtain ⟨T1, t1⟩ : ∃ T, T = be8 r.stamp ++ (be8 r.epoch ++ (r.super ++ (be8 r.rat ++ (r.rsum ++ (be8 r.bseg ++ (be8 r.bslot ++ (be8 r.tseg ++ (be8 r.tslot ++ (r.bsum ++ (r.tsum ++ x)))))))))) := ⟨_, rfl⟩
  have e0 : rst (r.bytes ++ x) 0 = (be8 r.gen ++ T1, false) := by subst t1; show (r.bytes ++ x, false) = _; simp only [Rec.bytes, List.append_assoc]
  have e1 : rst (r.bytes ++ x) 1 = (T1, false) := (congrArg (rNext 8) e0).trans (rNext_app (be8_len _))
  rw [t1] at e1
  have e2 := (congrArg (rNext 8) e1).trans (rNext_app (be8_len _))
  have e3 := (congrArg (rNext 8) e2).trans (rNext_app (be8_len _))
  have e4 := (congrArg (rNext 32) e3).trans (rNext_app hr.super)
  have e5 : rNext 40 _ = _ := (congrArg (rNext 40) e4).trans ((congrArg (fun l => rNext 40 (l, false)) (List.append_assoc _ _ _).symm).trans (rNext_app (by simp [be8_len, hr.rsum])))
  have e6 := (congrArg (rNext 8) e5).trans (rNext_app (be8_len _))
  have e7 := (congrArg (rNext 8) e6).trans (rNext_app (be8_len _))
  have e8 := (congrArg (rNext 8) e7).trans (rNext_app (be8_len _))
  have e9 := (congrArg (rNext 8) e8).trans (rNext_app (be8_len _))
  have e10 := (congrArg (rNext 32) e9).trans (rNext_app hr.bsum)
  have e11 := (congrArg (rNext 32) e10).trans (rNext_app hr.tsum)
  refine ⟨e11, ?_⟩
  have a0 : rInt (rst (r.bytes ++ x) 0) = r.gen := (congrArg rInt e0).trans (rInt_app (by omega) (by omega))
  have a1 : rInt (rst (r.bytes ++ x) 1) = r.stamp := (congrArg rInt e1).trans (rInt_app (by omega) (by omega))
  have a2 : rInt (rst (r.bytes ++ x) 2) = r.epoch := (congrArg rInt e2).trans (rInt_app (by omega) (by omega))
  have a3 : rSum (rst (r.bytes ++ x) 3) = r.super := (congrArg rSum e3).trans (rSum_app hr.super)
  have a4 : rRef (rst (r.bytes ++ x) 4) = (r.rat, r.rsum) := (congrArg rRef e4).trans (rRef_app hr.rsum (by omega) (by omega))
  have a5 : rInt (rst (r.bytes ++ x) 5) = r.bseg := (congrArg rInt e5).trans (rInt_app (by omega) (by omega))
  have a6 : rInt (rst (r.bytes ++ x) 6) = r.bslot := (congrArg rInt e6).trans (rInt_app (by omega) (by omega))
  have a7 : rInt (rst (r.bytes ++ x) 7) = r.tseg := (congrArg rInt e7).trans (rInt_app (by omega) (by omega))
  have a8 : rInt (rst (r.bytes ++ x) 8) = r.tslot := (congrArg rInt e8).trans (rInt_app (by omega) (by omega))
  have a9 : rSum (rst (r.bytes ++ x) 9) = r.bsum := (congrArg rSum e9).trans (rSum_app hr.bsum)
  have a10 : rSum (rst (r.bytes ++ x) 10) = r.tsum := (congrArg rSum e10).trans (rSum_app hr.tsum)
  obtain ⟨b0, b1, b2, b3, b4, b5, b6, b7, b8, b9, b10, b11⟩ := r
  simp only at a0 a1 a2 a3 a4 a5 a6 a7 a8 a9 a10
  simp only [Rec.read, Rec.r10, Rec.r9, Rec.r7, Rec.r5, a0, a1, a2, a3, a4, a5, a6, a7, a8, a9, a10]
theorem getX_of {r : Rec} (hr : r.Ok) (hm : r.May) : getX r.bytes = (r, 0) := by
  obtain ⟨h1, h2⟩ := read_of hr hm []
  rw [List.append_nil] at h1 h2
  unfold getX
  rw [h1, h2, if_neg (by simp [rEnd]), if_pos hm]
theorem sget_nil (ks : List NKey) (kd at' : Int) : sgetX ks kd at' [] = none := by
  unfold sgetX
  rw [if_neg (fun c => c.1 (by decide))]
theorem one_nil {A : AD} {ks : List NKey} {j : Nat} (h : A.read j = []) : oneX A ks j = (Rec.zero, false) := by
  unfold oneX
  rw [h, sget_nil]
theorem bump_read (A : AD) (i j : Nat) : (A.bump i).read j = A.read j := rfl
theorem bumps_read (A : AD) (j : Nat) : ∀ i, (bumps A i).read j = A.read j
  | 0 => rfl
  | i + 1 => (bump_read _ _ _).trans (bumps_read A j i)
theorem one_bumps (A : AD) (ks : List NKey) (i j : Nat) : oneX (bumps A i) ks j = oneX A ks j := by
  unfold oneX
  rw [bumps_read]
theorem new_read (k j : Nat) : (AD.new k).read j = [] := by
  unfold AD.read AD.new aget
  simp only [List.find?_nil, Option.map_none]
  cases h : (List.replicate k ([] : List UInt8))[j]? with
  | none => rfl
  | some l =>
    have := List.mem_of_getElem? h
    rw [List.mem_replicate] at this
    rw [this.2]
    rfl
/-! ### What is sealed is opened -/
theorem kind_first {kd : Int} (h : 1 ≤ kd ∧ kd ≤ 5) : ((UInt8.ofInt kd).toNat : Int) = kd := by
  rw [ofInt_toNat]
  show kd % 256 = kd
  omega
theorem sectB_len (ks : List NKey) (kd e n at' : Int) (pl : List UInt8) : (sectB ks kd e n at' pl).length = 17 + (sealB ks e n (hdB kd at') pl).length := by
  simp [sectB, be8_len]
  omega
theorem sget_of {ks ks' : List NKey} {kd e n at' : Int} {pl : List UInt8} {m : Nat} (h1 : 1 ≤ kd ∧ kd ≤ 5) (h3 : SRight e n at') (h4 : pl.length ≤ 975) (hk : nat' (⟨e, n, hdB kd at', pl⟩ : NKey) ks' 0 = some m) (hm : sealNo ks ⟨e, n, hdB kd at', pl⟩ = m + 1) : sgetX ks' kd at' (sectB ks kd e n at' pl) = some (e, n, pl) := by
  have hin : inNum e ∧ inNum n := ⟨⟨h3.1.1, h3.2.1.1⟩, ⟨h3.1.2.1, h3.2.1.2⟩⟩
  have hs : sealB ks e n (hdB kd at') pl = pl ++ tagOf (m + 1) := by unfold sealB; rw [if_pos hin, hm]
  have ht : (tagOf (m + 1)).length = 32 := by simp [tagOf, be8_len]
  have hlen : (sectB ks kd e n at' pl).length = 17 + (pl.length + 32) := by rw [sectB_len, hs, List.length_append, ht]
  have hd17 : (sectB ks kd e n at' pl).drop 17 = pl ++ tagOf (m + 1) := by
    rw [← hs]
    unfold sectB
    exact List.drop_left' (by simp [be8_len])
  have h16 : ((sectB ks kd e n at' pl).drop 1).take 16 = be8 e ++ be8 n := by
    show ((be8 e ++ be8 n) ++ sealB ks e n (hdB kd at') pl).take 16 = be8 e ++ be8 n
    exact List.take_left' (by simp [be8_len])
  have hE : secE (sectB ks kd e n at' pl) = e := by
    unfold secE
    rw [h16]
    exact rInt_app (by have := h3.1.1; omega) (by have := h3.2.1.1; omega)
  have hN : secN (sectB ks kd e n at' pl) = n := by
    unfold secN
    rw [h16, rNext_app (be8_len _)]
    have := rInt_app (v := n) (b := []) (by have := h3.1.2.1; omega) (by have := h3.2.1.2; omega)
    rwa [List.append_nil] at this
  have h0 : ((sectB ks kd e n at' pl)[0]'(by omega)) = UInt8.ofInt kd := by simp [sectB]
  have hK : kindOf (sectB ks kd e n at' pl) = kd := by
    have := kind_first h1
    unfold kindOf
    rw [dif_pos (by omega)]
    simp only [h0]
    rw [if_neg (by omega), if_neg (by omega)]
    exact this
  unfold sgetX
  rw [if_pos ⟨by omega, by omega, by omega, hK, by rw [hE, hN]; exact h3⟩, hE, hN, hd17]
  unfold openN
  have e1 : (pl ++ tagOf (m + 1)).length - 32 = pl.length := by rw [List.length_append, ht]; omega
  rw [if_neg (by rw [List.length_append, ht]; omega), e1, List.take_left' rfl, hk]
  simp only
  rw [List.drop_left' rfl, if_pos rfl]
  rfl
theorem at_of {r : Rec} (hm : r.May) : 1 + r.gen.tmod 2 = 1 ∨ 1 + r.gen.tmod 2 = 2 := by
  have h : 1 ≤ r.gen := hm.1.1.1
  have h1 := Int.tmod_lt_of_pos r.gen (show (0 : Int) < 2 by decide)
  have h2 := Int.tmod_nonneg (2 : Int) (show (0 : Int) ≤ r.gen by omega)
  omega
theorem right_of {r : Rec} (hm : r.May) {num : Int} (h0 : 0 ≤ num) (h1 : num ≤ 1099511627776) : SRight r.epoch num (1 + r.gen.tmod 2) := by
  have h : 1 ≤ r.epoch ∧ r.epoch ≤ 1099511627776 := hm.1.2.2
  have := at_of hm
  exact ⟨⟨by omega, h0, by omega⟩, ⟨h.2, h1⟩, by omega⟩
theorem nat_last {K : Type} [DecidableEq K] {k : K} : ∀ {ks : List K} {i : Nat}, k ∉ ks → nat' k (ks ++ [k]) i = some (i + ks.length)
  | [], i, _ => by simp [nat']
  | q :: ks, i, h => by
    rw [List.cons_append]
    unfold nat'
    rw [if_neg (fun e : k = q => h (e ▸ List.mem_cons_self ..)), nat_last fun hm => h (List.mem_cons_of_mem _ hm)]
    simp
    omega
/-- Behind a seal its key is where its number says. -/
theorem seal_at (ks : List NKey) (k : NKey) : ∃ m, nat' k (sealKs ks k) 0 = some m ∧ sealNo ks k = m + 1 := by
  by_cases h : k ∈ ks
  · obtain ⟨m, hm⟩ := nat_mem h
    exact ⟨m, by unfold sealKs; rw [if_pos h]; exact hm, by unfold sealNo; rw [hm]⟩
  · exact ⟨ks.length, by unfold sealKs; rw [if_neg h, nat_last h, Nat.zero_add], by unfold sealNo; rw [nat_none h]⟩
theorem sealKs_len (ks : List NKey) (k : NKey) : (sealKs ks k).length ≤ ks.length + 1 := by
  unfold sealKs
  split <;> simp
/-- A sector is written. -/
def AD.put (A : AD) (i : Int) (l : List UInt8) : AD := { A with left := w64 (A.left - 1), cache := aput i l A.cache, writes := w64 (A.writes + 1) }
theorem aget_put (i k : Int) (l : List UInt8) : ∀ c : List (Int × List UInt8), aget (aput i l c) k = if k = i then some l else aget c k
  | [] => by
    show aget [(i, l)] k = _
    rw [aget_cons]
  | p :: r => by
    have ih := aget_put i k l r
    unfold aput
    by_cases h : i = p.1
    · rw [if_pos h, aget_cons, aget_cons]
      by_cases h2 : k = i
      · rw [if_pos h2, if_pos h2]
      · rw [if_neg h2, if_neg h2, if_neg (fun e => h2 (e.trans h.symm))]
    · rw [if_neg h, aget_cons, aget_cons, ih]
      by_cases h2 : k = p.1
      · rw [if_pos h2, if_pos h2, if_neg (fun e => h (e.symm.trans h2))]
      · rw [if_neg h2, if_neg h2]
theorem put_read (A : AD) (i : Int) (l : List UInt8) (j : Nat) : (A.put i l).read j = if (j : Int) = i then l else A.read j := by
  unfold AD.read
  have e : aget (A.put i l).cache (j : Int) = if (j : Int) = i then some l else aget A.cache (j : Int) := aget_put i j l A.cache
  rw [e]
  by_cases h : (j : Int) = i
  · rw [if_pos h, if_pos h]
  · rw [if_neg h, if_neg h]
    rfl
abbrev _root_.Go.Rill.Rec.at' (r : Rec) : Int := 1 + r.gen.tmod 2
abbrev _root_.Go.Rill.Rec.key (r : Rec) (num : Int) : NKey := ⟨r.epoch, num, hdB 2 r.at', r.bytes⟩
/-- .. and told. -/
theorem one_at {A : AD} {ks ks' : List NKey} {r : Rec} {num : Int} {j m : Nat} (hr : r.Ok) (hm : r.May) (h0 : 0 ≤ num) (h1 : num ≤ 1099511627776) (hj : (j : Int) = r.at') (hrd : A.read j = sectB ks 2 r.epoch num r.at' r.bytes) (hk : nat' (r.key num) ks' 0 = some m) (hno : sealNo ks (r.key num) = m + 1) : oneX A ks' j = (r, true) := by
  have hg := sget_of (kd := 2) (by decide) (right_of hm h0 h1) (by rw [Rec.bytes_len hr]; decide) hk hno
  unfold oneX
  rw [hrd, hj, hg]
  simp only
  rw [getX_of hr hm]
  simp
end Go.Proofs.YtnebjbgcibjohaaGreat.K
end
section
namespace Go.Rill.T
open Go.Proofs
end Go.Rill.T
end
section
namespace Go.Proofs.YtnebjbgcibjohaaGreat.K
open Go.RowKit Go.Rill Go.Proofs
set_option linter.unusedVariables false
set_option linter.unusedSimpArgs false
/-- A record that is too late for a level. -/
def late (lv : Int) (r : Rec) : Bool := decide (lv + 1 < r.stamp)
/-- The greatest stamp's, the first of these. -/
def pickR (b : Rec) (l : List Rec) : Rec := l.foldl (fun b r => if b.stamp < r.stamp then r else b) b
theorem pickR_snoc (b : Rec) (l : List Rec) (r : Rec) : pickR b (l ++ [r]) = if (pickR b l).stamp < r.stamp then r else pickR b l := by
  unfold pickR
  rw [List.foldl_append]
  rfl
def choice (lv : Int) (l : List Rec) : Option Rec := match l.filter fun r => !late lv r with | [] => none | r :: k => some (pickR r (r :: k))
theorem choice_snoc (lv : Int) (l : List Rec) (r : Rec) : choice lv (l ++ [r]) = if late lv r then choice lv l else match choice lv l with | none => some r | some b => if b.stamp < r.stamp then some r else some b := by
  unfold choice
  rw [List.filter_append]
  cases h : late lv r with
  | true => simp [h]
  | false =>
    cases hf : l.filter fun r => !late lv r with
    | nil => simp [h, pickR]
    | cons x k =>
      simp only [List.filter_cons, List.filter_nil, h, Bool.not_false, if_true, List.cons_append]
      rw [← List.cons_append, pickR_snoc]
      split <;> simp
/-- What the document knows behind so many records. -/
def BestAt (lv : Int) (l : List Rec) (i : Nat) (b : Int) : Prop := (b = -1 ∧ choice lv (l.take i) = none) ∨ ∃ k, ∃ hk : k < l.length, b = (k : Int) ∧ choice lv (l.take i) = some l[k]
theorem BestAt.late {lv : Int} {l : List Rec} {i : Nat} {b : Int} (h : BestAt lv l i b) (hi : i < l.length) (hq : K.late lv l[i] = true) : BestAt lv l (i + 1) b := by
  unfold BestAt
  rw [List.take_succ_eq_append_getElem hi, choice_snoc, hq]
  exact h
theorem BestAt.first {lv : Int} {l : List Rec} {i : Nat} (hi : i < l.length) (h : choice lv (l.take i) = none) (hq : K.late lv l[i] = false) : BestAt lv l (i + 1) (i : Int) := by
  refine .inr ⟨i, hi, rfl, ?_⟩
  rw [List.take_succ_eq_append_getElem hi, choice_snoc, hq, h]
  rfl
theorem BestAt.more {lv : Int} {l : List Rec} {i k : Nat} (hi : i < l.length) (hk : k < l.length) (h : choice lv (l.take i) = some l[k]) (hq : K.late lv l[i] = false) (h3 : (l[k]).stamp < (l[i]).stamp) : BestAt lv l (i + 1) (i : Int) := by
  refine .inr ⟨i, hi, rfl, ?_⟩
  rw [List.take_succ_eq_append_getElem hi, choice_snoc, hq, h]
  simp [h3]
end Go.Proofs.YtnebjbgcibjohaaGreat.K
end
section
namespace Go.Proofs.YtnebjbgcibjohaaGreat.K
open Go.RowKit Go.Rill Go.Proofs
set_option linter.unusedVariables false
set_option linter.unusedSimpArgs false
abbrev W1 : AD := (AD.new 4).put (Rec.mk3 1 2).at' (sectB [] 2 (Rec.mk3 1 2).epoch 1 (Rec.mk3 1 2).at' (Rec.mk3 1 2).bytes)
end Go.Proofs.YtnebjbgcibjohaaGreat.K
end
section
namespace Go.Proofs.YtnebjbgcibjohaaGreat.K
open Go.RowKit Go.Rill Go.Proofs
set_option linter.unusedVariables false
set_option linter.unusedSimpArgs false
def pickN (k : Int) (m : Nat) : Nat := (if k.tmod m < 0 then k.tmod m + m else k.tmod m).toNat
theorem pickN_eq {k : Int} {m : Nat} (hm : 0 < m) : ((pickN k m : Nat) : Int) = if k.tmod m < 0 then k.tmod m + m else k.tmod m := by
  unfold pickN
  have := tmod_bounds k (show (0 : Int) < m by omega)
  split <;> omega
theorem pickN_lt {k : Int} {m : Nat} (hm : 0 < m) : pickN k m < m := by
  have h1 := pickN_eq (k := k) hm
  have := tmod_bounds k (show (0 : Int) < m by omega)
  split at h1 <;> omega
theorem Pick_x {k : Int} {m : Nat} {w0 : World} (hm : 0 < m) (hz : m ≤ 4611686018427387904) : Gives Tryz.prog 18 [.int .i64 k, .int .i64 (m : Int)] w0 (.int .i64 ((pickN k m : Nat) : Int)) := by
  rw [pickN_eq hm]
  split
  · exact Pick_neg (by omega) (by omega) ‹_›
  · exact Pick_pos (by omega) (by omega) ‹_›
end Go.Proofs.YtnebjbgcibjohaaGreat.K
end
section
namespace Go.Proofs.YtnebjbgcibjohaaGreat.K
open Go.RowKit Go.Rill Go.Proofs
set_option linter.unusedVariables false
set_option linter.unusedSimpArgs false
def spc (l : List (Int × Int × Int)) : List Value := (l.map fun s => [.int .i64 s.1, .int .i64 s.2.1, .int .i64 s.2.2]).flatten
def SpanP (l : List (Int × Int × Int)) : Prop := ∀ s ∈ l, s.2.1 ≤ s.1 ∧ s.1 ≤ s.2.2
instance (l : List (Int × Int × Int)) : Decidable (SpanP l) := by unfold SpanP; infer_instance
theorem spc_get : ∀ {l : List (Int × Int × Int)} {i : Nat} (hi : i < l.length), ((spc l).drop (i * 3)).take 3 = [.int .i64 (l[i]).1, .int .i64 (l[i]).2.1, .int .i64 (l[i]).2.2]
  | s :: l, 0, _ => by simp [spc]
  | s :: l, i + 1, h => by
    have ih := spc_get (l := l) (i := i) (by simpa using h)
    have e : spc (s :: l) = [.int .i64 s.1, .int .i64 s.2.1, .int .i64 s.2.2] ++ spc l := rfl
    rw [e, show (i + 1) * 3 = 3 + i * 3 by omega, ← List.drop_drop]
    simpa using ih
theorem span3 {s l b : Int} (h : SpanP [(s, 16, 32), (l, 32, 64), (b, 1, 64)]) : (16 ≤ s ∧ s ≤ 32) ∧ (32 ≤ l ∧ l ≤ 64) ∧ (1 ≤ b ∧ b ≤ 64) :=
  ⟨h (s, 16, 32) (by simp), h (l, 32, 64) (by simp), h (b, 1, 64) (by simp)⟩
/-- Whether a geometry may be. -/
def GMay (s l b : Int) : Prop := SpanP [(s, 16, 32), (l, 32, 64), (b, 1, 64)] ∧ b + 9 < (s - ((b * 4 + l - 2) / (l - 1)) - 14) * ((l - 1) / 5 + 1)
instance (s l b : Int) : Decidable (GMay s l b) := by unfold GMay; infer_instance
theorem may_bnd {s l b : Int} (h : (16 ≤ s ∧ s ≤ 32) ∧ (32 ≤ l ∧ l ≤ 64) ∧ (1 ≤ b ∧ b ≤ 64)) : (0 ≤ ((b * 4 + l - 2) / (l - 1)) ∧ ((b * 4 + l - 2) / (l - 1)) ≤ 400) ∧ -10000 ≤ (s - ((b * 4 + l - 2) / (l - 1)) - 14) * ((l - 1) / 5 + 1) ∧ (s - ((b * 4 + l - 2) / (l - 1)) - 14) * ((l - 1) / 5 + 1) ≤ 10000 := by
  have h1 := Int.ediv_nonneg (a := b * 4 + l - 2) (b := l - 1) (by omega) (by omega)
  have h2 := Int.ediv_le_self (a := b * 4 + l - 2) (l - 1) (by omega)
  generalize (b * 4 + l - 2) / (l - 1) = q at *
  have h3 : 7 ≤ (l - 1) / 5 + 1 ∧ (l - 1) / 5 + 1 ≤ 13 := by omega
  generalize (l - 1) / 5 + 1 = y at *
  have h4 : y = 7 ∨ y = 8 ∨ y = 9 ∨ y = 10 ∨ y = 11 ∨ y = 12 ∨ y = 13 := by omega
  rcases h4 with rfl | rfl | rfl | rfl | rfl | rfl | rfl <;> omega
theorem gmay_sl {s l b : Int} (h : GMay s l b) : 512 ≤ s * l ∧ s * l ≤ 2048 := by
  obtain ⟨⟨a1, a2⟩, ⟨b1, b2⟩, _⟩ := span3 h.1
  have h1 := Int.mul_le_mul a1 b1 (by decide) (by omega)
  have h2 := Int.mul_le_mul a2 b2 (by omega) (by decide)
  omega
theorem run_quoK {P : Program} {ρ : Operand → Value} {o : Oper} {w : World} {t t' : TypeId} {X Y : Operand} {x y : Int} (ho : o.op = .binOp .quo t X Y t') (hX : ρ X = .int .i64 x) (hY : ρ Y = .int .i64 y) (h0 : y ≠ 0) : (execOp ρ o).run P w = .ok (.value (.int .i64 (IntKind.i64.wrap (x.tdiv y)))) w := by
  have hg : (eqGuard .quo t X Y (.int .i64 x) (.int .i64 y)).run P w = .ok () w := rfl
  have hb : (binOp .quo t (.int .i64 x) (.int .i64 y)).run P w = .ok (.int .i64 (IntKind.i64.wrap (x.tdiv y))) w := by
    simp [binOp, Op.intDiv, h0]
  simp only [execOp, ho, hX, hY, Sem.run_bind, hg, Result.andThen_ok, hb]
  rfl
set_option maxRecDepth 100000 in
theorem gwithin_x {a : Value} {l : List (Int × Int × Int)} {r : Bool} {w0 : World} (ha : Reads 3 w0 a l.length (spc l)) (hz : l.length ≤ 1000) (hr : decide (SpanP l) = r) : Gives Tryz.prog 52 [a] w0 (.bool r) := by
  refine enter (n := 24) Tryz.func52 rfl rfl rfl ?_
  intro fr E
  have M : Mem w0 (feet []) [] (fun w' => Reads 3 w' a l.length (spc l)) w0 := Mem.begin (Has.nil w0) (fun w' h => ha.held0 h)
  refine code_region ?_
  refine sw E (run_assignC rfl) fun fr E => ?_
  refine seq_nil' ?_
  refine wp_seq ?_
  refine code_region ?_
  refine mv E fun fr E => ?_
  refine sw (v := .int .i64 _) E (run_lenR rfl rfl rfl rfl T.slice130 M.fact) fun fr E => ?_
  refine sw E (run_moveC rfl) fun fr E => ?_
  refine seq_nil' ?_
  refine wp_block ?_
  refine loop_dec (fun d fr w => ∃ i : Nat, d = l.length - i ∧ i ≤ l.length ∧ (∀ j, j < i → ∀ hj : j < l.length, (l[j]).2.1 ≤ (l[j]).1 ∧ (l[j]).1 ≤ (l[j]).2.2) ∧ Env [(5, a), (6, .int .i64 l.length), (7, .int .i64 i)] 24 fr ∧ Mem w0 (feet []) [] (fun w' => Reads 3 w' a l.length (spc l)) w) (l.length) ?_ ?_
  · exact ⟨0, rfl, Nat.zero_le _, fun j hj => absurd hj (by omega), (((Env.nil E).add E (t := 7) rfl).add E (t := 6) rfl).add E (t := 5) rfl, M⟩
  · clear E M
    rintro d fr w ⟨i, rfl, hle, hall, E, M⟩
    by_cases hi : i < l.length
    · by_cases h1 : (l[i]'hi).1 < (l[i]'hi).2.1
      · refine code_region ?_
        refine sw (v := .bool true) E (tst rfl (decide_eq_true (by omega))) fun fr E => ?_
        refine seq_nil' ?_
        refine wp_seq ?_
        refine cond_true E rfl (rfl) ?_
        refine wp_skip ?_
        refine then_normal ?_
        refine wp_seq ?_
        refine wp_block ?_
        refine code_region ?_
        refine sw (v := cellAt a (i * 3)) E (run_indexR (i := i) rfl M.fact rfl rfl (rfl) (hi) T.slice130 T.size111) fun fr E => ?_
        refine sw (v := .agg #[.int .i64 (l[i]'hi).1, .int .i64 (l[i]'hi).2.1, .int .i64 (l[i]'hi).2.2]) E (run_loadRN (k := i * 3) rfl M.fact rfl T.agg111 (by omega) (by decide) (spc_get hi)) fun fr E => ?_
        refine snew (ob := .cells #[_, _, _] 111) (fun g => .pointer (some ⟨g, 0, none⟩)) E M rfl rfl rfl rfl rfl (run_allocN rfl T.zero111) fun g0 fr w M E => ?_
        refine sset (i := 0) (cs' := #[.int .i64 (l[i]'hi).1, .int .i64 (l[i]'hi).2.1, .int .i64 (l[i]'hi).2.2]) E M rfl rfl rfl rfl rfl (run_storeAll (vs := #[.int .i64 (l[i]'hi).1, .int .i64 (l[i]'hi).2.1, .int .i64 (l[i]'hi).2.2]) rfl rfl rfl T.size111 (rfl) (M.row (i := 0) rfl) rfl (by simp [Value.oneCell'])) rfl fun fr w M E => ?_
        refine seq_nil' ?_
        refine code_region ?_
        refine sw (v := .pointer (some ⟨_, 0, none⟩)) E (run_fieldAddr rfl rfl T.fld111_0) fun fr E => ?_
        refine sw (v := .int .i64 _) E (run_loadB rfl rfl T.one3 (M.row (i := 0) rfl) rfl) fun fr E => ?_
        refine sw (v := .pointer (some ⟨_, 1, none⟩)) E (run_fieldAddr rfl rfl T.fld111_1) fun fr E => ?_
        refine sw (v := .int .i64 _) E (run_loadB rfl rfl T.one3 (M.row (i := 0) rfl) rfl) fun fr E => ?_
        refine sw (v := .bool true) E (tst rfl (decide_eq_true h1)) fun fr E => ?_
        refine mv E fun fr E => ?_
        refine sno E rfl rfl rfl rfl fun fr E => ?_
        refine sno E rfl rfl rfl rfl fun fr E => ?_
        refine sno E rfl rfl rfl rfl fun fr E => ?_
        refine sno E rfl rfl rfl rfl fun fr E => ?_
        refine sno E rfl rfl rfl rfl fun fr E => ?_
        refine sw (v := .bool _) E (rfl) fun fr E => ?_
        refine seq_nil' ?_
        refine cond_true E rfl (rfl) ?_
        refine code_region ?_
        refine sw E (run_assignC rfl) fun fr E => ?_
        refine seq_nil' ?_
        refine wp_ret ?_
        refine block_ret ?_
        refine then_ret ?_
        refine then_ret ?_
        refine block_ret ?_
        refine then_ret ?_
        refine ret1 E rfl rfl ?_
        obtain rfl : r = false := by rw [← hr]; exact decide_eq_false (fun hc => by have := hc _ (List.getElem_mem hi); omega)
        exact given M
      · by_cases h2 : (l[i]'hi).2.2 < (l[i]'hi).1
        · refine code_region ?_
          refine sw (v := .bool true) E (tst rfl (decide_eq_true (by omega))) fun fr E => ?_
          refine seq_nil' ?_
          refine wp_seq ?_
          refine cond_true E rfl (rfl) ?_
          refine wp_skip ?_
          refine then_normal ?_
          refine wp_seq ?_
          refine wp_block ?_
          refine code_region ?_
          refine sw (v := cellAt a (i * 3)) E (run_indexR (i := i) rfl M.fact rfl rfl (rfl) (hi) T.slice130 T.size111) fun fr E => ?_
          refine sw (v := .agg #[.int .i64 (l[i]'hi).1, .int .i64 (l[i]'hi).2.1, .int .i64 (l[i]'hi).2.2]) E (run_loadRN (k := i * 3) rfl M.fact rfl T.agg111 (by omega) (by decide) (spc_get hi)) fun fr E => ?_
          refine snew (ob := .cells #[_, _, _] 111) (fun g => .pointer (some ⟨g, 0, none⟩)) E M rfl rfl rfl rfl rfl (run_allocN rfl T.zero111) fun g0 fr w M E => ?_
          refine sset (i := 0) (cs' := #[.int .i64 (l[i]'hi).1, .int .i64 (l[i]'hi).2.1, .int .i64 (l[i]'hi).2.2]) E M rfl rfl rfl rfl rfl (run_storeAll (vs := #[.int .i64 (l[i]'hi).1, .int .i64 (l[i]'hi).2.1, .int .i64 (l[i]'hi).2.2]) rfl rfl rfl T.size111 (rfl) (M.row (i := 0) rfl) rfl (by simp [Value.oneCell'])) rfl fun fr w M E => ?_
          refine seq_nil' ?_
          refine code_region ?_
          refine sw (v := .pointer (some ⟨_, 0, none⟩)) E (run_fieldAddr rfl rfl T.fld111_0) fun fr E => ?_
          refine sw (v := .int .i64 _) E (run_loadB rfl rfl T.one3 (M.row (i := 0) rfl) rfl) fun fr E => ?_
          refine sw (v := .pointer (some ⟨_, 1, none⟩)) E (run_fieldAddr rfl rfl T.fld111_1) fun fr E => ?_
          refine sw (v := .int .i64 _) E (run_loadB rfl rfl T.one3 (M.row (i := 0) rfl) rfl) fun fr E => ?_
          refine sw (v := .bool false) E (tst rfl (decide_eq_false h1)) fun fr E => ?_
          refine mv E fun fr E => ?_
          refine sw (v := .pointer (some ⟨_, 0, none⟩)) E (run_fieldAddr rfl rfl T.fld111_0) fun fr E => ?_
          refine sw (v := .int .i64 _) E (run_loadB rfl rfl T.one3 (M.row (i := 0) rfl) rfl) fun fr E => ?_
          refine sw (v := .pointer (some ⟨_, 2, none⟩)) E (run_fieldAddr rfl rfl T.fld111_2) fun fr E => ?_
          refine sw (v := .int .i64 _) E (run_loadB rfl rfl T.one3 (M.row (i := 0) rfl) rfl) fun fr E => ?_
          refine sw (v := .bool true) E (tst rfl (decide_eq_true h2)) fun fr E => ?_
          refine sw (v := .bool _) E (rfl) fun fr E => ?_
          refine seq_nil' ?_
          refine cond_true E rfl (rfl) ?_
          refine code_region ?_
          refine sw E (run_assignC rfl) fun fr E => ?_
          refine seq_nil' ?_
          refine wp_ret ?_
          refine block_ret ?_
          refine then_ret ?_
          refine then_ret ?_
          refine block_ret ?_
          refine then_ret ?_
          refine ret1 E rfl rfl ?_
          obtain rfl : r = false := by rw [← hr]; exact decide_eq_false (fun hc => by have := hc _ (List.getElem_mem hi); omega)
          exact given M
        · refine code_region ?_
          refine sw (v := .bool true) E (tst rfl (decide_eq_true (by omega))) fun fr E => ?_
          refine seq_nil' ?_
          refine wp_seq ?_
          refine cond_true E rfl (rfl) ?_
          refine wp_skip ?_
          refine then_normal ?_
          refine wp_seq ?_
          refine wp_block ?_
          refine code_region ?_
          refine sw (v := cellAt a (i * 3)) E (run_indexR (i := i) rfl M.fact rfl rfl (rfl) (hi) T.slice130 T.size111) fun fr E => ?_
          refine sw (v := .agg #[.int .i64 (l[i]'hi).1, .int .i64 (l[i]'hi).2.1, .int .i64 (l[i]'hi).2.2]) E (run_loadRN (k := i * 3) rfl M.fact rfl T.agg111 (by omega) (by decide) (spc_get hi)) fun fr E => ?_
          refine snew (ob := .cells #[_, _, _] 111) (fun g => .pointer (some ⟨g, 0, none⟩)) E M rfl rfl rfl rfl rfl (run_allocN rfl T.zero111) fun g0 fr w M E => ?_
          refine sset (i := 0) (cs' := #[.int .i64 (l[i]'hi).1, .int .i64 (l[i]'hi).2.1, .int .i64 (l[i]'hi).2.2]) E M rfl rfl rfl rfl rfl (run_storeAll (vs := #[.int .i64 (l[i]'hi).1, .int .i64 (l[i]'hi).2.1, .int .i64 (l[i]'hi).2.2]) rfl rfl rfl T.size111 (rfl) (M.row (i := 0) rfl) rfl (by simp [Value.oneCell'])) rfl fun fr w M E => ?_
          refine seq_nil' ?_
          refine code_region ?_
          refine sw (v := .pointer (some ⟨_, 0, none⟩)) E (run_fieldAddr rfl rfl T.fld111_0) fun fr E => ?_
          refine sw (v := .int .i64 _) E (run_loadB rfl rfl T.one3 (M.row (i := 0) rfl) rfl) fun fr E => ?_
          refine sw (v := .pointer (some ⟨_, 1, none⟩)) E (run_fieldAddr rfl rfl T.fld111_1) fun fr E => ?_
          refine sw (v := .int .i64 _) E (run_loadB rfl rfl T.one3 (M.row (i := 0) rfl) rfl) fun fr E => ?_
          refine sw (v := .bool false) E (tst rfl (decide_eq_false h1)) fun fr E => ?_
          refine mv E fun fr E => ?_
          refine sw (v := .pointer (some ⟨_, 0, none⟩)) E (run_fieldAddr rfl rfl T.fld111_0) fun fr E => ?_
          refine sw (v := .int .i64 _) E (run_loadB rfl rfl T.one3 (M.row (i := 0) rfl) rfl) fun fr E => ?_
          refine sw (v := .pointer (some ⟨_, 2, none⟩)) E (run_fieldAddr rfl rfl T.fld111_2) fun fr E => ?_
          refine sw (v := .int .i64 _) E (run_loadB rfl rfl T.one3 (M.row (i := 0) rfl) rfl) fun fr E => ?_
          refine sw (v := .bool false) E (tst rfl (decide_eq_false h2)) fun fr E => ?_
          refine sw (v := .bool _) E (rfl) fun fr E => ?_
          refine seq_nil' ?_
          refine cond_false E rfl (rfl) ?_
          refine wp_skip ?_
          refine block_normal ?_
          refine then_normal ?_
          refine code_last ?_
          refine sw (v := .int _ (((i + 1 : Nat) : Int))) E (num rfl ((i64_id (by omega) (by omega)).trans (by omega))) fun fr E => ?_
          refine mv E fun fr E => ?_
          refine seq_nil ?_
          refine then_any ?_
          exact ⟨l.length - (i + 1), by omega, i + 1, rfl, by omega, fun j hj hj2 => (by rcases Nat.lt_or_eq_of_le (Nat.le_of_lt_succ hj) with h | rfl; exact hall j h hj2; omega), (((Env.nil E).add E (t := 7) rfl).add E (t := 6) rfl).add E (t := 5) rfl, M.sub (List.nil_sublist _)⟩
    · obtain rfl : i = l.length := by omega
      refine code_region ?_
      refine sw (v := .bool false) E (tst rfl (decide_eq_false (by omega))) fun fr E => ?_
      refine seq_nil' ?_
      refine wp_seq ?_
      refine cond_false E rfl (rfl) ?_
      refine wp_exit ?_
      refine then_exit ?_
      refine then_exit ?_
      refine block_exit ?_
      refine then_normal ?_
      refine code_region ?_
      refine sw E (run_assignC rfl) fun fr E => ?_
      refine seq_nil' ?_
      refine wp_ret ?_
      refine ret1 E rfl rfl ?_
      obtain rfl : r = true := by rw [← hr]; exact decide_eq_true (fun s hs => by obtain ⟨j, hj, rfl⟩ := List.getElem_of_mem hs; exact hall j hj hj)
      exact given M

set_option maxRecDepth 100000 in
theorem gneed_x {s l b m : Int} {w0 : World} (hl : 32 ≤ l ∧ l ≤ 64) (hm : 1 ≤ m ∧ m ≤ 64) : Gives Tryz.prog 53 [.agg #[.int .i64 s, .int .i64 l, .int .i64 b], .int .i64 m] w0 (.int .i64 ((m * 4 + l - 2) / (l - 1))) := by
  refine enter (n := 15) Tryz.func53 rfl rfl rfl ?_
  intro fr E
  have M : Mem w0 (feet []) [] (fun _ => True) w0 := Mem.begin (Has.nil w0) (fun _ _ => trivial)
  refine code_region ?_
  refine snew (ob := .cells (#[.int .i64 s, .int .i64 l, .int .i64 b]) 35) (fun g => .pointer (some ⟨g, 0, none⟩)) E M rfl rfl rfl rfl rfl (run_boxN (cs := (#[.int .i64 s, .int .i64 l, .int .i64 b])) rfl rfl) fun g0 fr w M E => ?_
  refine sw E (run_assignC rfl) fun fr E => ?_
  refine seq_nil' ?_
  refine code_region ?_
  refine mv E fun fr E => ?_
  refine sw (v := .int _ (m * 4)) E (num rfl (i64_id (by omega) (by omega))) fun fr E => ?_
  refine sw (v := .pointer (some ⟨_, 1, none⟩)) E (run_fieldAddr rfl rfl T.fld35_1) fun fr E => ?_
  refine sw (v := .int .i64 _) E (run_loadB rfl rfl T.one3 (M.row (i := 0) rfl) rfl) fun fr E => ?_
  refine sw (v := .int _ (m * 4 + l)) E (num rfl (i64_id (by omega) (by omega))) fun fr E => ?_
  refine sw (v := .int _ (m * 4 + l - 2)) E (num rfl (i64_id (by omega) (by omega))) fun fr E => ?_
  refine sw (v := .pointer (some ⟨_, 1, none⟩)) E (run_fieldAddr rfl rfl T.fld35_1) fun fr E => ?_
  refine sw (v := .int .i64 _) E (run_loadB rfl rfl T.one3 (M.row (i := 0) rfl) rfl) fun fr E => ?_
  refine sw (v := .int _ (l - 1)) E (num rfl (i64_id (by omega) (by omega))) fun fr E => ?_
  refine sw (v := .int .i64 ((m * 4 + l - 2) / (l - 1))) E (num (run_quoK rfl rfl rfl (by omega)) (by rw [Int.tdiv_eq_ediv_of_nonneg (by omega)]; have h1 := Int.ediv_nonneg (a := m * 4 + l - 2) (b := l - 1) (by omega) (by omega); have h2 := Int.ediv_le_self (a := m * 4 + l - 2) (l - 1) (by omega); exact i64_id (by omega) (by omega))) fun fr E => ?_
  refine ma E fun fr E => ?_
  refine seq_nil' ?_
  refine wp_ret ?_
  refine ret1 E rfl rfl ?_
  exact given M

set_option maxRecDepth 100000 in
theorem glean_x {s l b : Int} {w0 : World} (hl : 32 ≤ l ∧ l ≤ 64) : Gives Tryz.prog 54 [.agg #[.int .i64 s, .int .i64 l, .int .i64 b]] w0 (.int .i64 ((l - 1) / 5)) := by
  refine enter (n := 7) Tryz.func54 rfl rfl rfl ?_
  intro fr E
  have M : Mem w0 (feet []) [] (fun _ => True) w0 := Mem.begin (Has.nil w0) (fun _ _ => trivial)
  refine code_region ?_
  refine snew (ob := .cells (#[.int .i64 s, .int .i64 l, .int .i64 b]) 35) (fun g => .pointer (some ⟨g, 0, none⟩)) E M rfl rfl rfl rfl rfl (run_boxN (cs := (#[.int .i64 s, .int .i64 l, .int .i64 b])) rfl rfl) fun g0 fr w M E => ?_
  refine sw E (run_assignC rfl) fun fr E => ?_
  refine seq_nil' ?_
  refine code_region ?_
  refine sw (v := .pointer (some ⟨_, 1, none⟩)) E (run_fieldAddr rfl rfl T.fld35_1) fun fr E => ?_
  refine sw (v := .int .i64 _) E (run_loadB rfl rfl T.one3 (M.row (i := 0) rfl) rfl) fun fr E => ?_
  refine sw (v := .int _ (l - 1)) E (num rfl (i64_id (by omega) (by omega))) fun fr E => ?_
  refine sw (v := .int .i64 ((l - 1) / 5)) E (num (run_quoK rfl rfl rfl (by decide)) (by rw [Int.tdiv_eq_ediv_of_nonneg (by omega)]; exact i64_id (by omega) (by omega))) fun fr E => ?_
  refine ma E fun fr E => ?_
  refine seq_nil' ?_
  refine wp_ret ?_
  refine ret1 E rfl rfl ?_
  exact given M

set_option maxRecDepth 100000 in
theorem may_no {s l b : Int} {w0 : World} (hs : ¬ SpanP [(s, 16, 32), (l, 32, 64), (b, 1, 64)]) : Gives Tryz.prog 30 [.agg #[.int .i64 s, .int .i64 l, .int .i64 b]] w0 (.bool false) := by
  refine enter (n := 32) Tryz.func30 rfl rfl rfl ?_
  intro fr E
  have M : Mem w0 (feet []) [] (fun _ => True) w0 := Mem.begin (Has.nil w0) (fun _ _ => trivial)
  refine code_region ?_
  refine snew (ob := .cells (#[.int .i64 s, .int .i64 l, .int .i64 b]) 35) (fun g => .pointer (some ⟨g, 0, none⟩)) E M rfl rfl rfl rfl rfl (run_boxN (cs := (#[.int .i64 s, .int .i64 l, .int .i64 b])) rfl rfl) fun g0 fr w M E => ?_
  refine sw E (run_assignC rfl) fun fr E => ?_
  refine seq_nil' ?_
  refine wp_seq (free_reg (B := T.tab30_1_b) (Vs := (.exact (.pointer (some ⟨_, 0, none⟩)) :: .exact (.int .i64 s) :: .exact (.agg ([.int .i64 s, .int .i64 16, .int .i64 32]).toArray) :: .exact (.pointer (some ⟨_, 1, none⟩)) :: .exact (.int .i64 l) :: .exact (.agg ([.int .i64 l, .int .i64 32, .int .i64 64]).toArray) :: .exact (.pointer (some ⟨_, 2, none⟩)) :: .exact (.int .i64 b) :: .exact (.agg ([.int .i64 b, .int .i64 1, .int .i64 64]).toArray) :: (.rel fun w v => Reads 3 w v 3 [.int .i64 s, .int .i64 16, .int .i64 32, .int .i64 l, .int .i64 32, .int .i64 64, .int .i64 b, .int .i64 1, .int .i64 64]) :: .exact (.bool false) :: .exact _ :: .exact undef :: .exact undef :: .exact undef :: .exact undef :: .exact undef :: .exact undef :: .exact undef :: .exact undef :: .exact undef :: .exact undef :: .exact undef :: .exact undef :: .exact undef :: .exact undef :: .exact undef :: .exact undef :: .exact (.bool _) :: .exact _ :: [])) T.tab30_1_i E T.mixed T.tab30_1 rfl (AllS.lasts ⟨trivial, trivial, trivial, trivial, trivial, trivial, trivial, trivial, trivial, (fun w w' v hx h => Reads.ext h hx), trivial, trivial, trivial, trivial, trivial, trivial, trivial, trivial, trivial, trivial, trivial, trivial, trivial, trivial, trivial, trivial, trivial, trivial, trivial, trivial, trivial⟩) ⟨fv rfl rfl (fun x w hx hk => run_fieldAddr rfl rfl T.fld35_0),
      fv rfl rfl (fun x w hx hk => run_loadB rfl rfl T.one3 ((M.ext ((Ext.drew _).trans hx)).row (i := 0) rfl) rfl),
      fv rfl rfl (fun x w hx hk => run_buildP (vs := [.int .i64 s, .int .i64 16, .int .i64 32]) (us := [.int .i64 s, .int .i64 16, .int .i64 32]) rfl rfl T.ts111 T.zeroL111 (rfl) rfl rfl (rfl)),
      fv rfl rfl (fun x w hx hk => run_fieldAddr rfl rfl T.fld35_1),
      fv rfl rfl (fun x w hx hk => run_loadB rfl rfl T.one3 ((M.ext ((Ext.drew _).trans hx)).row (i := 0) rfl) rfl),
      fv rfl rfl (fun x w hx hk => run_buildP (vs := [.int .i64 l, .int .i64 32, .int .i64 64]) (us := [.int .i64 l, .int .i64 32, .int .i64 64]) rfl rfl T.ts111 T.zeroL111 (rfl) rfl rfl (rfl)),
      fv rfl rfl (fun x w hx hk => run_fieldAddr rfl rfl T.fld35_2),
      fv rfl rfl (fun x w hx hk => run_loadB rfl rfl T.one3 ((M.ext ((Ext.drew _).trans hx)).row (i := 0) rfl) rfl),
      fv rfl rfl (fun x w hx hk => run_buildP (vs := [.int .i64 b, .int .i64 1, .int .i64 64]) (us := [.int .i64 b, .int .i64 1, .int .i64 64]) rfl rfl T.ts111 T.zeroL111 (rfl) rfl rfl (rfl)),
      fs_rel rfl rfl (fun x w hx hk => ⟨rfl, rfl, rfl, _, _, run_buildSliceA (us := [.int .i64 s, .int .i64 16, .int .i64 32, .int .i64 l, .int .i64 32, .int .i64 64, .int .i64 b, .int .i64 1, .int .i64 64]) (vs := [.agg #[.int .i64 s, .int .i64 16, .int .i64 32], .agg #[.int .i64 l, .int .i64 32, .int .i64 64], .agg #[.int .i64 b, .int .i64 1, .int .i64 64]]) rfl rfl rfl T.slice130 T.size111 T.zl111 rfl rfl rfl rfl rfl, Ext.alloc _ _, new_reads (n := 3) (sz := 3) rfl (by decide)⟩),
      fs_ext rfl rfl (fun x w hx hk => ⟨_, _, rfl, rfl, rfl, run_call rfl rfl T.fn52, (gwithin_x (l := [(s, 16, 32), (l, 32, 64), (b, 1, 64)]) (hk 9 rfl) (show 3 ≤ 1000 by decide) (decide_eq_false hs)).ext⟩),
      fv rfl rfl (fun x w hx hk => run_move rfl rfl),
      fs_no rfl rfl (fun x => ⟨rfl, rfl⟩),
      fs_no rfl rfl (fun x => ⟨rfl, rfl⟩),
      fs_no rfl rfl (fun x => ⟨rfl, rfl⟩),
      fs_no rfl rfl (fun x => ⟨rfl, rfl⟩),
      fs_no rfl rfl (fun x => ⟨rfl, rfl⟩),
      fs_no rfl rfl (fun x => ⟨rfl, rfl⟩),
      fs_no rfl rfl (fun x => ⟨rfl, rfl⟩),
      fs_no rfl rfl (fun x => ⟨rfl, rfl⟩),
      fs_no rfl rfl (fun x => ⟨rfl, rfl⟩),
      fs_no rfl rfl (fun x => ⟨rfl, rfl⟩),
      fs_no rfl rfl (fun x => ⟨rfl, rfl⟩),
      fs_no rfl rfl (fun x => ⟨rfl, rfl⟩),
      fs_no rfl rfl (fun x => ⟨rfl, rfl⟩),
      fs_no rfl rfl (fun x => ⟨rfl, rfl⟩),
      fs_no rfl rfl (fun x => ⟨rfl, rfl⟩),
      fs_no rfl rfl (fun x => ⟨rfl, rfl⟩),
      fv rfl rfl (fun x w hx hk => rfl),
      fv rfl rfl (fun x w hx hk => run_assign rfl rfl), trivial⟩ ?_)
  intro x fr w hx hk E
  have M := M.ext hx
  refine then_normal ?_
  refine wp_ret ?_
  refine ret1 E rfl rfl ?_
  exact given M

set_option maxRecDepth 100000 in
theorem may_lt {s l b : Int} {w0 : World} (hs : SpanP [(s, 16, 32), (l, 32, 64), (b, 1, 64)]) (hp : b + 9 < (s - ((b * 4 + l - 2) / (l - 1)) - 14) * ((l - 1) / 5 + 1)) : Gives Tryz.prog 30 [.agg #[.int .i64 s, .int .i64 l, .int .i64 b]] w0 (.bool true) := by
  refine enter (n := 32) Tryz.func30 rfl rfl rfl ?_
  intro fr E
  have M : Mem w0 (feet []) [] (fun _ => True) w0 := Mem.begin (Has.nil w0) (fun _ _ => trivial)
  refine code_region ?_
  refine snew (ob := .cells (#[.int .i64 s, .int .i64 l, .int .i64 b]) 35) (fun g => .pointer (some ⟨g, 0, none⟩)) E M rfl rfl rfl rfl rfl (run_boxN (cs := (#[.int .i64 s, .int .i64 l, .int .i64 b])) rfl rfl) fun g0 fr w M E => ?_
  refine sw E (run_assignC rfl) fun fr E => ?_
  refine seq_nil' ?_
  refine wp_seq (free_reg (B := T.tab30_1_b) (Vs := (.exact (.pointer (some ⟨_, 0, none⟩)) :: .exact (.int .i64 s) :: .exact (.agg ([.int .i64 s, .int .i64 16, .int .i64 32]).toArray) :: .exact (.pointer (some ⟨_, 1, none⟩)) :: .exact (.int .i64 l) :: .exact (.agg ([.int .i64 l, .int .i64 32, .int .i64 64]).toArray) :: .exact (.pointer (some ⟨_, 2, none⟩)) :: .exact (.int .i64 b) :: .exact (.agg ([.int .i64 b, .int .i64 1, .int .i64 64]).toArray) :: (.rel fun w v => Reads 3 w v 3 [.int .i64 s, .int .i64 16, .int .i64 32, .int .i64 l, .int .i64 32, .int .i64 64, .int .i64 b, .int .i64 1, .int .i64 64]) :: .exact (.bool true) :: .exact _ :: .exact (.pointer (some ⟨_, 2, none⟩)) :: .exact (.int .i64 b) :: .exact (.int _ (b + 9)) :: .exact (.pointer (some ⟨_, 0, none⟩)) :: .exact (.int .i64 s) :: .exact (.agg #[.int .i64 s, .int .i64 l, .int .i64 b]) :: .exact (.pointer (some ⟨_, 2, none⟩)) :: .exact (.int .i64 b) :: .exact (.int .i64 ((b * 4 + l - 2) / (l - 1))) :: .exact (.int _ (s - ((b * 4 + l - 2) / (l - 1)))) :: .exact (.int _ (s - ((b * 4 + l - 2) / (l - 1)) - 14)) :: .exact (.agg #[.int .i64 s, .int .i64 l, .int .i64 b]) :: .exact (.int .i64 ((l - 1) / 5)) :: .exact (.int _ ((l - 1) / 5 + 1)) :: .exact (.int _ ((s - ((b * 4 + l - 2) / (l - 1)) - 14) * ((l - 1) / 5 + 1))) :: .exact (.bool true) :: .exact (.bool _) :: .exact _ :: [])) T.tab30_1_i E T.mixed T.tab30_1 rfl (AllS.lasts ⟨trivial, trivial, trivial, trivial, trivial, trivial, trivial, trivial, trivial, (fun w w' v hx h => Reads.ext h hx), trivial, trivial, trivial, trivial, trivial, trivial, trivial, trivial, trivial, trivial, trivial, trivial, trivial, trivial, trivial, trivial, trivial, trivial, trivial, trivial, trivial⟩) ⟨fv rfl rfl (fun x w hx hk => run_fieldAddr rfl rfl T.fld35_0),
      fv rfl rfl (fun x w hx hk => run_loadB rfl rfl T.one3 ((M.ext ((Ext.drew _).trans hx)).row (i := 0) rfl) rfl),
      fv rfl rfl (fun x w hx hk => run_buildP (vs := [.int .i64 s, .int .i64 16, .int .i64 32]) (us := [.int .i64 s, .int .i64 16, .int .i64 32]) rfl rfl T.ts111 T.zeroL111 (rfl) rfl rfl (rfl)),
      fv rfl rfl (fun x w hx hk => run_fieldAddr rfl rfl T.fld35_1),
      fv rfl rfl (fun x w hx hk => run_loadB rfl rfl T.one3 ((M.ext ((Ext.drew _).trans hx)).row (i := 0) rfl) rfl),
      fv rfl rfl (fun x w hx hk => run_buildP (vs := [.int .i64 l, .int .i64 32, .int .i64 64]) (us := [.int .i64 l, .int .i64 32, .int .i64 64]) rfl rfl T.ts111 T.zeroL111 (rfl) rfl rfl (rfl)),
      fv rfl rfl (fun x w hx hk => run_fieldAddr rfl rfl T.fld35_2),
      fv rfl rfl (fun x w hx hk => run_loadB rfl rfl T.one3 ((M.ext ((Ext.drew _).trans hx)).row (i := 0) rfl) rfl),
      fv rfl rfl (fun x w hx hk => run_buildP (vs := [.int .i64 b, .int .i64 1, .int .i64 64]) (us := [.int .i64 b, .int .i64 1, .int .i64 64]) rfl rfl T.ts111 T.zeroL111 (rfl) rfl rfl (rfl)),
      fs_rel rfl rfl (fun x w hx hk => ⟨rfl, rfl, rfl, _, _, run_buildSliceA (us := [.int .i64 s, .int .i64 16, .int .i64 32, .int .i64 l, .int .i64 32, .int .i64 64, .int .i64 b, .int .i64 1, .int .i64 64]) (vs := [.agg #[.int .i64 s, .int .i64 16, .int .i64 32], .agg #[.int .i64 l, .int .i64 32, .int .i64 64], .agg #[.int .i64 b, .int .i64 1, .int .i64 64]]) rfl rfl rfl T.slice130 T.size111 T.zl111 rfl rfl rfl rfl rfl, Ext.alloc _ _, new_reads (n := 3) (sz := 3) rfl (by decide)⟩),
      fs_ext rfl rfl (fun x w hx hk => ⟨_, _, rfl, rfl, rfl, run_call rfl rfl T.fn52, (gwithin_x (l := [(s, 16, 32), (l, 32, 64), (b, 1, 64)]) (hk 9 rfl) (show 3 ≤ 1000 by decide) (decide_eq_true hs)).ext⟩),
      fv rfl rfl (fun x w hx hk => run_move rfl rfl),
      fv rfl rfl (fun x w hx hk => run_fieldAddr rfl rfl T.fld35_2),
      fv rfl rfl (fun x w hx hk => run_loadB rfl rfl T.one3 ((M.ext ((Ext.drew _).trans hx)).row (i := 0) rfl) rfl),
      fv rfl rfl (fun x w hx hk => num rfl (i64_id (by have := span3 hs; omega) (by have := span3 hs; omega))),
      fv rfl rfl (fun x w hx hk => run_fieldAddr rfl rfl T.fld35_0),
      fv rfl rfl (fun x w hx hk => run_loadB rfl rfl T.one3 ((M.ext ((Ext.drew _).trans hx)).row (i := 0) rfl) rfl),
      fv rfl rfl (fun x w hx hk => run_loadAll rfl rfl T.agg35 ((M.ext ((Ext.drew _).trans hx)).row (i := 0) rfl) rfl),
      fv rfl rfl (fun x w hx hk => run_fieldAddr rfl rfl T.fld35_2),
      fv rfl rfl (fun x w hx hk => run_loadB rfl rfl T.one3 ((M.ext ((Ext.drew _).trans hx)).row (i := 0) rfl) rfl),
      fs_ext rfl rfl (fun x w hx hk => ⟨_, _, rfl, rfl, rfl, run_call rfl rfl T.fn53, (gneed_x (span3 hs).2.1 (span3 hs).2.2).ext⟩),
      fv rfl rfl (fun x w hx hk => num rfl (i64_id (by have := span3 hs; have := (may_bnd (span3 hs)); omega) (by have := span3 hs; have := (may_bnd (span3 hs)); omega))),
      fv rfl rfl (fun x w hx hk => num rfl (i64_id (by have := span3 hs; have := (may_bnd (span3 hs)); omega) (by have := span3 hs; have := (may_bnd (span3 hs)); omega))),
      fv rfl rfl (fun x w hx hk => run_loadAll rfl rfl T.agg35 ((M.ext ((Ext.drew _).trans hx)).row (i := 0) rfl) rfl),
      fs_ext rfl rfl (fun x w hx hk => ⟨_, _, rfl, rfl, rfl, run_call rfl rfl T.fn54, (glean_x (span3 hs).2.1).ext⟩),
      fv rfl rfl (fun x w hx hk => num rfl (i64_id (by have := span3 hs; omega) (by have := span3 hs; omega))),
      fv rfl rfl (fun x w hx hk => num rfl (i64_id (by have := span3 hs; have := (may_bnd (span3 hs)); omega) (by have := span3 hs; have := (may_bnd (span3 hs)); omega))),
      fv rfl rfl (fun x w hx hk => tst rfl (decide_eq_true hp)),
      fv rfl rfl (fun x w hx hk => rfl),
      fv rfl rfl (fun x w hx hk => run_assign rfl rfl), trivial⟩ ?_)
  intro x fr w hx hk E
  have M := M.ext hx
  refine then_normal ?_
  refine wp_ret ?_
  refine ret1 E rfl rfl ?_
  exact given M

set_option maxRecDepth 100000 in
theorem may_ge {s l b : Int} {w0 : World} (hs : SpanP [(s, 16, 32), (l, 32, 64), (b, 1, 64)]) (hp : ¬ b + 9 < (s - ((b * 4 + l - 2) / (l - 1)) - 14) * ((l - 1) / 5 + 1)) : Gives Tryz.prog 30 [.agg #[.int .i64 s, .int .i64 l, .int .i64 b]] w0 (.bool false) := by
  refine enter (n := 32) Tryz.func30 rfl rfl rfl ?_
  intro fr E
  have M : Mem w0 (feet []) [] (fun _ => True) w0 := Mem.begin (Has.nil w0) (fun _ _ => trivial)
  refine code_region ?_
  refine snew (ob := .cells (#[.int .i64 s, .int .i64 l, .int .i64 b]) 35) (fun g => .pointer (some ⟨g, 0, none⟩)) E M rfl rfl rfl rfl rfl (run_boxN (cs := (#[.int .i64 s, .int .i64 l, .int .i64 b])) rfl rfl) fun g0 fr w M E => ?_
  refine sw E (run_assignC rfl) fun fr E => ?_
  refine seq_nil' ?_
  refine wp_seq (free_reg (B := T.tab30_1_b) (Vs := (.exact (.pointer (some ⟨_, 0, none⟩)) :: .exact (.int .i64 s) :: .exact (.agg ([.int .i64 s, .int .i64 16, .int .i64 32]).toArray) :: .exact (.pointer (some ⟨_, 1, none⟩)) :: .exact (.int .i64 l) :: .exact (.agg ([.int .i64 l, .int .i64 32, .int .i64 64]).toArray) :: .exact (.pointer (some ⟨_, 2, none⟩)) :: .exact (.int .i64 b) :: .exact (.agg ([.int .i64 b, .int .i64 1, .int .i64 64]).toArray) :: (.rel fun w v => Reads 3 w v 3 [.int .i64 s, .int .i64 16, .int .i64 32, .int .i64 l, .int .i64 32, .int .i64 64, .int .i64 b, .int .i64 1, .int .i64 64]) :: .exact (.bool true) :: .exact _ :: .exact (.pointer (some ⟨_, 2, none⟩)) :: .exact (.int .i64 b) :: .exact (.int _ (b + 9)) :: .exact (.pointer (some ⟨_, 0, none⟩)) :: .exact (.int .i64 s) :: .exact (.agg #[.int .i64 s, .int .i64 l, .int .i64 b]) :: .exact (.pointer (some ⟨_, 2, none⟩)) :: .exact (.int .i64 b) :: .exact (.int .i64 ((b * 4 + l - 2) / (l - 1))) :: .exact (.int _ (s - ((b * 4 + l - 2) / (l - 1)))) :: .exact (.int _ (s - ((b * 4 + l - 2) / (l - 1)) - 14)) :: .exact (.agg #[.int .i64 s, .int .i64 l, .int .i64 b]) :: .exact (.int .i64 ((l - 1) / 5)) :: .exact (.int _ ((l - 1) / 5 + 1)) :: .exact (.int _ ((s - ((b * 4 + l - 2) / (l - 1)) - 14) * ((l - 1) / 5 + 1))) :: .exact (.bool false) :: .exact (.bool _) :: .exact _ :: [])) T.tab30_1_i E T.mixed T.tab30_1 rfl (AllS.lasts ⟨trivial, trivial, trivial, trivial, trivial, trivial, trivial, trivial, trivial, (fun w w' v hx h => Reads.ext h hx), trivial, trivial, trivial, trivial, trivial, trivial, trivial, trivial, trivial, trivial, trivial, trivial, trivial, trivial, trivial, trivial, trivial, trivial, trivial, trivial, trivial⟩) ⟨fv rfl rfl (fun x w hx hk => run_fieldAddr rfl rfl T.fld35_0),
      fv rfl rfl (fun x w hx hk => run_loadB rfl rfl T.one3 ((M.ext ((Ext.drew _).trans hx)).row (i := 0) rfl) rfl),
      fv rfl rfl (fun x w hx hk => run_buildP (vs := [.int .i64 s, .int .i64 16, .int .i64 32]) (us := [.int .i64 s, .int .i64 16, .int .i64 32]) rfl rfl T.ts111 T.zeroL111 (rfl) rfl rfl (rfl)),
      fv rfl rfl (fun x w hx hk => run_fieldAddr rfl rfl T.fld35_1),
      fv rfl rfl (fun x w hx hk => run_loadB rfl rfl T.one3 ((M.ext ((Ext.drew _).trans hx)).row (i := 0) rfl) rfl),
      fv rfl rfl (fun x w hx hk => run_buildP (vs := [.int .i64 l, .int .i64 32, .int .i64 64]) (us := [.int .i64 l, .int .i64 32, .int .i64 64]) rfl rfl T.ts111 T.zeroL111 (rfl) rfl rfl (rfl)),
      fv rfl rfl (fun x w hx hk => run_fieldAddr rfl rfl T.fld35_2),
      fv rfl rfl (fun x w hx hk => run_loadB rfl rfl T.one3 ((M.ext ((Ext.drew _).trans hx)).row (i := 0) rfl) rfl),
      fv rfl rfl (fun x w hx hk => run_buildP (vs := [.int .i64 b, .int .i64 1, .int .i64 64]) (us := [.int .i64 b, .int .i64 1, .int .i64 64]) rfl rfl T.ts111 T.zeroL111 (rfl) rfl rfl (rfl)),
      fs_rel rfl rfl (fun x w hx hk => ⟨rfl, rfl, rfl, _, _, run_buildSliceA (us := [.int .i64 s, .int .i64 16, .int .i64 32, .int .i64 l, .int .i64 32, .int .i64 64, .int .i64 b, .int .i64 1, .int .i64 64]) (vs := [.agg #[.int .i64 s, .int .i64 16, .int .i64 32], .agg #[.int .i64 l, .int .i64 32, .int .i64 64], .agg #[.int .i64 b, .int .i64 1, .int .i64 64]]) rfl rfl rfl T.slice130 T.size111 T.zl111 rfl rfl rfl rfl rfl, Ext.alloc _ _, new_reads (n := 3) (sz := 3) rfl (by decide)⟩),
      fs_ext rfl rfl (fun x w hx hk => ⟨_, _, rfl, rfl, rfl, run_call rfl rfl T.fn52, (gwithin_x (l := [(s, 16, 32), (l, 32, 64), (b, 1, 64)]) (hk 9 rfl) (show 3 ≤ 1000 by decide) (decide_eq_true hs)).ext⟩),
      fv rfl rfl (fun x w hx hk => run_move rfl rfl),
      fv rfl rfl (fun x w hx hk => run_fieldAddr rfl rfl T.fld35_2),
      fv rfl rfl (fun x w hx hk => run_loadB rfl rfl T.one3 ((M.ext ((Ext.drew _).trans hx)).row (i := 0) rfl) rfl),
      fv rfl rfl (fun x w hx hk => num rfl (i64_id (by have := span3 hs; omega) (by have := span3 hs; omega))),
      fv rfl rfl (fun x w hx hk => run_fieldAddr rfl rfl T.fld35_0),
      fv rfl rfl (fun x w hx hk => run_loadB rfl rfl T.one3 ((M.ext ((Ext.drew _).trans hx)).row (i := 0) rfl) rfl),
      fv rfl rfl (fun x w hx hk => run_loadAll rfl rfl T.agg35 ((M.ext ((Ext.drew _).trans hx)).row (i := 0) rfl) rfl),
      fv rfl rfl (fun x w hx hk => run_fieldAddr rfl rfl T.fld35_2),
      fv rfl rfl (fun x w hx hk => run_loadB rfl rfl T.one3 ((M.ext ((Ext.drew _).trans hx)).row (i := 0) rfl) rfl),
      fs_ext rfl rfl (fun x w hx hk => ⟨_, _, rfl, rfl, rfl, run_call rfl rfl T.fn53, (gneed_x (span3 hs).2.1 (span3 hs).2.2).ext⟩),
      fv rfl rfl (fun x w hx hk => num rfl (i64_id (by have := span3 hs; have := (may_bnd (span3 hs)); omega) (by have := span3 hs; have := (may_bnd (span3 hs)); omega))),
      fv rfl rfl (fun x w hx hk => num rfl (i64_id (by have := span3 hs; have := (may_bnd (span3 hs)); omega) (by have := span3 hs; have := (may_bnd (span3 hs)); omega))),
      fv rfl rfl (fun x w hx hk => run_loadAll rfl rfl T.agg35 ((M.ext ((Ext.drew _).trans hx)).row (i := 0) rfl) rfl),
      fs_ext rfl rfl (fun x w hx hk => ⟨_, _, rfl, rfl, rfl, run_call rfl rfl T.fn54, (glean_x (span3 hs).2.1).ext⟩),
      fv rfl rfl (fun x w hx hk => num rfl (i64_id (by have := span3 hs; omega) (by have := span3 hs; omega))),
      fv rfl rfl (fun x w hx hk => num rfl (i64_id (by have := span3 hs; have := (may_bnd (span3 hs)); omega) (by have := span3 hs; have := (may_bnd (span3 hs)); omega))),
      fv rfl rfl (fun x w hx hk => tst rfl (decide_eq_false hp)),
      fv rfl rfl (fun x w hx hk => rfl),
      fv rfl rfl (fun x w hx hk => run_assign rfl rfl), trivial⟩ ?_)
  intro x fr w hx hk E
  have M := M.ext hx
  refine then_normal ?_
  refine wp_ret ?_
  refine ret1 E rfl rfl ?_
  exact given M

theorem gmay_x {s l b : Int} {r : Bool} {w0 : World} (hr : decide (GMay s l b) = r) : Gives Tryz.prog 30 [.agg #[.int .i64 s, .int .i64 l, .int .i64 b]] w0 (.bool r) := by
  subst hr
  by_cases hs : SpanP [(s, 16, 32), (l, 32, 64), (b, 1, 64)]
  · by_cases hp : b + 9 < (s - ((b * 4 + l - 2) / (l - 1)) - 14) * ((l - 1) / 5 + 1)
    · rw [decide_eq_true (show GMay s l b from ⟨hs, hp⟩)]; exact may_lt hs hp
    · rw [decide_eq_false (show ¬ GMay s l b from fun c => hp c.2)]; exact may_ge hs hp
  · rw [decide_eq_false (show ¬ GMay s l b from fun c => hs c.1)]; exact may_no hs

set_option maxRecDepth 100000 in
theorem Check_ok {s l b : Int} {w0 : World} (hg : GMay s l b) : Gives Tryz.prog 16 [.agg #[.int .i64 s, .int .i64 l, .int .i64 b]] w0 (.int .i64 0) := by
  refine enter (n := 6) Tryz.func16 rfl rfl rfl ?_
  intro fr E
  have M : Mem w0 (feet []) [] (fun _ => True) w0 := Mem.begin (Has.nil w0) (fun _ _ => trivial)
  refine code_region ?_
  refine snew (ob := .cells (#[.int .i64 s, .int .i64 l, .int .i64 b]) 35) (fun g => .pointer (some ⟨g, 0, none⟩)) E M rfl rfl rfl rfl rfl (run_boxN (cs := (#[.int .i64 s, .int .i64 l, .int .i64 b])) rfl rfl) fun g0 fr w M E => ?_
  refine sw E (run_assignC rfl) fun fr E => ?_
  refine seq_nil' ?_
  refine wp_seq ?_
  refine code_region ?_
  refine sw (v := .agg #[_, _, _]) E (run_loadAll rfl rfl T.agg35 (M.row (i := 0) rfl) rfl) fun fr E => ?_
  refine sgive E M rfl rfl rfl rfl rfl (run_call rfl rfl T.fn30) (gmay_x (decide_eq_true hg)) fun fr w M E => ?_
  refine sw (v := .bool _) E (rfl) fun fr E => ?_
  refine seq_nil' ?_
  refine cond_false E rfl (rfl) ?_
  refine wp_skip ?_
  refine then_normal ?_
  refine code_region ?_
  refine sw E (run_assignC rfl) fun fr E => ?_
  refine seq_nil' ?_
  refine wp_ret ?_
  refine ret1 E rfl rfl ?_
  exact given M

set_option maxRecDepth 100000 in
theorem Sectors_ok {s l b : Int} {w0 : World} (hg : GMay s l b) : Gives Tryz.prog 17 [.agg #[.int .i64 s, .int .i64 l, .int .i64 b]] w0 (.int .i64 (3 + s * l)) := by
  refine enter (n := 12) Tryz.func17 rfl rfl rfl ?_
  intro fr E
  have M : Mem w0 (feet []) [] (fun _ => True) w0 := Mem.begin (Has.nil w0) (fun _ _ => trivial)
  refine code_region ?_
  refine snew (ob := .cells (#[.int .i64 s, .int .i64 l, .int .i64 b]) 35) (fun g => .pointer (some ⟨g, 0, none⟩)) E M rfl rfl rfl rfl rfl (run_boxN (cs := (#[.int .i64 s, .int .i64 l, .int .i64 b])) rfl rfl) fun g0 fr w M E => ?_
  refine sw E (run_assignC rfl) fun fr E => ?_
  refine seq_nil' ?_
  refine wp_seq ?_
  refine code_region ?_
  refine sw (v := .agg #[_, _, _]) E (run_loadAll rfl rfl T.agg35 (M.row (i := 0) rfl) rfl) fun fr E => ?_
  refine sgive E M rfl rfl rfl rfl rfl (run_call rfl rfl T.fn30) (gmay_x (decide_eq_true hg)) fun fr w M E => ?_
  refine sw (v := .bool _) E (rfl) fun fr E => ?_
  refine seq_nil' ?_
  refine cond_false E rfl (rfl) ?_
  refine wp_skip ?_
  refine then_normal ?_
  refine code_region ?_
  refine sw (v := .pointer (some ⟨_, 0, none⟩)) E (run_fieldAddr rfl rfl T.fld35_0) fun fr E => ?_
  refine sw (v := .int .i64 _) E (run_loadB rfl rfl T.one3 (M.row (i := 0) rfl) rfl) fun fr E => ?_
  refine sw (v := .pointer (some ⟨_, 1, none⟩)) E (run_fieldAddr rfl rfl T.fld35_1) fun fr E => ?_
  refine sw (v := .int .i64 _) E (run_loadB rfl rfl T.one3 (M.row (i := 0) rfl) rfl) fun fr E => ?_
  refine sw (v := .int _ (s * l)) E (num rfl (i64_id (by have := gmay_sl hg; omega) (by have := gmay_sl hg; omega))) fun fr E => ?_
  refine sw (v := .int _ (3 + s * l)) E (num rfl (i64_id (by have := gmay_sl hg; omega) (by have := gmay_sl hg; omega))) fun fr E => ?_
  refine ma E fun fr E => ?_
  refine seq_nil' ?_
  refine wp_ret ?_
  refine ret1 E rfl rfl ?_
  exact given M

set_option maxRecDepth 100000 in
theorem Check_no {s l b : Int} {w0 : World} (hg : ¬ GMay s l b) : Gives Tryz.prog 16 [.agg #[.int .i64 s, .int .i64 l, .int .i64 b]] w0 (.int .i64 15) := by
  refine enter (n := 6) Tryz.func16 rfl rfl rfl ?_
  intro fr E
  have M : Mem w0 (feet []) [] (fun _ => True) w0 := Mem.begin (Has.nil w0) (fun _ _ => trivial)
  refine code_region ?_
  refine snew (ob := .cells (#[.int .i64 s, .int .i64 l, .int .i64 b]) 35) (fun g => .pointer (some ⟨g, 0, none⟩)) E M rfl rfl rfl rfl rfl (run_boxN (cs := (#[.int .i64 s, .int .i64 l, .int .i64 b])) rfl rfl) fun g0 fr w M E => ?_
  refine sw E (run_assignC rfl) fun fr E => ?_
  refine seq_nil' ?_
  refine wp_seq ?_
  refine code_region ?_
  refine sw (v := .agg #[_, _, _]) E (run_loadAll rfl rfl T.agg35 (M.row (i := 0) rfl) rfl) fun fr E => ?_
  refine sgive E M rfl rfl rfl rfl rfl (run_call rfl rfl T.fn30) (gmay_x (decide_eq_false hg)) fun fr w M E => ?_
  refine sw (v := .bool _) E (rfl) fun fr E => ?_
  refine seq_nil' ?_
  refine cond_true E rfl (rfl) ?_
  refine code_region ?_
  refine sw E (run_assignC rfl) fun fr E => ?_
  refine seq_nil' ?_
  refine wp_ret ?_
  refine then_ret ?_
  refine ret1 E rfl rfl ?_
  exact given M

set_option maxRecDepth 100000 in
theorem Small_x {w0 : World} : Gives Tryz.prog 27 [] w0 (.agg #[.int .i64 18, .int .i64 32, .int .i64 4]) := by
  refine enter (n := 2) Tryz.func27 rfl rfl rfl ?_
  intro fr E
  have M : Mem w0 (feet []) [] (fun _ => True) w0 := Mem.begin (Has.nil w0) (fun _ _ => trivial)
  refine code_region ?_
  refine snew (ob := .cells #[_, _, _] 35) (fun g => .pointer (some ⟨g, 0, none⟩)) E M rfl rfl rfl rfl rfl (run_allocN rfl T.zero35) fun g0 fr w M E => ?_
  refine seq_nil' ?_
  refine code_region ?_
  refine sw (v := .agg ([_, _, _]).toArray) E (run_buildP (vs := [_, _, _]) (us := [_, _, _]) rfl rfl T.ts35 T.zeroL35 rfl rfl rfl rfl) fun fr E => ?_
  refine sset (i := 0) (cs' := #[_, _, _]) E M rfl rfl rfl rfl rfl (run_storeN' (vs := #[_, _, _]) rfl rfl rfl T.size35 rfl (M.row (i := 0) rfl) rfl rfl rfl) rfl fun fr w M E => ?_
  refine seq_nil' ?_
  refine wp_ret ?_
  refine retC E rfl rfl T.agg35 (M.row (i := 0) rfl) (rfl) ?_
  exact given M
end Go.Proofs.YtnebjbgcibjohaaGreat.K
end
section
namespace Go.Rill.T
open Go.Proofs
abbrev tab23_4_b : List Nat := [0, 1, 3, 7, 0, 0, 32, 96, 224, 0, 992, 2047, 4095]
theorem tab23_4 : tabOk (regOps Tryz.f23 4) tab23_4_b 48 = true := by kernel_rfl
abbrev tab23_4_j : List Nat := [0, 1, 2, 3, 4, 5, 6, 7, 8, 9, 10, 11]
end Go.Rill.T
end
section
namespace Go.Rill.T
open Go.Proofs
abbrev tab19_4_b : List Nat := [0, 1, 3, 7, 0, 0, 32, 127, 255]
theorem tab19_4 : tabOk (regOps Tryz.f19 4) tab19_4_b 28 = true := by kernel_rfl
abbrev tab19_4_j : List Nat := [0, 1, 2, 3, 4, 5, 6, 7]
end Go.Rill.T
end
section
namespace Go.Rill.T
open Go.Proofs
theorem fn44 : goFn Tryz.prog 44 = true := by kernel_rfl
theorem fn62 : goFn Tryz.prog 62 = true := by kernel_rfl
theorem fn63 : goFn Tryz.prog 63 = true := by kernel_rfl
end Go.Rill.T
end
section
namespace Go.Rill.T
open Go.Proofs
end Go.Rill.T
end
section
namespace Go.Proofs.YtnebjbgcibjohaaGreat.K
open Go.RowKit Go.Rill Go.Proofs
set_option linter.unusedVariables false
set_option linter.unusedSimpArgs false
def Dsk.sync (S : Dsk) : Dsk := { S with left := w64 (S.left - 1), lasts := S.lasts.mapIdx fun j v => (iget S.cache (j : Int)).getD v, cache := [] }
set_option maxRecDepth 100000 in
theorem Sync_off {gd gm : Nat} {lv rv : Value} {S : Dsk} {w0 : World} (H : Has w0 (dsk gd gm lv rv S)) (hS : S.Ok) (h : S.off = true) : Does Tryz.prog 40 [.pointer (some ⟨gd, 0, none⟩)] w0 (dsk gd gm lv rv S) (fun _ : Unit => .int .i64 12) (fun _ => dsk gd gm lv rv S) (fun _ => True) := by
  refine enter (n := 32) Tryz.func40 rfl rfl rfl ?_
  intro fr E
  have M : Mem w0 (feet (dsk gd gm lv rv S)) (dsk gd gm lv rv S) (fun _ => True) w0 := Mem.begin H (fun _ _ => trivial)
  refine code_region ?_
  refine sw E (run_assignC rfl) fun fr E => ?_
  refine seq_nil' ?_
  refine wp_seq ?_
  refine code_region ?_
  refine mv E fun fr E => ?_
  refine scallI (dsk gd gm lv rv S) E M rfl rfl rfl rfl rfl (run_call rfl rfl T.fn61) rfl (fun H => Spend_off H hS h) ?_
  rintro _ fr w - M E
  refine ma E fun fr E => ?_
  refine seq_nil' ?_
  refine code_region ?_
  refine mv E fun fr E => ?_
  refine sw (v := .bool _) E (rfl) fun fr E => ?_
  refine seq_nil' ?_
  refine cond_true E rfl (rfl) ?_
  refine code_region ?_
  refine mv E fun fr E => ?_
  refine ma E fun fr E => ?_
  refine seq_nil' ?_
  refine wp_ret ?_
  refine then_ret ?_
  refine ret1 E rfl rfl ?_
  exact ⟨(), rfl, M.fin (List.Sublist.refl _) trivial⟩

set_option maxRecDepth 100000 in
theorem Sync_fail {gd gm : Nat} {lv rv : Value} {S : Dsk} {w0 : World} (H : Has w0 (dsk gd gm lv rv S)) (hS : S.Ok) (h : S.off = false) (ha : S.armed = true) (hl : S.left = 0) : Does Tryz.prog 40 [.pointer (some ⟨gd, 0, none⟩)] w0 (dsk gd gm lv rv S) (fun _ : Unit => .int .i64 12) (fun _ => dsk gd gm lv rv { S with off := true }) (fun _ => True) := by
  refine enter (n := 32) Tryz.func40 rfl rfl rfl ?_
  intro fr E
  have M : Mem w0 (feet (dsk gd gm lv rv S)) (dsk gd gm lv rv S) (fun _ => True) w0 := Mem.begin H (fun _ _ => trivial)
  refine code_region ?_
  refine sw E (run_assignC rfl) fun fr E => ?_
  refine seq_nil' ?_
  refine wp_seq ?_
  refine code_region ?_
  refine mv E fun fr E => ?_
  refine scallI (dsk gd gm lv rv S) E M rfl rfl rfl rfl rfl (run_call rfl rfl T.fn61) rfl (fun H => Spend_fail H hS h ha hl) ?_
  rintro _ fr w - M E
  refine ma E fun fr E => ?_
  refine seq_nil' ?_
  refine code_region ?_
  refine mv E fun fr E => ?_
  refine sw (v := .bool _) E (rfl) fun fr E => ?_
  refine seq_nil' ?_
  refine cond_true E rfl (rfl) ?_
  refine code_region ?_
  refine mv E fun fr E => ?_
  refine ma E fun fr E => ?_
  refine seq_nil' ?_
  refine wp_ret ?_
  refine then_ret ?_
  refine ret1 E rfl rfl ?_
  exact ⟨(), rfl, M.fin (List.Sublist.refl _) trivial⟩

set_option maxRecDepth 100000 in
theorem Sync_armed {gd gm : Nat} {lv rv : Value} {S : Dsk} {w0 : World} (H : Has w0 (dsk gd gm lv rv S)) (hS : S.Ok) (h : S.off = false) (ha : S.armed = true) (hl : ¬ S.left = 0) (hkn : (S.cache.map (·.key)).Nodup) (hkr : ∀ e ∈ S.cache, 0 ≤ e.key ∧ e.key < (S.n : Int)) (hbn : (S.cache.map (·.born)).Nodup) (hbo : ∀ e ∈ S.cache, e.born < S.clock) : Does Tryz.prog 40 [.pointer (some ⟨gd, 0, none⟩)] w0 (dsk gd gm lv rv S) (fun _ : Unit => .int .i64 0) (fun _ => dsk gd gm lv rv S.sync) (fun _ => True) := by
  refine enter (n := 32) Tryz.func40 rfl rfl rfl ?_
  intro fr E
  have M : Mem w0 (feet (dsk gd gm lv rv S)) (dsk gd gm lv rv S) (fun _ => True) w0 := Mem.begin H (fun _ _ => trivial)
  refine code_region ?_
  refine sw E (run_assignC rfl) fun fr E => ?_
  refine seq_nil' ?_
  refine wp_seq ?_
  refine code_region ?_
  refine mv E fun fr E => ?_
  refine scallI (dsk gd gm lv rv S) E M rfl rfl rfl rfl rfl (run_call rfl rfl T.fn61) rfl (fun H => Spend_armed H hS h ha hl) ?_
  rintro _ fr w - M E
  refine ma E fun fr E => ?_
  refine seq_nil' ?_
  refine code_region ?_
  refine mv E fun fr E => ?_
  refine sw (v := .bool _) E (rfl) fun fr E => ?_
  refine seq_nil' ?_
  refine cond_false E rfl (rfl) ?_
  refine wp_skip ?_
  refine then_normal ?_
  refine wp_seq ?_
  refine code_region ?_
  refine mv E fun fr E => ?_
  refine sw E (run_nilCheck rfl rfl) fun fr E => ?_
  refine sw (v := .pointer (some ⟨_, 1, none⟩)) E (run_fieldAddr rfl rfl T.fld71_1) fun fr E => ?_
  refine sw (v := .map _) E (run_loadB rfl rfl T.one69 (M.row (i := 0) rfl) rfl) fun fr E => ?_
  refine snew (ob := .mapIter (some gm) S.clock #[] S.clock) (fun g => .pointer (some ⟨g, 0, none⟩)) E M rfl rfl rfl rfl rfl (run_rangeI rfl rfl T.map69 (M.ent 2 rfl)) fun gi fr w M E => ?_
  refine seq_nil' ?_
  refine wp_block ?_
  refine loop_dec (fun d fr w => ∃ seen : Array Nat, d = (leftOf (imap S.cache) seen).size ∧ Env [(0, .pointer (some ⟨gd, 0, none⟩)), (2, .int .i64 0), (15, .pointer (some ⟨gi, 0, none⟩))] 32 fr ∧ Mem w0 (feet (dsk gd gm lv rv S)) (.blk gi (.mapIter (some gm) S.clock seen S.clock) :: dsk gd gm lv rv { S with left := w64 (S.left - 1), lasts := syn S.cache seen S.lasts }) (fun _ => True) w) ((leftOf (imap S.cache) #[]).size) ?_ ?_
  · refine ⟨#[], rfl, (((Env.nil E).add E (t := 15) rfl).add E (t := 2) rfl).add E (t := 0) rfl, ?_⟩
    rw [syn_none]
    exact M
  · clear E M
    rintro d fr w ⟨seen, hd, E, M⟩
    by_cases h0 : (leftOf (imap S.cache) seen).size = 0
    · have hall : ∀ e ∈ S.cache, seen.contains e.born = true := fun e he => all_seen _ _ h0 _ (imap_has he)
      refine code_region ?_
      refine sw (v := .tuple #[.bool false]) E (run_nextNo rfl rfl (M.ent 0 rfl) (M.ent 3 rfl) hbo h0) fun fr E => ?_
      refine sw E (run_extract rfl rfl rfl) fun fr E => ?_
      refine seq_nil' ?_
      refine wp_seq ?_
      refine cond_false E rfl (rfl) ?_
      refine wp_exit ?_
      refine then_exit ?_
      refine then_exit ?_
      refine block_exit ?_
      refine then_normal ?_
      refine code_region ?_
      refine mv E fun fr E => ?_
      refine sw E (run_nilCheck rfl rfl) fun fr E => ?_
      refine sw (v := .pointer (some ⟨_, 1, none⟩)) E (run_fieldAddr rfl rfl T.fld71_1) fun fr E => ?_
      refine sw (v := .map _) E (run_loadB rfl rfl T.one69 (M.row (i := 1) rfl) rfl) fun fr E => ?_
      refine smclear (i := 3) E M rfl rfl rfl rfl rfl rfl rfl rfl rfl T.map69 fun fr w M E => ?_
      refine seq_nil' ?_
      refine code_region ?_
      refine sw E (run_assignC rfl) fun fr E => ?_
      refine seq_nil' ?_
      refine wp_ret ?_
      refine ret1 E rfl rfl ?_
      rw [syn_all hall] at M
      exact ⟨(), rfl, Mem.fin (L := _ :: dsk gd gm lv rv S.sync) M (List.sublist_cons_self _ _) trivial⟩
    · refine code_region ?_
      refine snext (i := 0) (j := 3) E M rfl rfl rfl rfl rfl rfl rfl rfl rfl hbo h0 fun e he hse hsm fr w M E => ?_
      refine sw E (run_extract rfl rfl rfl) fun fr E => ?_
      refine seq_nil' ?_
      refine wp_seq ?_
      refine cond_true E rfl (rfl) ?_
      refine wp_skip ?_
      refine then_normal ?_
      refine wp_block ?_
      refine code_region ?_
      obtain ⟨i, hi, hin⟩ : ∃ i : Nat, e.key = (i : Int) ∧ i < S.n := ⟨e.key.toNat, by have := hkr e he; omega, by have := hkr e he; omega⟩
      obtain ⟨l, hl, hl2⟩ := hS.cache e he
      refine sw (v := .tuple #[_, _]) E (run_entryI rfl rfl (M.ent 0 rfl) (M.ent 3 rfl) he hbn) fun fr E => ?_
      refine sw E (run_extract rfl rfl rfl) fun fr E => ?_
      refine sw E (run_extract rfl rfl rfl) fun fr E => ?_
      refine ma E fun fr E => ?_
      refine ma E fun fr E => ?_
      refine seq_nil' ?_
      refine code_last ?_
      refine mv E fun fr E => ?_
      refine sw E (run_nilCheck rfl rfl) fun fr E => ?_
      refine sw (v := .pointer (some ⟨_, 0, none⟩)) E (run_fieldAddr rfl rfl T.fld71_0) fun fr E => ?_
      refine sw E (run_loadB rfl rfl T.one68 (M.row (i := 1) rfl) rfl) fun fr E => ?_
      refine mv E fun fr E => ?_
      refine mv E fun fr E => ?_
      refine sw E (run_indexR (i := i) rfl (M.reads 2 rfl) rfl rfl (hi) (hin) T.slice68 T.size36) fun fr E => ?_
      refine ssetR (i := 2) (k := i * 1) (xs' := syn S.cache (seen.push e.born) S.lasts) E M rfl rfl rfl rfl rfl rfl rfl rfl T.size36 (by show i * 1 < S.n * 1; omega) (by obtain ⟨b', c', e'⟩ := Reads.slice (M.pooled (i := 5) rfl hl); rw [show e.val = _ from e']; rfl) (by rw [Nat.mul_one]; exact syn_step he hkn hbn hi) fun fr w M E => ?_
      refine seq_nil ?_
      refine block_normal ?_
      refine then_any ?_
      exact ⟨_, by rw [hd]; exact hsm, seen.push e.born, rfl, (((Env.nil E).add E (t := 15) rfl).add E (t := 2) rfl).add E (t := 0) rfl, M⟩

set_option maxRecDepth 100000 in
theorem Sync_free {gd gm : Nat} {lv rv : Value} {S : Dsk} {w0 : World} (H : Has w0 (dsk gd gm lv rv S)) (hS : S.Ok) (h : S.off = false) (ha : S.armed = false) (hkn : (S.cache.map (·.key)).Nodup) (hkr : ∀ e ∈ S.cache, 0 ≤ e.key ∧ e.key < (S.n : Int)) (hbn : (S.cache.map (·.born)).Nodup) (hbo : ∀ e ∈ S.cache, e.born < S.clock) : Does Tryz.prog 40 [.pointer (some ⟨gd, 0, none⟩)] w0 (dsk gd gm lv rv S) (fun _ : Unit => .int .i64 0) (fun _ => dsk gd gm lv rv S.sync) (fun _ => True) := by
  refine enter (n := 32) Tryz.func40 rfl rfl rfl ?_
  intro fr E
  have M : Mem w0 (feet (dsk gd gm lv rv S)) (dsk gd gm lv rv S) (fun _ => True) w0 := Mem.begin H (fun _ _ => trivial)
  refine code_region ?_
  refine sw E (run_assignC rfl) fun fr E => ?_
  refine seq_nil' ?_
  refine wp_seq ?_
  refine code_region ?_
  refine mv E fun fr E => ?_
  refine scallI (dsk gd gm lv rv S) E M rfl rfl rfl rfl rfl (run_call rfl rfl T.fn61) rfl (fun H => Spend_free H hS h ha) ?_
  rintro _ fr w - M E
  refine ma E fun fr E => ?_
  refine seq_nil' ?_
  refine code_region ?_
  refine mv E fun fr E => ?_
  refine sw (v := .bool _) E (rfl) fun fr E => ?_
  refine seq_nil' ?_
  refine cond_false E rfl (rfl) ?_
  refine wp_skip ?_
  refine then_normal ?_
  refine wp_seq ?_
  refine code_region ?_
  refine mv E fun fr E => ?_
  refine sw E (run_nilCheck rfl rfl) fun fr E => ?_
  refine sw (v := .pointer (some ⟨_, 1, none⟩)) E (run_fieldAddr rfl rfl T.fld71_1) fun fr E => ?_
  refine sw (v := .map _) E (run_loadB rfl rfl T.one69 (M.row (i := 0) rfl) rfl) fun fr E => ?_
  refine snew (ob := .mapIter (some gm) S.clock #[] S.clock) (fun g => .pointer (some ⟨g, 0, none⟩)) E M rfl rfl rfl rfl rfl (run_rangeI rfl rfl T.map69 (M.ent 2 rfl)) fun gi fr w M E => ?_
  refine seq_nil' ?_
  refine wp_block ?_
  refine loop_dec (fun d fr w => ∃ seen : Array Nat, d = (leftOf (imap S.cache) seen).size ∧ Env [(0, .pointer (some ⟨gd, 0, none⟩)), (2, .int .i64 0), (15, .pointer (some ⟨gi, 0, none⟩))] 32 fr ∧ Mem w0 (feet (dsk gd gm lv rv S)) (.blk gi (.mapIter (some gm) S.clock seen S.clock) :: dsk gd gm lv rv { S with left := w64 (S.left - 1), lasts := syn S.cache seen S.lasts }) (fun _ => True) w) ((leftOf (imap S.cache) #[]).size) ?_ ?_
  · refine ⟨#[], rfl, (((Env.nil E).add E (t := 15) rfl).add E (t := 2) rfl).add E (t := 0) rfl, ?_⟩
    rw [syn_none]
    exact M
  · clear E M
    rintro d fr w ⟨seen, hd, E, M⟩
    by_cases h0 : (leftOf (imap S.cache) seen).size = 0
    · have hall : ∀ e ∈ S.cache, seen.contains e.born = true := fun e he => all_seen _ _ h0 _ (imap_has he)
      refine code_region ?_
      refine sw (v := .tuple #[.bool false]) E (run_nextNo rfl rfl (M.ent 0 rfl) (M.ent 3 rfl) hbo h0) fun fr E => ?_
      refine sw E (run_extract rfl rfl rfl) fun fr E => ?_
      refine seq_nil' ?_
      refine wp_seq ?_
      refine cond_false E rfl (rfl) ?_
      refine wp_exit ?_
      refine then_exit ?_
      refine then_exit ?_
      refine block_exit ?_
      refine then_normal ?_
      refine code_region ?_
      refine mv E fun fr E => ?_
      refine sw E (run_nilCheck rfl rfl) fun fr E => ?_
      refine sw (v := .pointer (some ⟨_, 1, none⟩)) E (run_fieldAddr rfl rfl T.fld71_1) fun fr E => ?_
      refine sw (v := .map _) E (run_loadB rfl rfl T.one69 (M.row (i := 1) rfl) rfl) fun fr E => ?_
      refine smclear (i := 3) E M rfl rfl rfl rfl rfl rfl rfl rfl rfl T.map69 fun fr w M E => ?_
      refine seq_nil' ?_
      refine code_region ?_
      refine sw E (run_assignC rfl) fun fr E => ?_
      refine seq_nil' ?_
      refine wp_ret ?_
      refine ret1 E rfl rfl ?_
      rw [syn_all hall] at M
      exact ⟨(), rfl, Mem.fin (L := _ :: dsk gd gm lv rv S.sync) M (List.sublist_cons_self _ _) trivial⟩
    · refine code_region ?_
      refine snext (i := 0) (j := 3) E M rfl rfl rfl rfl rfl rfl rfl rfl rfl hbo h0 fun e he hse hsm fr w M E => ?_
      refine sw E (run_extract rfl rfl rfl) fun fr E => ?_
      refine seq_nil' ?_
      refine wp_seq ?_
      refine cond_true E rfl (rfl) ?_
      refine wp_skip ?_
      refine then_normal ?_
      refine wp_block ?_
      refine code_region ?_
      obtain ⟨i, hi, hin⟩ : ∃ i : Nat, e.key = (i : Int) ∧ i < S.n := ⟨e.key.toNat, by have := hkr e he; omega, by have := hkr e he; omega⟩
      obtain ⟨l, hl, hl2⟩ := hS.cache e he
      refine sw (v := .tuple #[_, _]) E (run_entryI rfl rfl (M.ent 0 rfl) (M.ent 3 rfl) he hbn) fun fr E => ?_
      refine sw E (run_extract rfl rfl rfl) fun fr E => ?_
      refine sw E (run_extract rfl rfl rfl) fun fr E => ?_
      refine ma E fun fr E => ?_
      refine ma E fun fr E => ?_
      refine seq_nil' ?_
      refine code_last ?_
      refine mv E fun fr E => ?_
      refine sw E (run_nilCheck rfl rfl) fun fr E => ?_
      refine sw (v := .pointer (some ⟨_, 0, none⟩)) E (run_fieldAddr rfl rfl T.fld71_0) fun fr E => ?_
      refine sw E (run_loadB rfl rfl T.one68 (M.row (i := 1) rfl) rfl) fun fr E => ?_
      refine mv E fun fr E => ?_
      refine mv E fun fr E => ?_
      refine sw E (run_indexR (i := i) rfl (M.reads 2 rfl) rfl rfl (hi) (hin) T.slice68 T.size36) fun fr E => ?_
      refine ssetR (i := 2) (k := i * 1) (xs' := syn S.cache (seen.push e.born) S.lasts) E M rfl rfl rfl rfl rfl rfl rfl rfl T.size36 (by show i * 1 < S.n * 1; omega) (by obtain ⟨b', c', e'⟩ := Reads.slice (M.pooled (i := 5) rfl hl); rw [show e.val = _ from e']; rfl) (by rw [Nat.mul_one]; exact syn_step he hkn hbn hi) fun fr w M E => ?_
      refine seq_nil ?_
      refine block_normal ?_
      refine then_any ?_
      exact ⟨_, by rw [hd]; exact hsm, seen.push e.born, rfl, (((Env.nil E).add E (t := 15) rfl).add E (t := 2) rfl).add E (t := 0) rfl, M⟩
end Go.Proofs.YtnebjbgcibjohaaGreat.K
end
section
namespace Go.Proofs.YtnebjbgcibjohaaGreat.K
open Go.RowKit Go.Rill Go.Proofs
set_option linter.unusedVariables false
set_option linter.unusedSimpArgs false
/-- What the cache has lasts. -/
def AD.sync (A : AD) : Int × AD := if A.off = true then (12, A) else if A.armed = true ∧ A.left = 0 then (12, { A with off := true }) else (0, { A with left := w64 (A.left - 1), last := A.last.mapIdx fun j l => (aget A.cache (j : Int)).getD l, cache := [] })
theorem lrel_mapIdx {ps : List (Value × List UInt8)} : ∀ {vs : List Value} {ls : List (List UInt8)} {f : Nat → Value → Value} {g : Nat → List UInt8 → List UInt8}, (∀ j v l, (v, l) ∈ ps → l.length ≤ 1024 → (f j v, g j l) ∈ ps ∧ (g j l).length ≤ 1024) → LRel ps vs ls → LRel ps (vs.mapIdx f) (ls.mapIdx g)
  | [], [], _, _, _, _ => by simp [LRel]
  | [], _ :: _, _, _, _, h => h.elim
  | _ :: _, [], _, _, _, h => h.elim
  | v :: vs, l :: ls, f, g, hf, h => by
    rw [List.mapIdx_cons, List.mapIdx_cons]
    exact ⟨hf 0 v l h.1.1 h.1.2, lrel_mapIdx (fun j v l h1 h2 => hf (j + 1) v l h1 h2) h.2⟩
theorem crel_keys {ps : List (Value × List UInt8)} : ∀ {es : List IE} {c : List (Int × List UInt8)}, CRel ps es c → es.map (·.key) = c.map (·.1)
  | [], [], _ => rfl
  | [], _ :: _, h => h.elim
  | _ :: _, [], h => h.elim
  | e :: r, p :: q, h => by rw [List.map_cons, List.map_cons, h.1.1, crel_keys h.2]
theorem Dsk.Abs.keyr {S : Dsk} {A : AD} (h : S.Abs A) : ∀ e ∈ S.cache, 0 ≤ e.key ∧ e.key < (S.n : Int) := fun e he => by
  have h1 : e.key ∈ A.cache.map (·.1) := by rw [← crel_keys h.cache]; exact List.mem_map.2 ⟨e, he, rfl⟩
  obtain ⟨p, hp, hpe⟩ := List.mem_map.1 h1
  have := h.keys.2 p hp
  unfold AD.there at this
  rw [hpe] at this
  rw [h.n]
  exact this
theorem Dsk.Abs.keyn {S : Dsk} {A : AD} (h : S.Abs A) : (S.cache.map (·.key)).Nodup := by rw [crel_keys h.cache]; exact h.keys.1
theorem Dsk.Abs.synced {S : Dsk} {A : AD} (h : S.Abs A) : S.sync.Abs { A with left := w64 (A.left - 1), last := A.last.mapIdx fun j l => (aget A.cache (j : Int)).getD l, cache := [] } := by
  refine ⟨h.n, h.max, by simp [h.len], h.rlen, lrel_mapIdx (fun j v l h1 h2 => ?_) h.last, trivial, ⟨List.nodup_nil, fun p hp => nomatch hp⟩, ⟨List.nodup_nil, fun e he => nomatch he⟩, h.armed, ?_, h.off, h.writes, h.reads⟩
  · cases hc : iget S.cache (j : Int) with
    | none => rw [crel_none h.cache hc]; exact ⟨h1, h2⟩
    | some u => obtain ⟨m, h3, h4, h5⟩ := crel_some h.cache hc; rw [h3]; exact ⟨h4, h5⟩
  · show w64 (S.left - 1) = w64 (A.left - 1); rw [h.left]
theorem AD.read_sync {A : AD} (hl : A.last.length = A.n) (h0 : A.off = false) (h1 : ¬ (A.armed = true ∧ A.left = 0)) {j : Nat} (hj : j < A.n) : A.sync.2.read j = A.read j := by
  unfold AD.sync
  rw [if_neg (by simp [h0]), if_neg h1]
  unfold AD.read
  show (match (none : Option (List UInt8)) with | some l => l | none => _) = _
  simp only [List.getElem?_mapIdx]
  have : A.last[j]? = some (A.last[j]'(by omega)) := List.getElem?_eq_getElem (by omega)
  rw [this]
  cases aget A.cache (j : Int) <;> rfl
theorem Sync_a {D : DV} {g : Nat} {A : AD} {w0 : World} (H : Has w0 [dkE D]) (hD : D.is g A) : Does Tryz.prog 40 [.pointer (some ⟨g, 0, none⟩)] w0 [dkE D] (fun _ : DV => .int .i64 A.sync.1) (fun x => [dkE x]) (fun x => x.is g A.sync.2) := by
  obtain ⟨gd, gm, lv, rv, S⟩ := D
  obtain ⟨hg, hA⟩ := hD
  have hg : gd = g := hg
  have hA : S.Abs A := hA
  subst hg
  have same : ∀ (S' : Dsk) (r : Int), S'.Abs A.sync.2 → A.sync.1 = r → Does Tryz.prog 40 [.pointer (some ⟨gd, 0, none⟩)] w0 (dsk gd gm lv rv S) (fun _ : Unit => .int .i64 r) (fun _ => dsk gd gm lv rv S') (fun _ => True) → Does Tryz.prog 40 [.pointer (some ⟨gd, 0, none⟩)] w0 [dkE ⟨gd, gm, lv, rv, S⟩] (fun _ : DV => .int .i64 A.sync.1) (fun x => [dkE x]) (fun x => x.is gd A.sync.2) := fun S' r h1 h2 h =>
    Does.packed (B := fun _ : DV => []) (C := fun x => dk x) (fun _ => h) H fun _ _ => ⟨⟨gd, gm, lv, rv, S'⟩, by rw [h2], rfl, rfl, h1⟩
  by_cases h0 : A.off = true
  · have e : A.sync = (12, A) := by unfold AD.sync; rw [if_pos h0]
    exact same S 12 (by rw [e]; exact hA) (by rw [e]) (Sync_off H.unpack1 hA.ok (by rw [hA.off]; exact h0))
  have h0' : S.off = false := by rw [hA.off]; simpa using h0
  by_cases h3 : A.armed = true ∧ A.left = 0
  · have e : A.sync = (12, { A with off := true }) := by unfold AD.sync; rw [if_neg h0, if_pos h3]
    exact same { S with off := true } 12 (by rw [e]; exact ⟨hA.n, hA.max, hA.len, hA.rlen, hA.last, hA.cache, hA.keys, hA.born, hA.armed, hA.left, rfl, hA.writes, hA.reads⟩) (by rw [e]) (Sync_fail H.unpack1 hA.ok h0' (by rw [hA.armed]; exact h3.1) (by rw [hA.left]; exact h3.2))
  · have e : A.sync = (0, { A with left := w64 (A.left - 1), last := A.last.mapIdx fun j l => (aget A.cache (j : Int)).getD l, cache := [] }) := by unfold AD.sync; rw [if_neg h0, if_neg h3]
    refine same S.sync 0 (by rw [e]; exact hA.synced) (by rw [e]) ?_
    cases ha : S.armed with
    | true => exact Sync_armed H.unpack1 hA.ok h0' ha (fun c => h3 ⟨by rw [← hA.armed]; exact ha, by rw [← hA.left]; exact c⟩) hA.keyn hA.keyr hA.born.1 hA.born.2
    | false => exact Sync_free H.unpack1 hA.ok h0' ha hA.keyn hA.keyr hA.born.1 hA.born.2
end Go.Proofs.YtnebjbgcibjohaaGreat.K
end
section
namespace Go.Proofs.YtnebjbgcibjohaaGreat.K
open Go.RowKit Go.Rill Go.Proofs
set_option linter.unusedVariables false
set_option linter.unusedSimpArgs false
set_option maxRecDepth 100000 in
theorem Keys_x {gm : Nat} {w0 : World} : Does Tryz.prog 63 [.map (some gm)] w0 [] (fun g => .func (.func 79) #[] #[.pointer (some ⟨g, 0, none⟩)]) (fun g : Nat => [.blk g (.cells #[.map (some gm)] 69)]) (fun _ => True) := by
  refine enter (n := 4) Tryz.func63 rfl rfl rfl ?_
  intro fr E
  have M : Mem w0 (feet []) [] (fun _ => True) w0 := Mem.begin (Has.nil w0) (fun _ _ => trivial)
  refine code_region ?_
  refine snew (ob := .cells (#[.map (some gm)]) 69) (fun g => .pointer (some ⟨g, 0, none⟩)) E M rfl rfl rfl rfl rfl (run_box1 (v := _) rfl rfl rfl) fun g0 fr w M E => ?_
  refine sw E (run_assignC rfl) fun fr E => ?_
  refine seq_nil' ?_
  refine code_region ?_
  refine sw (v := .func (.func 79) #[] #[.pointer (some ⟨g0, 0, none⟩)]) E (run_makeFunc1 rfl rfl) fun fr E => ?_
  refine ma E fun fr E => ?_
  refine seq_nil' ?_
  refine wp_ret ?_
  refine ret1 E rfl rfl ?_
  exact ⟨g0, rfl, Mem.fin (L := [.blk g0 (.cells #[.map (some gm)] 69)]) M (List.Sublist.refl _) trivial⟩

end Go.Proofs.YtnebjbgcibjohaaGreat.K
end
section
namespace Go.Proofs.YtnebjbgcibjohaaGreat.K
open Go.RowKit Go.Rill Go.Proofs Go.Shelf
set_option linter.unusedVariables false
set_option linter.unusedSimpArgs false
attribute [local go_sem] Oper.semAt_some
end Go.Proofs.YtnebjbgcibjohaaGreat.K
end
section
namespace Go.Proofs.YtnebjbgcibjohaaGreat.K
open Go.RowKit Go.Rill Go.Proofs
set_option linter.unusedVariables false
set_option linter.unusedSimpArgs false
end Go.Proofs.YtnebjbgcibjohaaGreat.K
end
section
namespace Go.Proofs.YtnebjbgcibjohaaGreat.K
open Go.RowKit Go.Rill Go.Proofs
set_option linter.unusedVariables false
set_option linter.unusedSimpArgs false
def Dsk.tampered (S : Dsk) (j : Nat) (v : Value) (l : List UInt8) : Dsk := { S with lasts := S.lasts.set j v, cache := idel (j : Int) S.cache, ps := (v, l) :: S.ps }
set_option maxRecDepth 100000 in
theorem Tamper_out {gd gm : Nat} {lv rv : Value} {S : Dsk} {w0 : World} (H : Has w0 (dsk gd gm lv rv S)) (hS : S.Ok) {i : Int} {b : Value} {l : List UInt8} (hb : Bytes w0 b l) (hap : ∀ g, b.ownBlock = some g → ¬ feet (dsk gd gm lv rv S) g) (h : ¬ (0 ≤ i ∧ i < (S.n : Int))) : Does Tryz.prog 19 [.pointer (some ⟨gd, 0, none⟩), .int .i64 i, b] w0 (dsk gd gm lv rv S) (fun _ : Unit => .int .i64 7) (fun _ => dsk gd gm lv rv S) (fun _ => True) := by
  refine enter (n := 28) Tryz.func19 rfl rfl rfl ?_
  intro fr E
  have M : Mem w0 (feet (dsk gd gm lv rv S)) (dsk gd gm lv rv S) (fun w' => Bytes w' b l) w0 := Mem.begin H (fun w' h => Reads.held hb h hap)
  refine code_region ?_
  refine sw E (run_assignC rfl) fun fr E => ?_
  refine seq_nil' ?_
  refine wp_seq ?_
  refine code_region ?_
  refine mv E fun fr E => ?_
  refine mv E fun fr E => ?_
  refine mv E fun fr E => ?_
  refine scallI (dsk gd gm lv rv S) E M rfl rfl rfl rfl rfl (run_call rfl rfl T.fn31) rfl (fun H => wrong_out H hS M.fact hap h) ?_
  rintro _ fr w - M E
  refine ma E fun fr E => ?_
  refine seq_nil' ?_
  refine code_region ?_
  refine mv E fun fr E => ?_
  refine sw (v := .bool _) E (rfl) fun fr E => ?_
  refine seq_nil' ?_
  refine cond_true E rfl (rfl) ?_
  refine code_region ?_
  refine mv E fun fr E => ?_
  refine ma E fun fr E => ?_
  refine seq_nil' ?_
  refine wp_ret ?_
  refine then_ret ?_
  refine ret1 E rfl rfl ?_
  exact ⟨(), rfl, M.fin (List.Sublist.refl _) trivial⟩

set_option maxRecDepth 100000 in
theorem Tamper_long {gd gm : Nat} {lv rv : Value} {S : Dsk} {w0 : World} (H : Has w0 (dsk gd gm lv rv S)) (hS : S.Ok) {i : Int} {b : Value} {l : List UInt8} (hb : Bytes w0 b l) (hap : ∀ g, b.ownBlock = some g → ¬ feet (dsk gd gm lv rv S) g) (h : 0 ≤ i ∧ i < (S.n : Int)) (hl : 1024 < l.length) : Does Tryz.prog 19 [.pointer (some ⟨gd, 0, none⟩), .int .i64 i, b] w0 (dsk gd gm lv rv S) (fun _ : Unit => .int .i64 3) (fun _ => dsk gd gm lv rv S) (fun _ => True) := by
  refine enter (n := 28) Tryz.func19 rfl rfl rfl ?_
  intro fr E
  have M : Mem w0 (feet (dsk gd gm lv rv S)) (dsk gd gm lv rv S) (fun w' => Bytes w' b l) w0 := Mem.begin H (fun w' h => Reads.held hb h hap)
  refine code_region ?_
  refine sw E (run_assignC rfl) fun fr E => ?_
  refine seq_nil' ?_
  refine wp_seq ?_
  refine code_region ?_
  refine mv E fun fr E => ?_
  refine mv E fun fr E => ?_
  refine mv E fun fr E => ?_
  refine scallI (dsk gd gm lv rv S) E M rfl rfl rfl rfl rfl (run_call rfl rfl T.fn31) rfl (fun H => wrong_long H hS M.fact hap h hl) ?_
  rintro _ fr w - M E
  refine ma E fun fr E => ?_
  refine seq_nil' ?_
  refine code_region ?_
  refine mv E fun fr E => ?_
  refine sw (v := .bool _) E (rfl) fun fr E => ?_
  refine seq_nil' ?_
  refine cond_true E rfl (rfl) ?_
  refine code_region ?_
  refine mv E fun fr E => ?_
  refine ma E fun fr E => ?_
  refine seq_nil' ?_
  refine wp_ret ?_
  refine then_ret ?_
  refine ret1 E rfl rfl ?_
  exact ⟨(), rfl, M.fin (List.Sublist.refl _) trivial⟩

set_option maxRecDepth 100000 in
theorem Tamper_ok {gd gm : Nat} {lv rv : Value} {S : Dsk} {w0 : World} (H : Has w0 (dsk gd gm lv rv S)) (hS : S.Ok) {j : Nat} {b : Value} {l : List UInt8} (hb : Bytes w0 b l) (hap : ∀ g, b.ownBlock = some g → ¬ feet (dsk gd gm lv rv S) g) (hj : j < S.n) (h : 0 ≤ (j : Int) ∧ (j : Int) < (S.n : Int)) (hl : ¬ 1024 < l.length) : Does Tryz.prog 19 [.pointer (some ⟨gd, 0, none⟩), .int .i64 (j : Int), b] w0 (dsk gd gm lv rv S) (fun _ : Value => .int .i64 0) (fun v => dsk gd gm lv rv (S.tampered j v l)) (fun _ => True) := by
  refine enter (n := 28) Tryz.func19 rfl rfl rfl ?_
  intro fr E
  have M : Mem w0 (feet (dsk gd gm lv rv S)) (dsk gd gm lv rv S) (fun w' => Bytes w' b l) w0 := Mem.begin H (fun w' h => Reads.held hb h hap)
  refine code_region ?_
  refine sw E (run_assignC rfl) fun fr E => ?_
  refine seq_nil' ?_
  refine wp_seq ?_
  refine code_region ?_
  refine mv E fun fr E => ?_
  refine mv E fun fr E => ?_
  refine mv E fun fr E => ?_
  refine scallI (dsk gd gm lv rv S) E M rfl rfl rfl rfl rfl (run_call rfl rfl T.fn31) rfl (fun H => wrong_ok H hS M.fact hap h hl) ?_
  rintro _ fr w - M E
  refine ma E fun fr E => ?_
  refine seq_nil' ?_
  refine code_region ?_
  refine mv E fun fr E => ?_
  refine sw (v := .bool _) E (rfl) fun fr E => ?_
  refine seq_nil' ?_
  refine cond_false E rfl (rfl) ?_
  refine wp_skip ?_
  refine then_normal ?_
  refine wp_seq (free_last (B := T.tab19_4_b) (Vs := (.exact _ :: .exact _ :: .exact (.pointer (some ⟨_, 0, none⟩)) :: .exact _ :: .exact _ :: .exact _ :: CameV w.heap.size (fun v => [.bytes 5 v l]) (fun _ => True) :: .exact _ :: [])) T.tab19_4_j 8 E T.mixed T.tab19_4 rfl rfl rfl (AllS.lasts ⟨trivial, trivial, trivial, trivial, trivial, trivial, LastsS.cameV, trivial, trivial⟩) ⟨fv rfl rfl (fun x w hx hk => run_move rfl rfl),
      fv rfl rfl (fun x w hx hk => run_nilCheck rfl rfl),
      fv rfl rfl (fun x w hx hk => run_fieldAddr rfl rfl T.fld71_0),
      fv rfl rfl (fun x w hx hk => run_loadB rfl rfl T.one68 ((M.ext ((Ext.drew _).trans hx)).row (i := 0) rfl) rfl),
      fv rfl rfl (fun x w hx hk => run_move rfl rfl),
      fv rfl rfl (fun x w hx hk => run_move rfl rfl),
      fs_ext rfl rfl (fun x w hx hk => ⟨_, _, rfl, rfl, rfl, run_call rfl rfl T.fn32, (Clone_x (M.ext ((Ext.drew _).trans hx)).fact (by omega)).extV hx.size⟩),
      fv rfl rfl (fun x w hx hk => run_indexR (i := j) rfl ((M.ext ((Ext.drew _).trans hx)).reads 1 rfl) rfl rfl (rfl) (hj) T.slice68 T.size36), trivial⟩ ?_)
  intro x fr w hx hk E
  have M := M.adopts hx (hk 6 (by decide)).1 (hk 6 (by decide)).2.1
  refine last_setR (i := 2) (k := j * 1) (u := x 6) (xs' := S.lasts.set j (x 6)) E M rfl rfl rfl rfl rfl rfl rfl rfl rfl T.size36 (by omega) (by obtain ⟨b', c', e'⟩ := Reads.slice (M.bytes 0 rfl); rw [e']; rfl) (by rw [Nat.mul_one]) fun fr w M E => ?_
  refine then_normal ?_
  refine code_region ?_
  refine mv E fun fr E => ?_
  refine sw E (run_nilCheck rfl rfl) fun fr E => ?_
  refine sw (v := .pointer (some ⟨_, 1, none⟩)) E (run_fieldAddr rfl rfl T.fld71_1) fun fr E => ?_
  refine sw (v := .map _) E (run_loadB rfl rfl T.one69 (M.row (i := 1) rfl) rfl) fun fr E => ?_
  refine mv E fun fr E => ?_
  refine smdel (i := 3) E M rfl rfl rfl rfl rfl rfl rfl rfl rfl rfl T.map69 fun fr w M E => ?_
  refine seq_nil' ?_
  refine code_region ?_
  refine sw E (run_assignC rfl) fun fr E => ?_
  refine seq_nil' ?_
  refine wp_ret ?_
  refine ret1 E rfl rfl ?_
  have M := (M.pull 5 rfl).pull 1 rfl
  have M := M.pour.perm (L' := dsk gd gm lv rv (S.tampered j _ l)) (perm5 _ _ _ _ _)
  exact ⟨_, rfl, M.fin (List.Sublist.refl _) trivial⟩

set_option maxRecDepth 100000 in
theorem Arm_x {gd gm : Nat} {lv rv : Value} {S : Dsk} {w0 : World} (H : Has w0 (dsk gd gm lv rv S)) (hS : S.Ok) (n : Int) : Does Tryz.prog 28 [.pointer (some ⟨gd, 0, none⟩), .int .i64 n] w0 (dsk gd gm lv rv S) (fun _ : Unit => .tuple #[]) (fun _ => dsk gd gm lv rv { S with armed := decide (0 ≤ n), left := n }) (fun _ => True) := by
  refine enter (n := 13) Tryz.func28 rfl rfl rfl ?_
  intro fr E
  have M : Mem w0 (feet (dsk gd gm lv rv S)) (dsk gd gm lv rv S) (fun _ => True) w0 := Mem.begin H (fun _ _ => trivial)
  refine code_last ?_
  refine mv E fun fr E => ?_
  refine mv E fun fr E => ?_
  refine mv E fun fr E => ?_
  refine sw (v := .bool (decide (0 ≤ n))) E (rfl) fun fr E => ?_
  refine mv E fun fr E => ?_
  refine sw E (run_nilCheck rfl rfl) fun fr E => ?_
  refine sw (v := .pointer (some ⟨_, 2, none⟩)) E (run_fieldAddr rfl rfl T.fld71_2) fun fr E => ?_
  refine sset (i := 0) (cs' := #[_, _, _, _, _, _, _]) E M rfl rfl rfl rfl rfl (run_store1' (v := _) rfl rfl rfl T.size4 (M.row (i := 0) rfl) (rfl) (rfl) (rfl)) rfl fun fr w M E => ?_
  refine sw E (run_nilCheck rfl rfl) fun fr E => ?_
  refine sw (v := .pointer (some ⟨_, 3, none⟩)) E (run_fieldAddr rfl rfl T.fld71_3) fun fr E => ?_
  refine sset (i := 0) (cs' := #[_, _, _, _, _, _, _]) E M rfl rfl rfl rfl rfl (run_store1' (v := _) rfl rfl rfl T.size3 (M.row (i := 0) rfl) (rfl) (rfl) (rfl)) rfl fun fr w M E => ?_
  refine seq_nil ?_
  refine ret0 E rfl ?_
  exact ⟨(), rfl, M.fin (List.Sublist.refl _) trivial⟩

/-- A sector is written past the cache. -/
def AD.tamper (A : AD) (i : Int) (l : List UInt8) : Int × AD := if ¬ A.there i then (7, A) else if 1024 < l.length then (3, A) else (0, { A with last := A.last.set i.toNat l, cache := A.cache.filter fun p => !(p.1 == i) })
def AD.arm (A : AD) (n : Int) : AD := { A with armed := decide (0 ≤ n), left := n }
theorem Arm_a {D : DV} {g : Nat} {A : AD} {w0 : World} (H : Has w0 [dkE D]) (hD : D.is g A) (n : Int) : Does Tryz.prog 28 [.pointer (some ⟨g, 0, none⟩), .int .i64 n] w0 [dkE D] (fun _ : DV => .tuple #[]) (fun x => [dkE x]) (fun x => x.is g (A.arm n)) := by
  obtain ⟨gd, gm, lv, rv, S⟩ := D
  obtain ⟨hg, hA⟩ := hD
  have hg : gd = g := hg
  have hA : S.Abs A := hA
  subst hg
  exact Does.packed (B := fun _ : DV => []) (C := fun x => dk x) (fun _ => Arm_x H.unpack1 hA.ok n) H fun _ _ => ⟨⟨gd, gm, lv, rv, { S with armed := decide (0 ≤ n), left := n }⟩, rfl, rfl, rfl, ⟨hA.n, hA.max, hA.len, hA.rlen, hA.last, hA.cache, hA.keys, hA.born, rfl, rfl, hA.off, hA.writes, hA.reads⟩⟩
theorem lrel_set {ps : List (Value × List UInt8)} {u : Value} {k : List UInt8} (hu : (u, k) ∈ ps ∧ k.length ≤ 1024) : ∀ {vs : List Value} {ls : List (List UInt8)} {j : Nat}, LRel ps vs ls → LRel ps (vs.set j u) (ls.set j k)
  | [], [], _, _ => trivial
  | [], _ :: _, _, h => h.elim
  | _ :: _, [], _, h => h.elim
  | v :: vs, l :: ls, 0, h => ⟨hu, h.2⟩
  | v :: vs, l :: ls, j + 1, h => ⟨h.1, lrel_set hu h.2⟩
theorem crel_del {ps : List (Value × List UInt8)} {q : Int} : ∀ {es : List IE} {c : List (Int × List UInt8)}, (c.map (·.1)).Nodup → CRel ps es c → CRel ps (idel q es) (c.filter fun p => !(p.1 == q))
  | [], [], _, _ => trivial
  | [], _ :: _, _, h => h.elim
  | _ :: _, [], _, h => h.elim
  | e :: r, p :: s, hn, h => by
    rw [List.map_cons, List.nodup_cons] at hn
    rw [List.filter_cons]
    unfold idel
    by_cases hq : q = e.key
    · have hp : p.1 = q := by rw [hq]; exact h.1.1.symm
      rw [if_pos hq, if_neg (by simp [hp])]
      rw [List.filter_eq_self.2 fun x hx => by
        simp only [Bool.not_eq_true', beq_eq_false_iff_ne]
        exact fun c => hn.1 (List.mem_map.2 ⟨x, hx, c.trans hp.symm⟩)]
      exact h.2
    · have hp : ¬ p.1 = q := fun c => hq (c.symm.trans h.1.1.symm)
      rw [if_neg hq, if_pos (by simpa using hp)]
      exact ⟨h.1, crel_del hn.2 h.2⟩
theorem idel_sub (q : Int) : ∀ es : List IE, (idel q es).Sublist es
  | [] => .slnil
  | e :: r => by
    unfold idel
    split
    · exact List.sublist_cons_self _ _
    · exact (idel_sub q r).cons_cons _
theorem Tamper_a {D : DV} {g : Nat} {A : AD} {w0 : World} (H : Has w0 [dkE D]) (hD : D.is g A) {i : Int} {b : Value} {l : List UInt8} (hb : Bytes w0 b l) (hap : ∀ g, b.ownBlock = some g → g ∉ (dkE D).foot) : Does Tryz.prog 19 [.pointer (some ⟨g, 0, none⟩), .int .i64 i, b] w0 [dkE D] (fun _ : DV => .int .i64 (A.tamper i l).1) (fun x => [dkE x]) (fun x => x.is g (A.tamper i l).2) := by
  obtain ⟨gd, gm, lv, rv, S⟩ := D
  obtain ⟨hg, hA⟩ := hD
  have hg : gd = g := hg
  have hA : S.Abs A := hA
  subst hg
  have hap' : ∀ g, b.ownBlock = some g → ¬ feet (dsk gd gm lv rv S) g := fun g hg c => hap g hg (Ent.mem_all.2 c)
  have same : ∀ (r : Int), A.tamper i l = (r, A) → Does Tryz.prog 19 [.pointer (some ⟨gd, 0, none⟩), .int .i64 i, b] w0 (dsk gd gm lv rv S) (fun _ : Unit => .int .i64 r) (fun _ => dsk gd gm lv rv S) (fun _ => True) → Does Tryz.prog 19 [.pointer (some ⟨gd, 0, none⟩), .int .i64 i, b] w0 [dkE ⟨gd, gm, lv, rv, S⟩] (fun _ : DV => .int .i64 (A.tamper i l).1) (fun x => [dkE x]) (fun x => x.is gd (A.tamper i l).2) := fun r e h =>
    Does.packed (B := fun _ : DV => []) (C := fun x => dk x) (fun _ => h) H fun _ _ => ⟨⟨gd, gm, lv, rv, S⟩, by rw [e], rfl, rfl, by rw [e]; exact hA⟩
  by_cases h1 : A.there i
  · have h1' : 0 ≤ i ∧ i < (S.n : Int) := by rw [hA.n]; exact h1
    by_cases h2 : 1024 < l.length
    · exact same 3 (by unfold AD.tamper; rw [if_neg (by simpa using h1), if_pos h2]) (Tamper_long H.unpack1 hA.ok hb hap' h1' h2)
    · have e : A.tamper i l = (0, { A with last := A.last.set i.toNat l, cache := A.cache.filter fun p => !(p.1 == i) }) := by unfold AD.tamper; rw [if_neg (by simpa using h1), if_neg h2]
      obtain ⟨j, rfl⟩ : ∃ j : Nat, i = (j : Int) := ⟨i.toNat, by omega⟩
      have hj : j < S.n := by omega
      refine Does.packed (B := fun _ : DV => []) (C := fun x => dk x) (fun _ => Tamper_ok (j := j) H.unpack1 hA.ok hb hap' hj h1' h2) H fun v _ => ⟨⟨gd, gm, lv, rv, S.tampered j v l⟩, by rw [e], rfl, rfl, ?_⟩
      rw [e]
      refine ⟨hA.n, hA.max, by simp [hA.len], hA.rlen, lrel_set ⟨List.mem_cons_self .., by omega⟩ (lrel_mono hA.last), crel_del hA.keys.1 (crel_mono hA.cache), ⟨?_, fun p hp => hA.keys.2 p (List.mem_filter.1 hp).1⟩, ⟨((idel_sub _ _).map _).nodup hA.born.1, fun x hx => hA.born.2 x ((idel_sub _ _).mem hx)⟩, hA.armed, hA.left, hA.off, hA.writes, hA.reads⟩
      exact (List.filter_sublist.map _).nodup hA.keys.1
  · have h1' : ¬ (0 ≤ i ∧ i < (S.n : Int)) := by rw [hA.n]; exact h1
    exact same 7 (by unfold AD.tamper; rw [if_pos h1]) (Tamper_out H.unpack1 hA.ok hb hap' h1')
end Go.Proofs.YtnebjbgcibjohaaGreat.K
end
section
namespace Go.Proofs.YtnebjbgcibjohaaGreat.K
open Go.RowKit Go.Rill Go.Proofs Go.Maps Go.Sort Go.Shelf
set_option linter.unusedVariables false
set_option linter.unusedSimpArgs false
def R0 : Value → Option (DataW Unit × List MemPlace) := fun _ => some (.lit (.int .i64 0), [])
abbrev dOf (P : Program) (es : List IE) : DataW Unit := .map (((imap es).toList.map (WideElems.rg P 3 R0)).foldr DataW.insert [])
/-- The dirty sectors, in order. -/
def dirtyK (es : List IE) : List Int := (es.map (·.key)).mergeSort leI
theorem key_i {x : Int} (h : 0 ≤ x) (h2 : x < 4096) : keyOf Tryz.prog 3 (.int .i64 x) = some (.int .i64 x) := by
  refine Maps.keyOf_int_mk Tryz.underlying3 ?_
  show (decide (IntKind.i64.min ≤ x) && decide (x ≤ IntKind.i64.max)) = true
  have a : IntKind.min .i64 = -9223372036854775808 := by decide
  have b : IntKind.max .i64 = 9223372036854775807 := by decide
  rw [a, b, Bool.and_eq_true, decide_eq_true_eq, decide_eq_true_eq]
  omega
theorem rg_i {e : IE} (h : 0 ≤ e.key ∧ e.key < 4096) : WideElems.rd Tryz.prog 3 R0 { key := .int .i64 e.key, val := e.val, born := e.born } = some (.int .i64 e.key, .lit (.int .i64 0)) := by
  simp [WideElems.rd, key_i h.1 h.2, R0]
theorem fit_i {es : List IE} {ck : Nat} (hk : (es.map (·.key)).Nodup) (hr : ∀ e ∈ es, 0 ≤ e.key ∧ e.key < 4096) (hb : (es.map (·.born)).Nodup) (hbo : ∀ e ∈ es, e.born < ck) (hn : es.length ≤ 4096) : WideElems.Fit Tryz.prog 3 R0 (imap es) ck := by
  refine ⟨by simp [imap]; exact Nat.le_trans hn (by decide), (MapKept.stamped_iff _ _).2 ⟨fun x hx => ?_, by rw [imap_born]; exact hb, ?_⟩, fun x hx => ?_⟩
  · obtain ⟨a, ha, rfl⟩ := imap_mem hx
    exact hbo a ha
  · simp only [imap, List.pairwise_map]
    rw [List.Nodup, List.pairwise_map] at hk
    exact hk.imp fun h c => h (by injection c)
  · obtain ⟨a, ha, rfl⟩ := imap_mem hx
    exact ⟨_, rg_i (hr a ha)⟩
theorem keys_i {es : List IE} (hr : ∀ e ∈ es, 0 ≤ e.key ∧ e.key < 4096) : (intKeys (dOf Tryz.prog es)).Perm (es.map (·.key)) := by
  have h := (WideShapes.sorted_perm ((imap es).toList.map (WideElems.rg Tryz.prog 3 R0))).map (fun p => Go.intOf p.1)
  refine h.trans (List.Perm.of_eq ?_)
  simp only [imap, List.map_map]
  refine List.map_congr_left fun a ha => ?_
  simp only [Function.comp]
  rw [WideElems.rg_of (rg_i (hr a ha))]
  rfl
theorem sortsIn (m : Nat) : AnyZI.SortsIn Tryz.prog Tryz.sortedL_ren Fence.wide m :=
  ⟨fun blk off cap ss W hH hblk hsz => callsIn_wide.2 (AnyM.slices_Sort_int Tryz.sortL blk off cap ss W hH hblk hsz), fun p cap W => callsIn_wide.2 (AnyM.slices_Sort_int_none Tryz.sortL p cap W)⟩
set_option maxHeartbeats 1000000 in
theorem Sorted_x {g gm ck : Nat} {es : List IE} {w0 : World} (hg : w0.heap[g]? = some (.cells #[.map (some gm)] 69 (0, 0))) (hm : w0.heap[gm]? = some (.map (imap es) ck)) (hk : (es.map (·.key)).Nodup) (hr : ∀ e ∈ es, 0 ≤ e.key ∧ e.key < 4096) (hb : (es.map (·.born)).Nodup) (hbo : ∀ e ∈ es, e.born < ck) (hn : es.length ≤ 4096) :
    Does Tryz.prog 62 [.func (.func 79) #[] #[.pointer (some ⟨g, 0, none⟩)]] w0 [] (fun v : Value => v) (fun v => [.row 3 1 v es.length (ic (dirtyK es))]) (fun _ => True) := by
  have hown : w0.ownsMap Tryz.prog 3 R0 gm es.length (dOf Tryz.prog es) := ⟨imap es, ck, hm, fit_i hk hr hb hbo hn, by simp [imap], rfl⟩
  have hsz : Maps.size (dOf Tryz.prog es) = es.length := by simp [Maps.size, length_sorted, imap]
  have hseq : SeqGives Fence.wide 2 Tryz.prog 79 #[.pointer (some ⟨g, 0, none⟩)] encZ (fun ss => ss.Perm (intKeys (dOf Tryz.prog es))) (Maps.size (dOf Tryz.prog es)) w0 :=
    AnyZI.keys_gives (ρ := Tryz.keysL_ren) { Tryz.keysL with } Fence.wide _ trivial rfl (by omega) g gm es.length (dOf Tryz.prog es) _ (Array.getElem?_eq_some_iff.1 hg).1 (by simp [World.cell?, hg]) hown
  have cS := AnyZI.sorted_in Tryz.sortedL Fence.wide 5 trivial trivial trivial trivial rfl (by omega) (sortsIn _) (enters_of Tryz.func78 (by kernel_rfl) rfl) 79 #[.pointer (some ⟨g, 0, none⟩)] trivial (enters_of Tryz.func79 (by kernel_rfl) rfl) _ _ (by rw [hsz]; exact Nat.le_trans hn (by decide)) (by rw [hsz]; omega) _ hseq
  change CallsIn _ _ Tryz.prog 62 _ _ _ at cS
  refine callsIn_wide.1 (cS.mono ?_)
  rintro e w' ⟨v, ss, rfl, hS, hrow, hnil, hbel⟩
  have hp : ss.Perm (es.map (·.key)) := hS.trans (keys_i hr)
  have e1 : (ss.mergeSort fun x y => decide (x ≤ y)) = dirtyK es := mergeSort_of_perm_i hp
  have e2 : ss.length = es.length := by rw [hp.length_eq]; simp
  rw [e1, e2] at hrow
  have hrow0 := ownsRow_base_a hrow (Nat.zero_le _)
  have hfoot : ∀ q ∈ (Ent.row 3 1 v es.length (ic (dirtyK es))).foot, w0.heap.size ≤ q ∧ q < w'.heap.size := fun q hq => by
    rcases hrow.2 with ⟨rfl, _⟩ | ⟨g', cap, cur, rfl, h0, hgg, _⟩
    · simp [Ent.row, Value.ownBlock] at hq
    · simp [Ent.row, Value.ownBlock] at hq
      subst hq
      exact ⟨h0, (Array.getElem?_eq_some_iff.1 hgg).1⟩
  refine ⟨v, rfl, .of_ext hbel, ⟨fun e he => ?_, fun e he q hq => ?_, List.pairwise_singleton _ _⟩, fun q hq => .inr ?_, trivial⟩
  · rw [List.mem_singleton.1 he]; exact hrow0
  · rw [List.mem_singleton.1 he] at hq; exact (hfoot q hq).2
  · rw [feet_one] at hq; exact (hfoot q hq).1

set_option maxRecDepth 100000 in
theorem Dirty_x {gd gm : Nat} {lv rv : Value} {S : Dsk} {w0 : World} (H : Has w0 (dsk gd gm lv rv S)) (hS : S.Ok) (hkn : (S.cache.map (·.key)).Nodup) (hkr : ∀ e ∈ S.cache, 0 ≤ e.key ∧ e.key < 4096) (hbn : (S.cache.map (·.born)).Nodup) (hbo : ∀ e ∈ S.cache, e.born < S.clock) (hlen : S.cache.length ≤ 4096) : Does Tryz.prog 44 [.pointer (some ⟨gd, 0, none⟩)] w0 (dsk gd gm lv rv S) (fun v : Value => v) (fun v => .row 3 1 v S.cache.length (ic (dirtyK S.cache)) :: dsk gd gm lv rv S) (fun _ => True) := by
  refine enter (n := 9) Tryz.func44 rfl rfl rfl ?_
  intro fr E
  have M : Mem w0 (feet (dsk gd gm lv rv S)) (dsk gd gm lv rv S) (fun _ => True) w0 := Mem.begin H (fun _ _ => trivial)
  refine code_region ?_
  refine sw E (run_assignC rfl) fun fr E => ?_
  refine seq_nil' ?_
  refine code_region ?_
  refine mv E fun fr E => ?_
  refine sw E (run_nilCheck rfl rfl) fun fr E => ?_
  refine sw (v := .pointer (some ⟨_, 1, none⟩)) E (run_fieldAddr rfl rfl T.fld71_1) fun fr E => ?_
  refine sw (v := .map _) E (run_loadB rfl rfl T.one69 (M.row (i := 0) rfl) rfl) fun fr E => ?_
  refine scall E M rfl rfl rfl rfl rfl (run_call rfl rfl T.fn63) (Keys_x) rfl ?_
  rintro g0 fr w - M E
  refine scall E M rfl rfl rfl rfl rfl (run_call rfl rfl T.fn62) (Sorted_x (M.ent 0 rfl) (M.ent 3 rfl) hkn hkr hbn hbo hlen) rfl ?_
  rintro v fr w - M E
  refine ma E fun fr E => ?_
  refine seq_nil' ?_
  refine wp_ret ?_
  refine ret1 E rfl rfl ?_
  have M := M.pull 6 rfl
  have M := M.pull 6 rfl
  have M := M.pull 6 rfl
  have M := M.pull 6 rfl
  have M := M.pull 6 rfl
  have M := M.pull 5 rfl
  exact ⟨v, rfl, Mem.fin (L := (.row 3 1 v S.cache.length (ic (dirtyK S.cache)) :: dsk gd gm lv rv S) ++ _) M (List.sublist_append_left _ _) trivial⟩
end Go.Proofs.YtnebjbgcibjohaaGreat.K
end
section
namespace Go.Proofs.YtnebjbgcibjohaaGreat.K
open Go.RowKit Go.Rill Go.Proofs
set_option linter.unusedVariables false
set_option linter.unusedSimpArgs false
def crM (S : Dsk) (l : List Int) : Nat → List Value
  | 0 => S.lasts
  | j + 1 => if j < l.length ∧ (l[j]?).getD 0 ≠ 0 then (match (dirtyK S.cache)[j]? with | some k => (crM S l j).set k.toNat ((iget S.cache k).getD (.slice none 0 0)) | none => crM S l j) else crM S l j
def Dsk.crash (S : Dsk) (l : List Int) : Dsk := { S with lasts := crM S l S.cache.length, cache := [], armed := false, off := false }
theorem dirty_len (es : List IE) : (dirtyK es).length = es.length := by simp [dirtyK, List.length_mergeSort]
theorem dirty_mem {es : List IE} {k : Int} (h : k ∈ dirtyK es) : ∃ e ∈ es, e.key = k := by
  unfold dirtyK at h
  rw [List.mem_mergeSort] at h
  exact List.mem_map.1 h
theorem crM_yes {S : Dsk} {l : List Int} {j q : Nat} (hj : j < (dirtyK S.cache).length) (hc : j < l.length) (hz : ¬ l[j] = 0) (hq : (dirtyK S.cache)[j] = (q : Int)) : crM S l (j + 1) = (crM S l j).set q ((iget S.cache ((dirtyK S.cache)[j])).getD (.slice none 0 0)) := by
  rw [crM, if_pos ⟨hc, by rw [List.getElem?_eq_getElem hc]; exact hz⟩, List.getElem?_eq_getElem hj]
  simp only [hq, Int.toNat_natCast]
theorem crM_no {S : Dsk} {l : List Int} {j : Nat} (h : ¬ (j < l.length ∧ (l[j]?).getD 0 ≠ 0)) : crM S l (j + 1) = crM S l j := by
  rw [crM, if_neg h]
theorem iget_has {es : List IE} {e : IE} (h : e ∈ es) : iget es e.key ≠ none := by
  unfold iget
  generalize 0 = n
  induction es generalizing n with
  | nil => cases h
  | cons a r ih =>
    unfold iat
    split
    · simp
    · rename_i hne
      rcases List.mem_cons.1 h with rfl | h
      · exact absurd rfl hne
      · exact ih h _
theorem cache_cell {S : Dsk} (hS : S.Ok) (hp : ∀ p ∈ S.ps, ∃ w, Bytes w p.1 p.2) (k : Int) : ((iget S.cache k).getD (.slice none 0 0)).oneCell' = true := by
  cases h : iget S.cache k with
  | none => rfl
  | some v =>
    have hm : ∃ e ∈ S.cache, e.val = v := by
      unfold iget at h
      generalize 0 = n at h
      generalize S.cache = es at h
      induction es generalizing n with
      | nil => cases h
      | cons a r ih =>
        unfold iat at h
        split at h
        · injection h with h; exact ⟨a, List.mem_cons_self .., h⟩
        · obtain ⟨e, he, hv⟩ := ih _ h; exact ⟨e, List.mem_cons_of_mem _ he, hv⟩
    obtain ⟨e, he, rfl⟩ := hm
    obtain ⟨l, hl, _⟩ := hS.cache e he
    obtain ⟨w, hb⟩ := hp _ hl
    obtain ⟨b', c', e'⟩ := Reads.slice hb
    rw [show e.val = _ from e']
    rfl
set_option maxRecDepth 100000 in
theorem Crash_x {gd gm : Nat} {lv rv : Value} {S : Dsk} {w0 : World} (H : Has w0 (dsk gd gm lv rv S)) (hS : S.Ok) {b : Value} {l : List Int} (hb : Reads 1 w0 b l.length (ic l)) (hap : ∀ g, b.ownBlock = some g → ¬ feet (dsk gd gm lv rv S) g) (hkn : (S.cache.map (·.key)).Nodup) (hkr : ∀ e ∈ S.cache, 0 ≤ e.key ∧ e.key < 4096) (hbn : (S.cache.map (·.born)).Nodup) (hbo : ∀ e ∈ S.cache, e.born < S.clock) (hlen : S.cache.length ≤ 4096) (hkr2 : ∀ e ∈ S.cache, e.key < (S.n : Int))  : Does Tryz.prog 23 [.pointer (some ⟨gd, 0, none⟩), b] w0 (dsk gd gm lv rv S) (fun _ : Unit => .tuple #[]) (fun _ => dsk gd gm lv rv (S.crash l)) (fun _ => True) := by
  refine enter (n := 48) Tryz.func23 rfl rfl rfl ?_
  intro fr E
  have M : Mem w0 (feet (dsk gd gm lv rv S)) (dsk gd gm lv rv S) (fun w' => Reads 1 w' b l.length (ic l)) w0 := Mem.begin H (fun w' h => Reads.held hb h hap)
  refine wp_seq ?_
  refine code_region ?_
  refine mv E fun fr E => ?_
  refine scallI (dsk gd gm lv rv S) E M rfl rfl rfl rfl rfl (run_call rfl rfl T.fn44) rfl (fun H => Dirty_x H hS hkn hkr hbn hbo hlen) ?_
  rintro dv fr w - M E
  refine sw (v := .int .i64 _) E (run_lenR rfl rfl rfl rfl T.slice33 (M.reads 0 rfl)) fun fr E => ?_
  refine sw E (run_moveC rfl) fun fr E => ?_
  refine seq_nil' ?_
  refine wp_block ?_
  refine loop_dec (fun d fr w => ∃ j : Nat, d = S.cache.length - j ∧ j ≤ S.cache.length ∧ Env [(0, .pointer (some ⟨gd, 0, none⟩)), (1, b), (7, dv), (8, .int .i64 ((S.cache.length : Nat) : Int)), (9, .int .i64 (j : Int))] 48 fr ∧ Mem w0 (feet (dsk gd gm lv rv S)) (.row 3 1 dv S.cache.length (ic (dirtyK S.cache)) :: dsk gd gm lv rv { S with lasts := crM S l j }) (fun w' => Reads 1 w' b l.length (ic l)) w) (S.cache.length) ?_ ?_
  · exact ⟨0, rfl, Nat.zero_le _, (((((Env.nil E).add E (t := 9) rfl).add E (t := 8) rfl).add E (t := 7) rfl).add E (t := 1) rfl).add E (t := 0) rfl, M⟩
  · clear E M
    rintro d fr w ⟨j, rfl, hle, E, M⟩
    by_cases hi : j < S.cache.length
    · have hjd : j < (dirtyK S.cache).length := by rw [dirty_len]; exact hi
      obtain ⟨e, he, hek⟩ := dirty_mem (List.getElem_mem hjd)
      obtain ⟨q, hq, hqn⟩ : ∃ q : Nat, (dirtyK S.cache)[j] = (q : Int) ∧ q < S.n := ⟨((dirtyK S.cache)[j]).toNat, by have := hkr e he; omega, by have := hkr e he; have := hkr2 e he; omega⟩
      by_cases hc : j < l.length
      · by_cases hz : l[j] = 0
        · refine code_region ?_
          refine sw (v := .bool true) E (tst rfl (decide_eq_true (by omega))) fun fr E => ?_
          refine seq_nil' ?_
          refine wp_seq ?_
          refine cond_true E rfl (rfl) ?_
          refine wp_skip ?_
          refine then_normal ?_
          refine wp_seq ?_
          refine wp_block ?_
          refine code_region ?_
          refine mv E fun fr E => ?_
          refine sw E (run_indexR (i := j) rfl (M.reads 0 rfl) rfl rfl (rfl) (hi) T.slice33 T.size3) fun fr E => ?_
          refine sw (v := .int .i64 ((dirtyK S.cache)[j])) E (run_loadR rfl (M.reads 0 rfl) rfl T.one3 (by rw [Nat.mul_one]; exact ic_get hjd)) fun fr E => ?_
          refine ma E fun fr E => ?_
          refine ma E fun fr E => ?_
          refine seq_nil' ?_
          refine code_region ?_
          refine mv E fun fr E => ?_
          refine mv E fun fr E => ?_
          refine sw (v := .int .i64 _) E (run_lenR rfl rfl rfl rfl T.slice33 M.fact) fun fr E => ?_
          refine sw (v := .bool true) E (tst rfl (decide_eq_true (by omega))) fun fr E => ?_
          refine mv E fun fr E => ?_
          refine mv E fun fr E => ?_
          refine mv E fun fr E => ?_
          refine sw E (run_indexR (i := j) rfl M.fact rfl rfl (rfl) (hc) T.slice33 T.size3) fun fr E => ?_
          refine sw (v := .int .i64 (l[j])) E (run_loadR rfl M.fact rfl T.one3 (by rw [Nat.mul_one]; exact ic_get hc)) fun fr E => ?_
          refine sw (v := .bool false) E (tst rfl (by simp [hz])) fun fr E => ?_
          refine sw (v := .bool _) E (rfl) fun fr E => ?_
          refine seq_nil' ?_
          refine cond_false E rfl (rfl) ?_
          refine wp_skip ?_
          refine block_normal ?_
          refine then_normal ?_
          refine code_last ?_
          refine sw (v := .int _ (((j + 1 : Nat) : Int))) E (num rfl ((i64_id (by omega) (by omega)).trans (by omega))) fun fr E => ?_
          refine mv E fun fr E => ?_
          refine seq_nil ?_
          refine then_any ?_
          have em : crM S l (j + 1) = crM S l j := crM_no (fun c => c.2 (by rw [List.getElem?_eq_getElem hc]; exact hz))
          exact ⟨S.cache.length - (j + 1), by omega, j + 1, rfl, by omega, (((((Env.nil E).add E (t := 9) rfl).add E (t := 8) rfl).add E (t := 7) rfl).add E (t := 1) rfl).add E (t := 0) rfl, M.as (by first | (rw [em]; rfl) | rw [em])⟩
        · refine code_region ?_
          refine sw (v := .bool true) E (tst rfl (decide_eq_true (by omega))) fun fr E => ?_
          refine seq_nil' ?_
          refine wp_seq ?_
          refine cond_true E rfl (rfl) ?_
          refine wp_skip ?_
          refine then_normal ?_
          refine wp_seq ?_
          refine wp_block ?_
          refine code_region ?_
          refine mv E fun fr E => ?_
          refine sw E (run_indexR (i := j) rfl (M.reads 0 rfl) rfl rfl (rfl) (hi) T.slice33 T.size3) fun fr E => ?_
          refine sw (v := .int .i64 ((dirtyK S.cache)[j])) E (run_loadR rfl (M.reads 0 rfl) rfl T.one3 (by rw [Nat.mul_one]; exact ic_get hjd)) fun fr E => ?_
          refine ma E fun fr E => ?_
          refine ma E fun fr E => ?_
          refine seq_nil' ?_
          refine code_region ?_
          refine mv E fun fr E => ?_
          refine mv E fun fr E => ?_
          refine sw (v := .int .i64 _) E (run_lenR rfl rfl rfl rfl T.slice33 M.fact) fun fr E => ?_
          refine sw (v := .bool true) E (tst rfl (decide_eq_true (by omega))) fun fr E => ?_
          refine mv E fun fr E => ?_
          refine mv E fun fr E => ?_
          refine mv E fun fr E => ?_
          refine sw E (run_indexR (i := j) rfl M.fact rfl rfl (rfl) (hc) T.slice33 T.size3) fun fr E => ?_
          refine sw (v := .int .i64 (l[j])) E (run_loadR rfl M.fact rfl T.one3 (by rw [Nat.mul_one]; exact ic_get hc)) fun fr E => ?_
          refine sw (v := .bool true) E (tst rfl (by simp [hz])) fun fr E => ?_
          refine sw (v := .bool _) E (rfl) fun fr E => ?_
          refine seq_nil' ?_
          refine cond_true E rfl (rfl) ?_
          refine (free_last (B := T.tab23_4_b) (Vs := (.exact _ :: .exact _ :: .exact (.pointer (some ⟨_, 0, none⟩)) :: .exact _ :: .exact _ :: .exact _ :: .exact _ :: .exact (.pointer (some ⟨_, 1, none⟩)) :: .exact (.map _) :: .exact _ :: .exact (((iget S.cache ((dirtyK S.cache)[j])).getD (.slice none 0 0))) :: .exact _ :: [])) T.tab23_4_j 12 E T.mixed T.tab23_4 rfl rfl rfl (AllS.lasts ⟨trivial, trivial, trivial, trivial, trivial, trivial, trivial, trivial, trivial, trivial, trivial, trivial, trivial⟩) ⟨fv rfl rfl (fun x w hx hk => run_move rfl rfl),
      fv rfl rfl (fun x w hx hk => run_nilCheck rfl rfl),
      fv rfl rfl (fun x w hx hk => run_fieldAddr rfl rfl T.fld71_0),
      fv rfl rfl (fun x w hx hk => run_loadB rfl rfl T.one68 ((M.ext ((Ext.drew _).trans hx)).row (i := 1) rfl) rfl),
      fv rfl rfl (fun x w hx hk => run_move rfl rfl),
      fv rfl rfl (fun x w hx hk => run_move rfl rfl),
      fv rfl rfl (fun x w hx hk => run_nilCheck rfl rfl),
      fv rfl rfl (fun x w hx hk => run_fieldAddr rfl rfl T.fld71_1),
      fv rfl rfl (fun x w hx hk => run_loadB rfl rfl T.one69 ((M.ext ((Ext.drew _).trans hx)).row (i := 1) rfl) rfl),
      fv rfl rfl (fun x w hx hk => run_move rfl rfl),
      fv rfl rfl (fun x w hx hk => run_lookup1 (v := ((iget S.cache ((dirtyK S.cache)[j])).getD (.slice none 0 0))) rfl rfl rfl T.map69 T.zero36 ((M.ext ((Ext.drew _).trans hx)).row (i := 3) rfl) rfl),
      fv rfl rfl (fun x w hx hk => run_indexR (i := q) rfl ((M.ext ((Ext.drew _).trans hx)).reads 2 rfl) rfl rfl (hq) (hqn) T.slice68 T.size36), trivial⟩ ?_)
          intro x fr w hx hk E
          have M := M.ext hx
          refine last_setR (i := 2) (k := q * 1) (u := ((iget S.cache ((dirtyK S.cache)[j])).getD (.slice none 0 0))) (xs' := (crM S l j).set q ((iget S.cache ((dirtyK S.cache)[j])).getD (.slice none 0 0))) E M rfl rfl rfl rfl rfl rfl rfl rfl rfl T.size36 (by show q * 1 < S.n * 1; omega) (cache_cell hS (fun p hp => ⟨_, M.pooled (i := 5) rfl hp⟩) _) (by rw [Nat.mul_one]) fun fr w M E => ?_
          refine block_normal ?_
          refine then_normal ?_
          refine code_last ?_
          refine sw (v := .int _ (((j + 1 : Nat) : Int))) E (num rfl ((i64_id (by omega) (by omega)).trans (by omega))) fun fr E => ?_
          refine mv E fun fr E => ?_
          refine seq_nil ?_
          refine then_any ?_
          have em : crM S l (j + 1) = (crM S l j).set q ((iget S.cache ((dirtyK S.cache)[j])).getD (.slice none 0 0)) := crM_yes hjd hc hz hq
          exact ⟨S.cache.length - (j + 1), by omega, j + 1, rfl, by omega, (((((Env.nil E).add E (t := 9) rfl).add E (t := 8) rfl).add E (t := 7) rfl).add E (t := 1) rfl).add E (t := 0) rfl, M.as (by first | (rw [em]; rfl) | rw [em])⟩
      · refine code_region ?_
        refine sw (v := .bool true) E (tst rfl (decide_eq_true (by omega))) fun fr E => ?_
        refine seq_nil' ?_
        refine wp_seq ?_
        refine cond_true E rfl (rfl) ?_
        refine wp_skip ?_
        refine then_normal ?_
        refine wp_seq ?_
        refine wp_block ?_
        refine code_region ?_
        refine mv E fun fr E => ?_
        refine sw E (run_indexR (i := j) rfl (M.reads 0 rfl) rfl rfl (rfl) (hi) T.slice33 T.size3) fun fr E => ?_
        refine sw (v := .int .i64 ((dirtyK S.cache)[j])) E (run_loadR rfl (M.reads 0 rfl) rfl T.one3 (by rw [Nat.mul_one]; exact ic_get hjd)) fun fr E => ?_
        refine ma E fun fr E => ?_
        refine ma E fun fr E => ?_
        refine seq_nil' ?_
        refine code_region ?_
        refine mv E fun fr E => ?_
        refine mv E fun fr E => ?_
        refine sw (v := .int .i64 _) E (run_lenR rfl rfl rfl rfl T.slice33 M.fact) fun fr E => ?_
        refine sw (v := .bool false) E (tst rfl (decide_eq_false (by omega))) fun fr E => ?_
        refine mv E fun fr E => ?_
        refine sno E rfl rfl rfl rfl fun fr E => ?_
        refine sno E rfl rfl rfl rfl fun fr E => ?_
        refine sno E rfl rfl rfl rfl fun fr E => ?_
        refine sno E rfl rfl rfl rfl fun fr E => ?_
        refine sno E rfl rfl rfl rfl fun fr E => ?_
        refine sw (v := .bool _) E (rfl) fun fr E => ?_
        refine seq_nil' ?_
        refine cond_false E rfl (rfl) ?_
        refine wp_skip ?_
        refine block_normal ?_
        refine then_normal ?_
        refine code_last ?_
        refine sw (v := .int _ (((j + 1 : Nat) : Int))) E (num rfl ((i64_id (by omega) (by omega)).trans (by omega))) fun fr E => ?_
        refine mv E fun fr E => ?_
        refine seq_nil ?_
        refine then_any ?_
        have em : crM S l (j + 1) = crM S l j := crM_no (fun c => hc c.1)
        exact ⟨S.cache.length - (j + 1), by omega, j + 1, rfl, by omega, (((((Env.nil E).add E (t := 9) rfl).add E (t := 8) rfl).add E (t := 7) rfl).add E (t := 1) rfl).add E (t := 0) rfl, M.as (by first | (rw [em]; rfl) | rw [em])⟩
    · obtain rfl : j = S.cache.length := by omega
      refine code_region ?_
      refine sw (v := .bool false) E (tst rfl (decide_eq_false (by omega))) fun fr E => ?_
      refine seq_nil' ?_
      refine wp_seq ?_
      refine cond_false E rfl (rfl) ?_
      refine wp_exit ?_
      refine then_exit ?_
      refine then_exit ?_
      refine block_exit ?_
      refine then_normal ?_
      refine code_region ?_
      refine mv E fun fr E => ?_
      refine sw E (run_nilCheck rfl rfl) fun fr E => ?_
      refine sw (v := .pointer (some ⟨_, 1, none⟩)) E (run_fieldAddr rfl rfl T.fld71_1) fun fr E => ?_
      refine sw (v := .map _) E (run_loadB rfl rfl T.one69 (M.row (i := 1) rfl) rfl) fun fr E => ?_
      refine smclear (i := 3) E M rfl rfl rfl rfl rfl rfl rfl rfl rfl T.map69 fun fr w M E => ?_
      refine seq_nil' ?_
      refine code_last ?_
      refine mv E fun fr E => ?_
      refine mv E fun fr E => ?_
      refine sw E (run_nilCheck rfl rfl) fun fr E => ?_
      refine sw (v := .pointer (some ⟨_, 2, none⟩)) E (run_fieldAddr rfl rfl T.fld71_2) fun fr E => ?_
      refine sset (i := 1) (cs' := #[_, _, _, _, _, _, _]) E M rfl rfl rfl rfl rfl (run_store1' (v := _) rfl rfl rfl T.size4 (M.row (i := 1) rfl) (rfl) (rfl) (rfl)) rfl fun fr w M E => ?_
      refine sw E (run_nilCheck rfl rfl) fun fr E => ?_
      refine sw (v := .pointer (some ⟨_, 4, none⟩)) E (run_fieldAddr rfl rfl T.fld71_4) fun fr E => ?_
      refine sset (i := 1) (cs' := #[_, _, _, _, _, _, _]) E M rfl rfl rfl rfl rfl (run_store1' (v := _) rfl rfl rfl T.size4 (M.row (i := 1) rfl) (rfl) (rfl) (rfl)) rfl fun fr w M E => ?_
      refine seq_nil ?_
      refine ret0 E rfl ?_
      exact ⟨(), rfl, Mem.fin (L := _ :: dsk gd gm lv rv (S.crash l)) M (List.sublist_cons_self _ _) trivial⟩

/-- A crash: of the dirty sectors, in order, those that the list names last. -/
def acM (A : AD) (l : List Int) : Nat → List (List UInt8)
  | 0 => A.last
  | j + 1 => if j < l.length ∧ (l[j]?).getD 0 ≠ 0 then (match ((A.cache.map (·.1)).mergeSort leI)[j]? with | some k => (acM A l j).set k.toNat ((aget A.cache k).getD []) | none => acM A l j) else acM A l j
def AD.crash (A : AD) (l : List Int) : AD := { A with last := acM A l A.cache.length, cache := [], armed := false, off := false }
theorem acM_len (A : AD) (l : List Int) : ∀ j, (acM A l j).length = A.last.length
  | 0 => rfl
  | j + 1 => by
    unfold acM
    split
    · split
      · rw [List.length_set]; exact acM_len A l j
      · exact acM_len A l j
    · exact acM_len A l j
theorem Dsk.Abs.crl {S : Dsk} {A : AD} (h : S.Abs A) (l : List Int) : ∀ j, LRel S.ps (crM S l j) (acM A l j)
  | 0 => h.last
  | j + 1 => by
    unfold crM acM
    rw [← crel_keys h.cache]
    show LRel S.ps (if _ then (match (dirtyK S.cache)[j]? with | some k => _ | none => _) else _) (if _ then (match (dirtyK S.cache)[j]? with | some k => _ | none => _) else _)
    split
    · cases hd : (dirtyK S.cache)[j]? with
      | none => exact Dsk.Abs.crl h l j
      | some k =>
        refine lrel_set ?_ (Dsk.Abs.crl h l j)
        obtain ⟨e, he, hek⟩ := dirty_mem (List.mem_of_getElem? hd)
        cases hc : iget S.cache k with
        | none => exact absurd hc (hek ▸ iget_has he)
        | some u => obtain ⟨m, h3, h4, h5⟩ := crel_some h.cache hc; rw [h3]; exact ⟨h4, h5⟩
    · exact Dsk.Abs.crl h l j
theorem crel_len {ps : List (Value × List UInt8)} : ∀ {es : List IE} {c : List (Int × List UInt8)}, CRel ps es c → es.length = c.length
  | [], [], _ => rfl
  | [], _ :: _, h => h.elim
  | _ :: _, [], h => h.elim
  | e :: r, p :: q, h => by rw [List.length_cons, List.length_cons, crel_len h.2]
theorem split_len {α : Type} (p : α → Bool) : ∀ l : List α, l.length = (l.filter p).length + (l.filter fun x => !p x).length
  | [] => rfl
  | a :: r => by
    have := split_len p r
    rw [List.filter_cons, List.filter_cons]
    cases p a <;> simp <;> omega
/-- Numbers that are apart and below n are n at most. -/
theorem apart_le : ∀ (n : Nat) (l : List Int), l.Nodup → (∀ x ∈ l, 0 ≤ x ∧ x < (n : Int)) → l.length ≤ n
  | 0, [], _, _ => Nat.le_refl _
  | 0, x :: l, _, h => by have := h x (List.mem_cons_self ..); omega
  | n + 1, l, hn, h => by
    have h1 := apart_le n (l.filter fun x => decide (x < (n : Int))) (List.filter_sublist.nodup hn) (fun x hx => by
      rw [List.mem_filter, decide_eq_true_eq] at hx
      exact ⟨(h x hx.1).1, hx.2⟩)
    have h2 : (l.filter fun x => !decide (x < (n : Int))).length ≤ 1 := by
      have hs : (l.filter fun x => !decide (x < (n : Int))).Nodup := List.filter_sublist.nodup hn
      have ha : ∀ x ∈ (l.filter fun x => !decide (x < (n : Int))), x = (n : Int) := fun x hx => by
        rw [List.mem_filter] at hx
        have := h x hx.1
        have h3 : ¬ x < (n : Int) := by simpa using hx.2
        omega
      match hl : (l.filter fun x => !decide (x < (n : Int))) with
      | [] => simp
      | [a] => simp
      | a :: b :: r =>
        rw [hl] at hs ha
        have e1 := ha a (by simp)
        have e2 := ha b (by simp)
        rw [List.nodup_cons] at hs
        exact absurd (by rw [e1, e2]; simp) hs.1
    have h3 := split_len (fun x => decide (x < (n : Int))) l
    omega
theorem Crash_a {D : DV} {g : Nat} {A : AD} {w0 : World} (H : Has w0 [dkE D]) (hD : D.is g A) {b : Value} {l : List Int} (hb : Reads 1 w0 b l.length (ic l)) (hap : ∀ g, b.ownBlock = some g → g ∉ (dkE D).foot) : Does Tryz.prog 23 [.pointer (some ⟨g, 0, none⟩), b] w0 [dkE D] (fun _ : DV => .tuple #[]) (fun x => [dkE x]) (fun x => x.is g (A.crash l)) := by
  obtain ⟨gd, gm, lv, rv, S⟩ := D
  obtain ⟨hg, hA⟩ := hD
  have hg : gd = g := hg
  have hA : S.Abs A := hA
  subst hg
  have hap' : ∀ g, b.ownBlock = some g → ¬ feet (dsk gd gm lv rv S) g := fun g hg c => hap g hg (Ent.mem_all.2 c)
  have hr := hA.keyr
  have hmax := hA.max
  have hnn := hA.n
  have hlen : S.cache.length ≤ 4096 := by
    have := apart_le S.n (S.cache.map (·.key)) hA.keyn (fun x hx => by obtain ⟨e, he, rfl⟩ := List.mem_map.1 hx; exact hr e he)
    rw [List.length_map] at this
    omega
  exact Does.packed (B := fun _ : DV => []) (C := fun x => dk x) (fun _ => Crash_x H.unpack1 hA.ok hb hap' hA.keyn (fun e he => ⟨(hr e he).1, by have := (hr e he).2; omega⟩) hA.born.1 hA.born.2 hlen (fun e he => (hr e he).2)) H fun _ _ => ⟨⟨gd, gm, lv, rv, S.crash l⟩, rfl, rfl, rfl, ⟨hA.n, hA.max, (acM_len A l _).trans hA.len, hA.rlen, by show LRel S.ps (crM S l S.cache.length) (acM A l A.cache.length); rw [← crel_len hA.cache]; exact hA.crl l _, trivial, ⟨List.nodup_nil, fun p hp => nomatch hp⟩, ⟨List.nodup_nil, fun e he => nomatch he⟩, rfl, hA.left, rfl, hA.writes, hA.reads⟩⟩
end Go.Proofs.YtnebjbgcibjohaaGreat.K
end
section
namespace Go.Proofs.YtnebjbgcibjohaaGreat.K
open Go.RowKit Go.Rill Go.Proofs
set_option linter.unusedVariables false
set_option linter.unusedSimpArgs false
set_option maxRecDepth 100000 in
theorem Clone_z {az : Addr} (w0 : World) : Does Tryz.prog 32 [.slice (some az) 0 0] w0 [] (fun s : Value => s) (fun s => [.bytes 5 s []]) (fun _ => True) := by
  refine enter (n := 8) Tryz.func32 rfl rfl rfl ?_
  intro fr E
  have M : Mem w0 (feet []) [] (fun _ => True) w0 := Mem.begin (Has.nil w0) (fun _ _ => trivial)
  refine code_region ?_
  refine sw E (run_assignC rfl) fun fr E => ?_
  refine seq_nil' ?_
  refine wp_seq ?_
  refine code_region ?_
  refine mv E fun fr E => ?_
  refine sw (v := .bool false) E (run_sliceNil rfl rfl rfl T.slice36 rfl) fun fr E => ?_
  refine seq_nil' ?_
  refine cond_false E rfl (rfl) ?_
  refine wp_skip ?_
  refine then_normal ?_
  refine code_region ?_
  refine srow (sz := 1) (xs := bc []) E M rfl rfl rfl rfl rfl (run_buildSlice0 rfl T.slice36 rfl) (rfl) (Nat.le_refl _) (by decide) (rfl) fun o fr w M E => ?_
  refine mv E fun fr E => ?_
  refine sappZ (i := 0) (sz := 1) (k := 0) (m := 0) (xs := []) (news := []) (bytes := 1) E M rfl rfl rfl rfl rfl rfl rfl rfl rfl rfl rfl T.slice36 T.slice36 T.zt5 T.by5 (by decide) (src_zero T.slice36) (by decide) fun o fr w M E => ?_
  refine ma E fun fr E => ?_
  refine seq_nil' ?_
  refine wp_ret ?_
  refine ret1 E rfl rfl ?_
  exact ⟨_, rfl, Mem.fin (L := [.bytes 5 o []]) M (.refl _) trivial⟩

set_option maxRecDepth 100000 in
theorem wrongz_out {gd gm : Nat} {lv rv : Value} {S : Dsk} {w0 : World} (H : Has w0 (dsk gd gm lv rv S)) (hS : S.Ok) {i : Int} {az : Addr} (h : ¬ (0 ≤ i ∧ i < (S.n : Int))) : Does Tryz.prog 31 [.pointer (some ⟨gd, 0, none⟩), .int .i64 i, .slice (some az) 0 0] w0 (dsk gd gm lv rv S) (fun _ : Unit => .int .i64 7) (fun _ => dsk gd gm lv rv S) (fun _ => True) := by
  refine enter (n := 16) Tryz.func31 rfl rfl rfl ?_
  intro fr E
  have M : Mem w0 (feet (dsk gd gm lv rv S)) (dsk gd gm lv rv S) (fun _ => True) w0 := Mem.begin H (fun _ _ => trivial)
  refine code_region ?_
  refine sw E (run_assignC rfl) fun fr E => ?_
  refine seq_nil' ?_
  refine wp_seq ?_
  refine wp_block ?_
  refine code_region ?_
  refine mv E fun fr E => ?_
  refine mv E fun fr E => ?_
  refine scallI (dsk gd gm lv rv S) E M rfl rfl rfl rfl rfl (run_call rfl rfl T.fn43) rfl (fun H => there_x H hS i) ?_
  rintro _ fr w - M E
  rw [decide_eq_false h] at E
  refine sw (v := .bool _) E (rfl) fun fr E => ?_
  refine ma E fun fr E => ?_
  refine seq_nil' ?_
  refine cond_true E rfl (rfl) ?_
  refine code_region ?_
  refine sw E (run_assignC rfl) fun fr E => ?_
  refine seq_nil' ?_
  refine wp_ret ?_
  refine block_ret ?_
  refine then_ret ?_
  refine ret1 E rfl rfl ?_
  exact ⟨(), rfl, M.fin (List.Sublist.refl _) trivial⟩

set_option maxRecDepth 100000 in
theorem wrongz_ok {gd gm : Nat} {lv rv : Value} {S : Dsk} {w0 : World} (H : Has w0 (dsk gd gm lv rv S)) (hS : S.Ok) {i : Int} {az : Addr} (h : 0 ≤ i ∧ i < (S.n : Int)) : Does Tryz.prog 31 [.pointer (some ⟨gd, 0, none⟩), .int .i64 i, .slice (some az) 0 0] w0 (dsk gd gm lv rv S) (fun _ : Unit => .int .i64 0) (fun _ => dsk gd gm lv rv S) (fun _ => True) := by
  refine enter (n := 16) Tryz.func31 rfl rfl rfl ?_
  intro fr E
  have M : Mem w0 (feet (dsk gd gm lv rv S)) (dsk gd gm lv rv S) (fun _ => True) w0 := Mem.begin H (fun _ _ => trivial)
  refine code_region ?_
  refine sw E (run_assignC rfl) fun fr E => ?_
  refine seq_nil' ?_
  refine wp_seq ?_
  refine wp_block ?_
  refine code_region ?_
  refine mv E fun fr E => ?_
  refine mv E fun fr E => ?_
  refine scallI (dsk gd gm lv rv S) E M rfl rfl rfl rfl rfl (run_call rfl rfl T.fn43) rfl (fun H => there_x H hS i) ?_
  rintro _ fr w - M E
  rw [decide_eq_true h] at E
  refine sw (v := .bool _) E (rfl) fun fr E => ?_
  refine ma E fun fr E => ?_
  refine seq_nil' ?_
  refine cond_false E rfl (rfl) ?_
  refine code_region ?_
  refine mv E fun fr E => ?_
  refine sw (v := .int .i64 _) E (run_len rfl rfl rfl rfl T.slice36) fun fr E => ?_
  refine sw (v := .bool false) E (tst rfl (by decide)) fun fr E => ?_
  refine ma E fun fr E => ?_
  refine seq_nil' ?_
  refine cond_false E rfl (rfl) ?_
  refine wp_skip ?_
  refine block_normal ?_
  refine then_normal ?_
  refine code_region ?_
  refine sw E (run_assignC rfl) fun fr E => ?_
  refine seq_nil' ?_
  refine wp_ret ?_
  refine ret1 E rfl rfl ?_
  exact ⟨(), rfl, M.fin (List.Sublist.refl _) trivial⟩

set_option maxRecDepth 100000 in
theorem Tamperz_out {gd gm : Nat} {lv rv : Value} {S : Dsk} {w0 : World} (H : Has w0 (dsk gd gm lv rv S)) (hS : S.Ok) {i : Int} {az : Addr} (h : ¬ (0 ≤ i ∧ i < (S.n : Int))) : Does Tryz.prog 19 [.pointer (some ⟨gd, 0, none⟩), .int .i64 i, .slice (some az) 0 0] w0 (dsk gd gm lv rv S) (fun _ : Unit => .int .i64 7) (fun _ => dsk gd gm lv rv S) (fun _ => True) := by
  refine enter (n := 28) Tryz.func19 rfl rfl rfl ?_
  intro fr E
  have M : Mem w0 (feet (dsk gd gm lv rv S)) (dsk gd gm lv rv S) (fun _ => True) w0 := Mem.begin H (fun _ _ => trivial)
  refine code_region ?_
  refine sw E (run_assignC rfl) fun fr E => ?_
  refine seq_nil' ?_
  refine wp_seq ?_
  refine code_region ?_
  refine mv E fun fr E => ?_
  refine mv E fun fr E => ?_
  refine mv E fun fr E => ?_
  refine scallI (dsk gd gm lv rv S) E M rfl rfl rfl rfl rfl (run_call rfl rfl T.fn31) rfl (fun H => wrongz_out H hS h) ?_
  rintro _ fr w - M E
  refine ma E fun fr E => ?_
  refine seq_nil' ?_
  refine code_region ?_
  refine mv E fun fr E => ?_
  refine sw (v := .bool _) E (rfl) fun fr E => ?_
  refine seq_nil' ?_
  refine cond_true E rfl (rfl) ?_
  refine code_region ?_
  refine mv E fun fr E => ?_
  refine ma E fun fr E => ?_
  refine seq_nil' ?_
  refine wp_ret ?_
  refine then_ret ?_
  refine ret1 E rfl rfl ?_
  exact ⟨(), rfl, M.fin (List.Sublist.refl _) trivial⟩

set_option maxRecDepth 100000 in
theorem Tamperz_ok {gd gm : Nat} {lv rv : Value} {S : Dsk} {w0 : World} (H : Has w0 (dsk gd gm lv rv S)) (hS : S.Ok) {j : Nat} {az : Addr} (hj : j < S.n) (h : 0 ≤ (j : Int) ∧ (j : Int) < (S.n : Int)) : Does Tryz.prog 19 [.pointer (some ⟨gd, 0, none⟩), .int .i64 (j : Int), .slice (some az) 0 0] w0 (dsk gd gm lv rv S) (fun _ : Value => .int .i64 0) (fun v => dsk gd gm lv rv (S.tampered j v [])) (fun _ => True) := by
  refine enter (n := 28) Tryz.func19 rfl rfl rfl ?_
  intro fr E
  have M : Mem w0 (feet (dsk gd gm lv rv S)) (dsk gd gm lv rv S) (fun _ => True) w0 := Mem.begin H (fun _ _ => trivial)
  refine code_region ?_
  refine sw E (run_assignC rfl) fun fr E => ?_
  refine seq_nil' ?_
  refine wp_seq ?_
  refine code_region ?_
  refine mv E fun fr E => ?_
  refine mv E fun fr E => ?_
  refine mv E fun fr E => ?_
  refine scallI (dsk gd gm lv rv S) E M rfl rfl rfl rfl rfl (run_call rfl rfl T.fn31) rfl (fun H => wrongz_ok H hS h) ?_
  rintro _ fr w - M E
  refine ma E fun fr E => ?_
  refine seq_nil' ?_
  refine code_region ?_
  refine mv E fun fr E => ?_
  refine sw (v := .bool _) E (rfl) fun fr E => ?_
  refine seq_nil' ?_
  refine cond_false E rfl (rfl) ?_
  refine wp_skip ?_
  refine then_normal ?_
  refine wp_seq (free_last (B := T.tab19_4_b) (Vs := (.exact _ :: .exact _ :: .exact (.pointer (some ⟨_, 0, none⟩)) :: .exact _ :: .exact _ :: .exact _ :: CameV w.heap.size (fun v => [.bytes 5 v []]) (fun _ => True) :: .exact _ :: [])) T.tab19_4_j 8 E T.mixed T.tab19_4 rfl rfl rfl (AllS.lasts ⟨trivial, trivial, trivial, trivial, trivial, trivial, LastsS.cameV, trivial, trivial⟩) ⟨fv rfl rfl (fun x w hx hk => run_move rfl rfl),
      fv rfl rfl (fun x w hx hk => run_nilCheck rfl rfl),
      fv rfl rfl (fun x w hx hk => run_fieldAddr rfl rfl T.fld71_0),
      fv rfl rfl (fun x w hx hk => run_loadB rfl rfl T.one68 ((M.ext ((Ext.drew _).trans hx)).row (i := 0) rfl) rfl),
      fv rfl rfl (fun x w hx hk => run_move rfl rfl),
      fv rfl rfl (fun x w hx hk => run_move rfl rfl),
      fs_ext rfl rfl (fun x w hx hk => ⟨_, _, rfl, rfl, rfl, run_call rfl rfl T.fn32, (Clone_z _).extV hx.size⟩),
      fv rfl rfl (fun x w hx hk => run_indexR (i := j) rfl ((M.ext ((Ext.drew _).trans hx)).reads 1 rfl) rfl rfl (rfl) (hj) T.slice68 T.size36), trivial⟩ ?_)
  intro x fr w hx hk E
  have M := M.adopts hx (hk 6 (by decide)).1 (hk 6 (by decide)).2.1
  refine last_setR (i := 2) (k := j * 1) (u := x 6) (xs' := S.lasts.set j (x 6)) E M rfl rfl rfl rfl rfl rfl rfl rfl rfl T.size36 (by omega) (by obtain ⟨b', c', e'⟩ := Reads.slice (M.bytes 0 rfl); rw [e']; rfl) (by rw [Nat.mul_one]) fun fr w M E => ?_
  refine then_normal ?_
  refine code_region ?_
  refine mv E fun fr E => ?_
  refine sw E (run_nilCheck rfl rfl) fun fr E => ?_
  refine sw (v := .pointer (some ⟨_, 1, none⟩)) E (run_fieldAddr rfl rfl T.fld71_1) fun fr E => ?_
  refine sw (v := .map _) E (run_loadB rfl rfl T.one69 (M.row (i := 1) rfl) rfl) fun fr E => ?_
  refine mv E fun fr E => ?_
  refine smdel (i := 3) E M rfl rfl rfl rfl rfl rfl rfl rfl rfl rfl T.map69 fun fr w M E => ?_
  refine seq_nil' ?_
  refine code_region ?_
  refine sw E (run_assignC rfl) fun fr E => ?_
  refine seq_nil' ?_
  refine wp_ret ?_
  refine ret1 E rfl rfl ?_
  have M := (M.pull 5 rfl).pull 1 rfl
  have M := M.pour.perm (L' := dsk gd gm lv rv (S.tampered j _ [])) (perm5 _ _ _ _ _)
  exact ⟨_, rfl, M.fin (List.Sublist.refl _) trivial⟩

set_option maxRecDepth 100000 in
theorem Crash_z {gd gm : Nat} {lv rv : Value} {S : Dsk} {w0 : World} (H : Has w0 (dsk gd gm lv rv S)) (hS : S.Ok) {az : Addr} (hkn : (S.cache.map (·.key)).Nodup) (hkr : ∀ e ∈ S.cache, 0 ≤ e.key ∧ e.key < 4096) (hbn : (S.cache.map (·.born)).Nodup) (hbo : ∀ e ∈ S.cache, e.born < S.clock) (hlen : S.cache.length ≤ 4096) : Does Tryz.prog 23 [.pointer (some ⟨gd, 0, none⟩), .slice (some az) 0 0] w0 (dsk gd gm lv rv S) (fun _ : Unit => .tuple #[]) (fun _ => dsk gd gm lv rv (S.crash [])) (fun _ => True) := by
  refine enter (n := 48) Tryz.func23 rfl rfl rfl ?_
  intro fr E
  have M : Mem w0 (feet (dsk gd gm lv rv S)) (dsk gd gm lv rv S) (fun _ => True) w0 := Mem.begin H (fun _ _ => trivial)
  refine wp_seq ?_
  refine code_region ?_
  refine mv E fun fr E => ?_
  refine scallI (dsk gd gm lv rv S) E M rfl rfl rfl rfl rfl (run_call rfl rfl T.fn44) rfl (fun H => Dirty_x H hS hkn hkr hbn hbo hlen) ?_
  rintro dv fr w - M E
  refine sw (v := .int .i64 _) E (run_lenR rfl rfl rfl rfl T.slice33 (M.reads 0 rfl)) fun fr E => ?_
  refine sw E (run_moveC rfl) fun fr E => ?_
  refine seq_nil' ?_
  refine wp_block ?_
  refine loop_dec (fun d fr w => ∃ j : Nat, d = S.cache.length - j ∧ j ≤ S.cache.length ∧ Env [(0, .pointer (some ⟨gd, 0, none⟩)), (1, .slice (some az) 0 0), (7, dv), (8, .int .i64 ((S.cache.length : Nat) : Int)), (9, .int .i64 (j : Int))] 48 fr ∧ Mem w0 (feet (dsk gd gm lv rv S)) (.row 3 1 dv S.cache.length (ic (dirtyK S.cache)) :: dsk gd gm lv rv { S with lasts := crM S [] j }) (fun _ => True) w) (S.cache.length) ?_ ?_
  · exact ⟨0, rfl, Nat.zero_le _, (((((Env.nil E).add E (t := 9) rfl).add E (t := 8) rfl).add E (t := 7) rfl).add E (t := 1) rfl).add E (t := 0) rfl, M⟩
  · clear E M
    rintro d fr w ⟨j, rfl, hle, E, M⟩
    by_cases hi : j < S.cache.length
    · have hjd : j < (dirtyK S.cache).length := by rw [dirty_len]; exact hi
      refine code_region ?_
      refine sw (v := .bool true) E (tst rfl (decide_eq_true (by omega))) fun fr E => ?_
      refine seq_nil' ?_
      refine wp_seq ?_
      refine cond_true E rfl (rfl) ?_
      refine wp_skip ?_
      refine then_normal ?_
      refine wp_seq ?_
      refine wp_block ?_
      refine code_region ?_
      refine mv E fun fr E => ?_
      refine sw E (run_indexR (i := j) rfl (M.reads 0 rfl) rfl rfl (rfl) (hi) T.slice33 T.size3) fun fr E => ?_
      refine sw (v := .int .i64 ((dirtyK S.cache)[j])) E (run_loadR rfl (M.reads 0 rfl) rfl T.one3 (by rw [Nat.mul_one]; exact ic_get hjd)) fun fr E => ?_
      refine ma E fun fr E => ?_
      refine ma E fun fr E => ?_
      refine seq_nil' ?_
      refine code_region ?_
      refine mv E fun fr E => ?_
      refine mv E fun fr E => ?_
      refine sw (v := .int .i64 _) E (run_len rfl rfl rfl rfl T.slice33) fun fr E => ?_
      refine sw (v := .bool false) E (tst rfl (decide_eq_false (by omega))) fun fr E => ?_
      refine mv E fun fr E => ?_
      refine sno E rfl rfl rfl rfl fun fr E => ?_
      refine sno E rfl rfl rfl rfl fun fr E => ?_
      refine sno E rfl rfl rfl rfl fun fr E => ?_
      refine sno E rfl rfl rfl rfl fun fr E => ?_
      refine sno E rfl rfl rfl rfl fun fr E => ?_
      refine sw (v := .bool _) E (rfl) fun fr E => ?_
      refine seq_nil' ?_
      refine cond_false E rfl (rfl) ?_
      refine wp_skip ?_
      refine block_normal ?_
      refine then_normal ?_
      refine code_last ?_
      refine sw (v := .int _ (((j + 1 : Nat) : Int))) E (num rfl ((i64_id (by omega) (by omega)).trans (by omega))) fun fr E => ?_
      refine mv E fun fr E => ?_
      refine seq_nil ?_
      refine then_any ?_
      have em : crM S [] (j + 1) = crM S [] j := crM_no (fun c => absurd c.1 (Nat.not_lt_zero _))
      exact ⟨S.cache.length - (j + 1), by omega, j + 1, rfl, by omega, (((((Env.nil E).add E (t := 9) rfl).add E (t := 8) rfl).add E (t := 7) rfl).add E (t := 1) rfl).add E (t := 0) rfl, M.as (by first | (rw [em]; rfl) | rw [em])⟩
    · obtain rfl : j = S.cache.length := by omega
      refine code_region ?_
      refine sw (v := .bool false) E (tst rfl (decide_eq_false (by omega))) fun fr E => ?_
      refine seq_nil' ?_
      refine wp_seq ?_
      refine cond_false E rfl (rfl) ?_
      refine wp_exit ?_
      refine then_exit ?_
      refine then_exit ?_
      refine block_exit ?_
      refine then_normal ?_
      refine code_region ?_
      refine mv E fun fr E => ?_
      refine sw E (run_nilCheck rfl rfl) fun fr E => ?_
      refine sw (v := .pointer (some ⟨_, 1, none⟩)) E (run_fieldAddr rfl rfl T.fld71_1) fun fr E => ?_
      refine sw (v := .map _) E (run_loadB rfl rfl T.one69 (M.row (i := 1) rfl) rfl) fun fr E => ?_
      refine smclear (i := 3) E M rfl rfl rfl rfl rfl rfl rfl rfl rfl T.map69 fun fr w M E => ?_
      refine seq_nil' ?_
      refine code_last ?_
      refine mv E fun fr E => ?_
      refine mv E fun fr E => ?_
      refine sw E (run_nilCheck rfl rfl) fun fr E => ?_
      refine sw (v := .pointer (some ⟨_, 2, none⟩)) E (run_fieldAddr rfl rfl T.fld71_2) fun fr E => ?_
      refine sset (i := 1) (cs' := #[_, _, _, _, _, _, _]) E M rfl rfl rfl rfl rfl (run_store1' (v := _) rfl rfl rfl T.size4 (M.row (i := 1) rfl) (rfl) (rfl) (rfl)) rfl fun fr w M E => ?_
      refine sw E (run_nilCheck rfl rfl) fun fr E => ?_
      refine sw (v := .pointer (some ⟨_, 4, none⟩)) E (run_fieldAddr rfl rfl T.fld71_4) fun fr E => ?_
      refine sset (i := 1) (cs' := #[_, _, _, _, _, _, _]) E M rfl rfl rfl rfl rfl (run_store1' (v := _) rfl rfl rfl T.size4 (M.row (i := 1) rfl) (rfl) (rfl) (rfl)) rfl fun fr w M E => ?_
      refine seq_nil ?_
      refine ret0 E rfl ?_
      exact ⟨(), rfl, Mem.fin (L := _ :: dsk gd gm lv rv (S.crash [])) M (List.sublist_cons_self _ _) trivial⟩

theorem Dsk.Abs.clen {S : Dsk} {A : AD} (hA : S.Abs A) : S.cache.length ≤ 4096 := by
  have hr := hA.keyr
  have hmax := hA.max
  have hnn := hA.n
  have := apart_le S.n (S.cache.map (·.key)) hA.keyn (fun x hx => by obtain ⟨e, he, rfl⟩ := List.mem_map.1 hx; exact hr e he)
  rw [List.length_map] at this
  omega
theorem Crash_b {D : DV} {g : Nat} {A : AD} {w0 : World} (H : Has w0 [dkE D]) (hD : D.is g A) {b : Value} {l : List Int} (hb : FarI w0 (fun g => g ∈ (dkE D).foot) b l) : Does Tryz.prog 23 [.pointer (some ⟨g, 0, none⟩), b] w0 [dkE D] (fun _ : DV => .tuple #[]) (fun x => [dkE x]) (fun x => x.is g (A.crash l)) := by
  rcases hb with ⟨hb, hap⟩ | ⟨a, rfl, rfl⟩
  · exact Crash_a H hD hb hap
  obtain ⟨gd, gm, lv, rv, S⟩ := D
  obtain ⟨hg, hA⟩ := hD
  have hg : gd = g := hg
  have hA : S.Abs A := hA
  subst hg
  have hr := hA.keyr
  have hmax := hA.max
  have hnn := hA.n
  exact Does.packed (B := fun _ : DV => []) (C := fun x => dk x) (fun _ => Crash_z H.unpack1 hA.ok hA.keyn (fun e he => ⟨(hr e he).1, by have := (hr e he).2; omega⟩) hA.born.1 hA.born.2 hA.clen) H fun _ _ => ⟨⟨gd, gm, lv, rv, S.crash []⟩, rfl, rfl, rfl, ⟨hA.n, hA.max, (acM_len A [] _).trans hA.len, hA.rlen, by show LRel S.ps (crM S [] S.cache.length) (acM A [] A.cache.length); rw [← crel_len hA.cache]; exact hA.crl [] _, trivial, ⟨List.nodup_nil, fun p hp => nomatch hp⟩, ⟨List.nodup_nil, fun e he => nomatch he⟩, rfl, hA.left, rfl, hA.writes, hA.reads⟩⟩
theorem Tamper_b {D : DV} {g : Nat} {A : AD} {w0 : World} (H : Has w0 [dkE D]) (hD : D.is g A) {i : Int} {b : Value} {l : List UInt8} (hb : FarB w0 (fun g => g ∈ (dkE D).foot) b l) : Does Tryz.prog 19 [.pointer (some ⟨g, 0, none⟩), .int .i64 i, b] w0 [dkE D] (fun _ : DV => .int .i64 (A.tamper i l).1) (fun x => [dkE x]) (fun x => x.is g (A.tamper i l).2) := by
  rcases hb with ⟨hb, hap⟩ | ⟨a, rfl, rfl⟩
  · exact Tamper_a H hD hb hap
  obtain ⟨gd, gm, lv, rv, S⟩ := D
  obtain ⟨hg, hA⟩ := hD
  have hg : gd = g := hg
  have hA : S.Abs A := hA
  subst hg
  by_cases h1 : A.there i
  · have h1' : 0 ≤ i ∧ i < (S.n : Int) := by rw [hA.n]; exact h1
    have e : A.tamper i [] = (0, { A with last := A.last.set i.toNat [], cache := A.cache.filter fun p => !(p.1 == i) }) := by unfold AD.tamper; rw [if_neg (by simpa using h1), if_neg (by simp)]
    obtain ⟨j, rfl⟩ : ∃ j : Nat, i = (j : Int) := ⟨i.toNat, by omega⟩
    have hj : j < S.n := by omega
    refine Does.packed (B := fun _ : DV => []) (C := fun x => dk x) (fun _ => Tamperz_ok (j := j) H.unpack1 hA.ok hj h1') H fun v _ => ⟨⟨gd, gm, lv, rv, S.tampered j v []⟩, by rw [e], rfl, rfl, ?_⟩
    rw [e]
    refine ⟨hA.n, hA.max, by simp [hA.len], hA.rlen, lrel_set ⟨List.mem_cons_self .., by simp⟩ (lrel_mono hA.last), crel_del hA.keys.1 (crel_mono hA.cache), ⟨?_, fun p hp => hA.keys.2 p (List.mem_filter.1 hp).1⟩, ⟨((idel_sub _ _).map _).nodup hA.born.1, fun x hx => hA.born.2 x ((idel_sub _ _).mem hx)⟩, hA.armed, hA.left, hA.off, hA.writes, hA.reads⟩
    exact (List.filter_sublist.map _).nodup hA.keys.1
  · have h1' : ¬ (0 ≤ i ∧ i < (S.n : Int)) := by rw [hA.n]; exact h1
    have e : A.tamper i [] = (7, A) := by unfold AD.tamper; rw [if_pos h1]
    exact Does.packed (B := fun _ : DV => []) (C := fun x => dk x) (fun _ => Tamperz_out H.unpack1 hA.ok h1') H fun _ _ => ⟨⟨gd, gm, lv, rv, S⟩, by rw [e], rfl, rfl, by rw [e]; exact hA⟩
end Go.Proofs.YtnebjbgcibjohaaGreat.K
end
section
namespace Go.Proofs.YtnebjbgcibjohaaGreat.K
open Go.RowKit Go.Rill Go.Proofs
set_option linter.unusedVariables false
set_option linter.unusedSimpArgs false
/-- A counter under a disk's power. -/
abbrev cE (g gk : Nat) (v : Int) : Ent := .blk gk (.cells #[.pointer (some ⟨g, 0, none⟩), .int .i64 v] 77)
/-- It is raised: the answer, what is left. -/
def raiseA (A : AD) (v nv : Int) : Int × AD × Int := if nv ≤ v ∨ 1152921504606846976 < nv then (8, A, v) else if A.spend.1 = 0 then (0, A.spend.2, nv) else (A.spend.1, A.spend.2, v)
theorem run_max2 {P : Program} {ρ : Operand → Value} {o : Oper} {w : World} {A B : Operand} {q : IntKind} {x y : Int} {args : List Operand} {ts : Array TypeId} (ho : o.op = .call { callee := .builtin .max, args := args.toArray, argTypes := ts }) (ha : args = [A, B]) (hA : ρ A = .int q x) (hB : ρ B = .int q y) :
    (execOp ρ o).run P w = .ok (.value (.int q (if y > x then y else x))) w := by
  subst ha
  have := run_max_int2 (P := P) (w := w) ts o.type q q x y
  simp [execOp, ho, resolve, invoke, builtin, hA, hB, this]
theorem band20 {x : Int} (h0 : 0 ≤ x) (h1 : x < 9223372036854775808) : IntKind.i64.wrap (((BitVec.ofInt 64 x &&& BitVec.ofInt 64 1048575).toNat : Nat) : Int) = x % 1048576 := by
  have e1 : (BitVec.ofInt 64 x).toNat = x.toNat := by rw [BitVec.toNat_ofInt]; omega
  have e2 : (BitVec.ofInt 64 1048575).toNat = 2 ^ 20 - 1 := rfl
  rw [BitVec.toNat_and, e1, e2, Nat.and_two_pow_sub_one_eq_mod]
  refine (i64_id ?_ ?_).trans ?_ <;> omega
theorem bor0 {x : Int} (h0 : 0 ≤ x) (h1 : x < 9223372036854775808) : IntKind.i64.wrap (((BitVec.ofInt 64 x ||| BitVec.ofInt 64 0).toNat : Nat) : Int) = x := by
  have e1 : (BitVec.ofInt 64 x).toNat = x.toNat := by rw [BitVec.toNat_ofInt]; omega
  have e2 : (BitVec.ofInt 64 0).toNat = 0 := rfl
  rw [BitVec.toNat_or, e1, e2, Nat.or_zero]
  refine (i64_id ?_ ?_).trans ?_ <;> omega
theorem Spend_a {D : DV} {g : Nat} {A : AD} {w0 : World} (H : Has w0 [dkE D]) (hD : D.is g A) : Does Tryz.prog 61 [.pointer (some ⟨g, 0, none⟩)] w0 [dkE D] (fun _ : DV => .int .i64 A.spend.1) (fun x => [dkE x]) (fun x => x.is g A.spend.2) := by
  obtain ⟨gd, gm, lv, rv, S⟩ := D
  obtain ⟨hg, hA⟩ := hD
  have hg : gd = g := hg
  have hA : S.Abs A := hA
  subst hg
  have same : ∀ (S' : Dsk) (r : Int), S'.Abs A.spend.2 → A.spend.1 = r → Does Tryz.prog 61 [.pointer (some ⟨gd, 0, none⟩)] w0 (dsk gd gm lv rv S) (fun _ : Unit => .int .i64 r) (fun _ => dsk gd gm lv rv S') (fun _ => True) → Does Tryz.prog 61 [.pointer (some ⟨gd, 0, none⟩)] w0 [dkE ⟨gd, gm, lv, rv, S⟩] (fun _ : DV => .int .i64 A.spend.1) (fun x => [dkE x]) (fun x => x.is gd A.spend.2) := fun S' r h1 h2 h =>
    Does.packed (B := fun _ : DV => []) (C := fun x => dk x) (fun _ => h) H fun _ _ => ⟨⟨gd, gm, lv, rv, S'⟩, by rw [h2], rfl, rfl, h1⟩
  by_cases h0 : A.off = true
  · have e : A.spend = (12, A) := by unfold AD.spend; rw [if_pos h0]
    exact same S 12 (by rw [e]; exact hA) (by rw [e]) (Spend_off H.unpack1 hA.ok (by rw [hA.off]; exact h0))
  have h0' : S.off = false := by rw [hA.off]; simpa using h0
  by_cases h3 : A.armed = true ∧ A.left = 0
  · have e : A.spend = (12, { A with off := true }) := by unfold AD.spend; rw [if_neg h0, if_pos h3]
    exact same { S with off := true } 12 (by rw [e]; exact ⟨hA.n, hA.max, hA.len, hA.rlen, hA.last, hA.cache, hA.keys, hA.born, hA.armed, hA.left, rfl, hA.writes, hA.reads⟩) (by rw [e]) (Spend_fail H.unpack1 hA.ok h0' (by rw [hA.armed]; exact h3.1) (by rw [hA.left]; exact h3.2))
  · have e : A.spend = (0, { A with left := w64 (A.left - 1) }) := by unfold AD.spend; rw [if_neg h0, if_neg h3]
    refine same { S with left := w64 (S.left - 1) } 0 (by rw [e]; exact ⟨hA.n, hA.max, hA.len, hA.rlen, hA.last, hA.cache, hA.keys, hA.born, hA.armed, by show w64 (S.left - 1) = w64 (A.left - 1); rw [hA.left], hA.off, hA.writes, hA.reads⟩) (by rw [e]) ?_
    by_cases ha : S.armed = true
    · exact Spend_armed H.unpack1 hA.ok h0' ha (fun c => h3 ⟨by rw [← hA.armed]; exact ha, by rw [← hA.left]; exact c⟩)
    · exact Spend_free H.unpack1 hA.ok h0' (by simpa using ha)

set_option maxRecDepth 100000 in
theorem cNew_x {g : Nat} {w0 : World} : Does Tryz.prog 9 [.pointer (some ⟨g, 0, none⟩)] w0 [] (fun gk : Nat => .pointer (some ⟨gk, 0, none⟩)) (fun gk => [cE g gk 0]) (fun _ => True) := by
  refine enter (n := 7) Tryz.func9 rfl rfl rfl ?_
  intro fr E
  have M : Mem w0 (feet []) [] (fun _ => True) w0 := Mem.begin (Has.nil w0) (fun _ _ => trivial)
  refine code_region ?_
  refine sw E (run_assignC rfl) fun fr E => ?_
  refine seq_nil' ?_
  refine code_region ?_
  refine mv E fun fr E => ?_
  refine sw (v := .agg ([.pointer (some ⟨g, 0, none⟩)]).toArray) E (run_buildP (vs := [.pointer (some ⟨g, 0, none⟩)]) (us := [.pointer (some ⟨g, 0, none⟩)]) rfl rfl T.ts75 T.zeroL75 (rfl) rfl rfl (rfl)) fun fr E => ?_
  refine sw (v := .agg ([.pointer (some ⟨g, 0, none⟩), .int .i64 0]).toArray) E (run_buildP (vs := [.agg #[.pointer (some ⟨g, 0, none⟩)]]) (us := [.pointer (some ⟨g, 0, none⟩), .int .i64 0]) rfl rfl T.ts77 T.zeroL77 (rfl) rfl rfl (rfl)) fun fr E => ?_
  refine snew (ob := .cells (#[.pointer (some ⟨g, 0, none⟩), .int .i64 0]) 77) (fun g => .pointer (some ⟨g, 0, none⟩)) E M rfl rfl rfl rfl rfl (run_boxN (cs := (#[.pointer (some ⟨g, 0, none⟩), .int .i64 0])) rfl rfl) fun g0 fr w M E => ?_
  refine ma E fun fr E => ?_
  refine seq_nil' ?_
  refine wp_ret ?_
  refine ret1 E rfl rfl ?_
  exact ⟨g0, rfl, M.fin (sub1 (i := 0) rfl) trivial⟩

set_option maxRecDepth 100000 in
theorem cValue_x {g gk : Nat} {v : Int} {w0 : World} (hg : w0.heap[gk]? = some (.cells #[.pointer (some ⟨g, 0, none⟩), .int .i64 (v)] 77)) : Gives Tryz.prog 11 [.pointer (some ⟨gk, 0, none⟩)] w0 (.int .i64 v) := by
  refine enter (n := 7) Tryz.func11 rfl rfl rfl ?_
  intro fr E
  have M : Mem w0 (feet []) [] (fun w' => w'.heap[gk]? = some (.cells #[.pointer (some ⟨g, 0, none⟩), .int .i64 (v)] 77)) w0 := Mem.begin (Has.nil w0) (fun w' h => held_at hg h)
  refine code_region ?_
  refine sw E (run_assignC rfl) fun fr E => ?_
  refine seq_nil' ?_
  refine code_region ?_
  refine mv E fun fr E => ?_
  refine sw E (run_nilCheck rfl rfl) fun fr E => ?_
  refine sw (v := .pointer (some ⟨_, 1, none⟩)) E (run_fieldAddr rfl rfl T.fld77_1) fun fr E => ?_
  refine sw (v := .int .i64 v) E (run_loadB rfl rfl T.one3 (M.fact) rfl) fun fr E => ?_
  refine ma E fun fr E => ?_
  refine seq_nil' ?_
  refine wp_ret ?_
  refine ret1 E rfl rfl ?_
  exact given M

set_option maxRecDepth 100000 in
theorem spend_x {D : DV} {g : Nat} {A : AD} {w0 : World} (H : Has w0 [dkE D]) (hD : D.is g A)  : Does Tryz.prog 51 [.agg #[.pointer (some ⟨g, 0, none⟩)]] w0 [dkE D] (fun _ : DV => .int .i64 A.spend.1) (fun x => [dkE x]) (fun x => x.is g A.spend.2) := by
  refine enter (n := 6) Tryz.func51 rfl rfl rfl ?_
  intro fr E
  have M : Mem w0 (feet [dkE D]) [dkE D] (fun _ => True) w0 := Mem.begin H (fun _ _ => trivial)
  refine code_region ?_
  refine snew (ob := .cells (#[.pointer (some ⟨g, 0, none⟩)]) 75) (fun g => .pointer (some ⟨g, 0, none⟩)) E M rfl rfl rfl rfl rfl (run_boxN (cs := (#[.pointer (some ⟨g, 0, none⟩)])) rfl rfl) fun g0 fr w M E => ?_
  refine sw E (run_assignC rfl) fun fr E => ?_
  refine seq_nil' ?_
  refine code_region ?_
  refine sw (v := .pointer (some ⟨_, 0, none⟩)) E (run_fieldAddr rfl rfl T.fld75_0) fun fr E => ?_
  refine sw (v := .pointer (some ⟨g, 0, none⟩)) E (run_loadB rfl rfl T.one23 (M.row (i := 0) rfl) rfl) fun fr E => ?_
  have M := M.pull 1 rfl
  refine scallI ([dkE D]) E M rfl rfl rfl rfl rfl (run_call rfl rfl T.fn61) rfl (fun H => Spend_a H hD) ?_
  rintro D1 fr w hD1 M E
  refine ma E fun fr E => ?_
  refine seq_nil' ?_
  refine wp_ret ?_
  refine ret1 E rfl rfl ?_
  exact ⟨D1, rfl, Mem.fin (L := [dkE D1] ++ _) M (List.sublist_append_left _ _) hD1⟩

set_option maxRecDepth 100000 in
theorem Raise_o1 {D : DV} {g gk : Nat} {A : AD} {v nv : Int} {w0 : World} (H : Has w0 [dkE D, cE g gk v]) (hD : D.is g A) (h1 : nv ≤ v) : Does Tryz.prog 29 [.pointer (some ⟨gk, 0, none⟩), .int .i64 nv] w0 [dkE D, cE g gk v] (fun _ : DV => .int .i64 8) (fun x => [dkE x, cE g gk v]) (fun x => x.is g A) := by
  refine enter (n := 28) Tryz.func29 rfl rfl rfl ?_
  intro fr E
  have M : Mem w0 (feet [dkE D, cE g gk v]) [dkE D, cE g gk v] (fun _ => True) w0 := Mem.begin H (fun _ _ => trivial)
  refine code_region ?_
  refine sw E (run_assignC rfl) fun fr E => ?_
  refine seq_nil' ?_
  refine wp_seq ?_
  refine code_region ?_
  refine mv E fun fr E => ?_
  refine mv E fun fr E => ?_
  refine sw E (run_nilCheck rfl rfl) fun fr E => ?_
  refine sw (v := .pointer (some ⟨_, 1, none⟩)) E (run_fieldAddr rfl rfl T.fld77_1) fun fr E => ?_
  refine sw (v := .int .i64 v) E (run_loadB rfl rfl T.one3 (M.row (i := 1) rfl) rfl) fun fr E => ?_
  refine sw (v := .bool true) E (tst rfl (decide_eq_true h1)) fun fr E => ?_
  refine mv E fun fr E => ?_
  refine sno E rfl rfl rfl rfl fun fr E => ?_
  refine sno E rfl rfl rfl rfl fun fr E => ?_
  refine sw (v := .bool _) E (rfl) fun fr E => ?_
  refine seq_nil' ?_
  refine cond_true E rfl (rfl) ?_
  refine code_region ?_
  refine sw E (run_assignC rfl) fun fr E => ?_
  refine seq_nil' ?_
  refine wp_ret ?_
  refine then_ret ?_
  refine ret1 E rfl rfl ?_
  have M := M.pull 1 rfl
  have M := M.pull 1 rfl
  exact ⟨D, rfl, Mem.fin (L := [dkE D, cE g gk v] ++ _) M (List.sublist_append_left _ _) hD⟩

set_option maxRecDepth 100000 in
theorem Raise_o2 {D : DV} {g gk : Nat} {A : AD} {v nv : Int} {w0 : World} (H : Has w0 [dkE D, cE g gk v]) (hD : D.is g A) (h1 : ¬ nv ≤ v) (h2 : 1152921504606846976 < nv) : Does Tryz.prog 29 [.pointer (some ⟨gk, 0, none⟩), .int .i64 nv] w0 [dkE D, cE g gk v] (fun _ : DV => .int .i64 8) (fun x => [dkE x, cE g gk v]) (fun x => x.is g A) := by
  refine enter (n := 28) Tryz.func29 rfl rfl rfl ?_
  intro fr E
  have M : Mem w0 (feet [dkE D, cE g gk v]) [dkE D, cE g gk v] (fun _ => True) w0 := Mem.begin H (fun _ _ => trivial)
  refine code_region ?_
  refine sw E (run_assignC rfl) fun fr E => ?_
  refine seq_nil' ?_
  refine wp_seq ?_
  refine code_region ?_
  refine mv E fun fr E => ?_
  refine mv E fun fr E => ?_
  refine sw E (run_nilCheck rfl rfl) fun fr E => ?_
  refine sw (v := .pointer (some ⟨_, 1, none⟩)) E (run_fieldAddr rfl rfl T.fld77_1) fun fr E => ?_
  refine sw (v := .int .i64 v) E (run_loadB rfl rfl T.one3 (M.row (i := 1) rfl) rfl) fun fr E => ?_
  refine sw (v := .bool false) E (tst rfl (decide_eq_false h1)) fun fr E => ?_
  refine mv E fun fr E => ?_
  refine mv E fun fr E => ?_
  refine sw (v := .bool true) E (tst rfl (decide_eq_true h2)) fun fr E => ?_
  refine sw (v := .bool _) E (rfl) fun fr E => ?_
  refine seq_nil' ?_
  refine cond_true E rfl (rfl) ?_
  refine code_region ?_
  refine sw E (run_assignC rfl) fun fr E => ?_
  refine seq_nil' ?_
  refine wp_ret ?_
  refine then_ret ?_
  refine ret1 E rfl rfl ?_
  have M := M.pull 1 rfl
  have M := M.pull 1 rfl
  exact ⟨D, rfl, Mem.fin (L := [dkE D, cE g gk v] ++ _) M (List.sublist_append_left _ _) hD⟩

set_option maxRecDepth 100000 in
theorem Raise_f {D : DV} {g gk : Nat} {A : AD} {v nv : Int} {w0 : World} (H : Has w0 [dkE D, cE g gk v]) (hD : D.is g A) (h1 : ¬ nv ≤ v) (h2 : ¬ 1152921504606846976 < nv) (h3 : ¬ A.spend.1 = 0) : Does Tryz.prog 29 [.pointer (some ⟨gk, 0, none⟩), .int .i64 nv] w0 [dkE D, cE g gk v] (fun _ : DV => .int .i64 A.spend.1) (fun x => [dkE x, cE g gk v]) (fun x => x.is g A.spend.2) := by
  refine enter (n := 28) Tryz.func29 rfl rfl rfl ?_
  intro fr E
  have M : Mem w0 (feet [dkE D, cE g gk v]) [dkE D, cE g gk v] (fun _ => True) w0 := Mem.begin H (fun _ _ => trivial)
  refine code_region ?_
  refine sw E (run_assignC rfl) fun fr E => ?_
  refine seq_nil' ?_
  refine wp_seq ?_
  refine code_region ?_
  refine mv E fun fr E => ?_
  refine mv E fun fr E => ?_
  refine sw E (run_nilCheck rfl rfl) fun fr E => ?_
  refine sw (v := .pointer (some ⟨_, 1, none⟩)) E (run_fieldAddr rfl rfl T.fld77_1) fun fr E => ?_
  refine sw (v := .int .i64 v) E (run_loadB rfl rfl T.one3 (M.row (i := 1) rfl) rfl) fun fr E => ?_
  refine sw (v := .bool false) E (tst rfl (decide_eq_false h1)) fun fr E => ?_
  refine mv E fun fr E => ?_
  refine mv E fun fr E => ?_
  refine sw (v := .bool false) E (tst rfl (decide_eq_false h2)) fun fr E => ?_
  refine sw (v := .bool _) E (rfl) fun fr E => ?_
  refine seq_nil' ?_
  refine cond_false E rfl (rfl) ?_
  refine wp_skip ?_
  refine then_normal ?_
  refine wp_seq ?_
  refine code_region ?_
  refine mv E fun fr E => ?_
  refine sw E (run_nilCheck rfl rfl) fun fr E => ?_
  refine sw (v := .pointer (some ⟨_, 0, none⟩)) E (run_fieldAddr rfl rfl T.fld77_0) fun fr E => ?_
  refine sw (v := .agg #[.pointer (some ⟨g, 0, none⟩)]) E (run_loadN' rfl rfl T.agg75 (M.row (i := 1) rfl) rfl rfl) fun fr E => ?_
  refine scallI ([dkE D]) E M rfl rfl rfl rfl rfl (run_call rfl rfl T.fn51) rfl (fun H => spend_x H hD) ?_
  rintro D1 fr w hD1 M E
  refine ma E fun fr E => ?_
  refine seq_nil' ?_
  refine code_region ?_
  refine mv E fun fr E => ?_
  refine sw (v := .bool true) E (tst rfl (by simp [h3])) fun fr E => ?_
  refine seq_nil' ?_
  refine cond_true E rfl (rfl) ?_
  refine code_region ?_
  refine mv E fun fr E => ?_
  refine ma E fun fr E => ?_
  refine seq_nil' ?_
  refine wp_ret ?_
  refine then_ret ?_
  refine ret1 E rfl rfl ?_
  have M := M.pull 1 rfl
  have M := M.pull 1 rfl
  exact ⟨D1, rfl, Mem.fin (L := [dkE D1, cE g gk v] ++ _) M (List.sublist_append_left _ _) hD1⟩

set_option maxRecDepth 100000 in
theorem Raise_ok {D : DV} {g gk : Nat} {A : AD} {v nv : Int} {w0 : World} (H : Has w0 [dkE D, cE g gk v]) (hD : D.is g A) (h1 : ¬ nv ≤ v) (h2 : ¬ 1152921504606846976 < nv) (h3 : A.spend.1 = 0) : Does Tryz.prog 29 [.pointer (some ⟨gk, 0, none⟩), .int .i64 nv] w0 [dkE D, cE g gk v] (fun _ : DV => .int .i64 0) (fun x => [dkE x, cE g gk nv]) (fun x => x.is g A.spend.2) := by
  refine enter (n := 28) Tryz.func29 rfl rfl rfl ?_
  intro fr E
  have M : Mem w0 (feet [dkE D, cE g gk v]) [dkE D, cE g gk v] (fun _ => True) w0 := Mem.begin H (fun _ _ => trivial)
  refine code_region ?_
  refine sw E (run_assignC rfl) fun fr E => ?_
  refine seq_nil' ?_
  refine wp_seq ?_
  refine code_region ?_
  refine mv E fun fr E => ?_
  refine mv E fun fr E => ?_
  refine sw E (run_nilCheck rfl rfl) fun fr E => ?_
  refine sw (v := .pointer (some ⟨_, 1, none⟩)) E (run_fieldAddr rfl rfl T.fld77_1) fun fr E => ?_
  refine sw (v := .int .i64 v) E (run_loadB rfl rfl T.one3 (M.row (i := 1) rfl) rfl) fun fr E => ?_
  refine sw (v := .bool false) E (tst rfl (decide_eq_false h1)) fun fr E => ?_
  refine mv E fun fr E => ?_
  refine mv E fun fr E => ?_
  refine sw (v := .bool false) E (tst rfl (decide_eq_false h2)) fun fr E => ?_
  refine sw (v := .bool _) E (rfl) fun fr E => ?_
  refine seq_nil' ?_
  refine cond_false E rfl (rfl) ?_
  refine wp_skip ?_
  refine then_normal ?_
  refine wp_seq ?_
  refine code_region ?_
  refine mv E fun fr E => ?_
  refine sw E (run_nilCheck rfl rfl) fun fr E => ?_
  refine sw (v := .pointer (some ⟨_, 0, none⟩)) E (run_fieldAddr rfl rfl T.fld77_0) fun fr E => ?_
  refine sw (v := .agg #[.pointer (some ⟨g, 0, none⟩)]) E (run_loadN' rfl rfl T.agg75 (M.row (i := 1) rfl) rfl rfl) fun fr E => ?_
  refine scallI ([dkE D]) E M rfl rfl rfl rfl rfl (run_call rfl rfl T.fn51) rfl (fun H => spend_x H hD) ?_
  rintro D1 fr w hD1 M E
  refine ma E fun fr E => ?_
  refine seq_nil' ?_
  refine code_region ?_
  refine mv E fun fr E => ?_
  refine sw (v := .bool false) E (tst rfl (by simp [h3])) fun fr E => ?_
  refine seq_nil' ?_
  refine cond_false E rfl (rfl) ?_
  refine wp_skip ?_
  refine then_normal ?_
  refine code_region ?_
  refine mv E fun fr E => ?_
  refine mv E fun fr E => ?_
  refine sw E (run_nilCheck rfl rfl) fun fr E => ?_
  refine sw (v := .pointer (some ⟨_, 1, none⟩)) E (run_fieldAddr rfl rfl T.fld77_1) fun fr E => ?_
  refine sset (i := 1) (cs' := #[.pointer (some ⟨g, 0, none⟩), .int .i64 nv]) E M rfl rfl rfl rfl rfl (run_store1' (v := _) rfl rfl rfl T.size3 (M.row (i := 1) rfl) (rfl) (rfl) (rfl)) rfl fun fr w M E => ?_
  refine seq_nil' ?_
  refine code_region ?_
  refine sw E (run_assignC rfl) fun fr E => ?_
  refine seq_nil' ?_
  refine wp_ret ?_
  refine ret1 E rfl rfl ?_
  have M := M.pull 1 rfl
  have M := M.pull 1 rfl
  exact ⟨D1, rfl, Mem.fin (L := [dkE D1, cE g gk nv] ++ _) M (List.sublist_append_left _ _) hD1⟩

theorem Raise_x {D : DV} {g gk : Nat} {A : AD} {v nv : Int} {w0 : World} (H : Has w0 [dkE D, cE g gk v]) (hD : D.is g A) : Does Tryz.prog 29 [.pointer (some ⟨gk, 0, none⟩), .int .i64 nv] w0 [dkE D, cE g gk v] (fun _ : DV => .int .i64 (raiseA A v nv).1) (fun x => [dkE x, cE g gk (raiseA A v nv).2.2]) (fun x => x.is g (raiseA A v nv).2.1) := by
  by_cases h1 : nv ≤ v
  · have e : raiseA A v nv = (8, A, v) := by unfold raiseA; rw [if_pos (.inl h1)]
    rw [e]; exact Raise_o1 H hD h1
  by_cases h2 : 1152921504606846976 < nv
  · have e : raiseA A v nv = (8, A, v) := by unfold raiseA; rw [if_pos (.inr h2)]
    rw [e]; exact Raise_o2 H hD h1 h2
  have h12 : ¬ (nv ≤ v ∨ 1152921504606846976 < nv) := fun c => c.elim h1 h2
  by_cases h3 : A.spend.1 = 0
  · have e : raiseA A v nv = (0, A.spend.2, nv) := by unfold raiseA; rw [if_neg h12, if_pos h3]
    rw [e]; exact Raise_ok H hD h1 h2 h3
  · have e : raiseA A v nv = (A.spend.1, A.spend.2, v) := by unfold raiseA; rw [if_neg h12, if_neg h3]
    rw [e]; exact Raise_f H hD h1 h2 h3

set_option maxRecDepth 100000 in
theorem Level_x {v : Int} {w0 : World} (hv : 0 ≤ v) : Gives Tryz.prog 14 [.int .i64 v] w0 (.int .i64 (v / 1048576)) := by
  refine enter (n := 6) Tryz.func14 rfl rfl rfl ?_
  intro fr E
  have M : Mem w0 (feet []) [] (fun _ => True) w0 := Mem.begin (Has.nil w0) (fun _ _ => trivial)
  refine code_region ?_
  refine sw E (run_assignC rfl) fun fr E => ?_
  refine seq_nil' ?_
  refine code_region ?_
  refine mv E fun fr E => ?_
  refine sw (v := .int .i64 (v)) E (num (run_max2 rfl rfl rfl rfl) (by split <;> omega)) fun fr E => ?_
  refine sw (v := .int _ (v / 1048576)) E (num rfl (fd (by decide) rfl)) fun fr E => ?_
  refine ma E fun fr E => ?_
  refine seq_nil' ?_
  refine wp_ret ?_
  refine ret1 E rfl rfl ?_
  exact given M

set_option maxRecDepth 100000 in
theorem Tries_x {v : Int} {w0 : World} (hv : 0 ≤ v) (hv2 : v < 9223372036854775808) : Gives Tryz.prog 15 [.int .i64 v] w0 (.int .i64 (v % 1048576)) := by
  refine enter (n := 6) Tryz.func15 rfl rfl rfl ?_
  intro fr E
  have M : Mem w0 (feet []) [] (fun _ => True) w0 := Mem.begin (Has.nil w0) (fun _ _ => trivial)
  refine code_region ?_
  refine sw E (run_assignC rfl) fun fr E => ?_
  refine seq_nil' ?_
  refine code_region ?_
  refine mv E fun fr E => ?_
  refine sw (v := .int .i64 (v)) E (num (run_max2 rfl rfl rfl rfl) (by split <;> omega)) fun fr E => ?_
  refine sw (v := .int _ (v % 1048576)) E (num rfl (band20 hv hv2)) fun fr E => ?_
  refine ma E fun fr E => ?_
  refine seq_nil' ?_
  refine wp_ret ?_
  refine ret1 E rfl rfl ?_
  exact given M

set_option maxRecDepth 100000 in
theorem Make_x {s : Int} {w0 : World} (hs : 0 ≤ s ∧ s ≤ 1099511627776) : Gives Tryz.prog 42 [.int .i64 s, .int .i64 0] w0 (.int .i64 (s * 1048576)) := by
  refine enter (n := 13) Tryz.func42 rfl rfl rfl ?_
  intro fr E
  have M : Mem w0 (feet []) [] (fun _ => True) w0 := Mem.begin (Has.nil w0) (fun _ _ => trivial)
  refine code_region ?_
  refine sw E (run_assignC rfl) fun fr E => ?_
  refine seq_nil' ?_
  refine code_region ?_
  refine mv E fun fr E => ?_
  refine sw (v := .int .i64 (s)) E (num (run_max2 rfl rfl rfl rfl) (by split <;> omega)) fun fr E => ?_
  refine sw (v := .int .i64 (s)) E (num (run_min2 rfl rfl rfl rfl) (by split <;> omega)) fun fr E => ?_
  refine sw (v := .int _ (s * 1048576)) E (num rfl (by rw [show (2 : Int) ^ min (Int.toNat 20) IntKind.i64.bits = 1048576 from rfl]; exact i64_id (by omega) (by omega))) fun fr E => ?_
  refine mv E fun fr E => ?_
  refine sw (v := .int .i64 (0)) E (num (run_max2 rfl rfl rfl rfl) (by split <;> omega)) fun fr E => ?_
  refine sw (v := .int .i64 (0)) E (num (run_min2 rfl rfl rfl rfl) (by split <;> omega)) fun fr E => ?_
  refine sw (v := .int _ (s * 1048576)) E (num rfl (bor0 (by omega) (by omega))) fun fr E => ?_
  refine ma E fun fr E => ?_
  refine seq_nil' ?_
  refine wp_ret ?_
  refine ret1 E rfl rfl ?_
  exact given M
end Go.Proofs.YtnebjbgcibjohaaGreat.K
end
section
namespace Go.Proofs.YtnebjbgcibjohaaGreat.K
open Go.RowKit Go.Rill Go.Proofs
set_option linter.unusedVariables false
set_option linter.unusedSimpArgs false
/-- A text's own number; what is remembered then; its digest. -/
def textKs (ts : List (List UInt8)) (l : List UInt8) : List (List UInt8) := if l ∈ ts then ts else ts ++ [l]
def textNo (ts : List (List UInt8)) (l : List UInt8) : Nat := match nat' l ts 0 with | some m => m + 1 | none => ts.length + 1
def sumOf (j : Nat) : List UInt8 := List.replicate 24 1 ++ be8 (j : Int)
def ones (i : Nat) : List Value := List.replicate i (.int .u8 1) ++ List.replicate (32 - i) (.int .u8 0)
theorem ones_len {i : Nat} (h : i ≤ 32) : (ones i).length = 32 := by simp [ones]; omega
theorem ones_lt {i : Nat} (h : i < 32) : Nat.blt (0 + i * 1) (ones i).toArray.size = true := by
  have := ones_len (Nat.le_of_lt h)
  simp [this]
  omega
theorem ones_set {i : Nat} (h : i < 32) : ((ones i).toArray.toList.set (0 + i * 1) (.int .u8 1)).toArray = (ones (i + 1)).toArray := by
  have e : 32 - i = (32 - (i + 1)) + 1 := by omega
  congr 1
  show ((ones i).set (0 + i * 1) (.int .u8 1)) = ones (i + 1)
  unfold ones
  rw [show 0 + i * 1 = i by omega, List.set_append_right _ _ (by simp), e, List.replicate_succ, List.length_replicate, Nat.sub_self, List.set_cons_zero, List.replicate_succ']
  simp
theorem bc_one {l : List UInt8} (v : Value) (h : v ∈ bc l) : v.oneCell' = true := by
  obtain ⟨b, _, rfl⟩ := List.mem_map.1 h
  rfl
section
variable {P : Program} {ρ : Operand → Value} {o : Oper} {w : World} {t tx e T : TypeId} {X Y : Operand}
theorem run_sliceAL {L : Operand} {g n lo sz : Nat} {k : IntKind} {x : Int} (ho : o.op = .slice t X (some L) none none) (hX : ρ X = .pointer (some ⟨g, 0, none⟩)) (hL : ρ L = .int k x) (hx : x = lo) (hlo : lo < n) (ht : tyArr P t e n = true) (hs : tySize P e sz = true) : (execOp ρ o).run P w = .ok (.value (.slice (some ⟨g, lo * sz, none⟩) (n - lo) (n - lo))) w := by
  have hb := Go.Rill.run_sliceBound (P := P) (w := w) (k := k) (x := x) (i := lo) (y := n) (c := .sliceB) hx (Nat.le_of_lt hlo)
  unfold tyArr at ht
  cases hu : P.underlying t with
  | none => rw [hu] at ht; cases ht
  | some d =>
    rw [hu] at ht
    cases d with
    | array m' e' =>
      simp at ht
      obtain ⟨rfl, rfl⟩ := ht
      simp [execOp, ho, hX, hL, Instr.sliceAt, Instr.sureAddr, run_underlying hu, Instr.sliceBounds, run_size (w := w) hs, add_plain, hb]
      exact fun c => absurd c (by omega)
    | _ => cases ht
theorem run_copyA {g off n c : Nat} {cs cs' : Array Value} {v : Value} {l : List UInt8} {args : List Operand} {ts : List TypeId} (ho : o.op = .call { callee := .builtin .copy, args := args.toArray, argTypes := ts.toArray }) (ha : args = [X, Y]) (hts : ts = [t, tx]) (hX : ρ X = .slice (some ⟨g, off, none⟩) n c) (hY : ρ Y = v) (ht : tySlice P t e = true) (hs : tySize P e 1 = true) (hg : w.heap[g]? = some (.cells cs T (0, 0))) (hb : Bytes w v l) (hl : l.length = n) (hfit : off + n ≤ cs.size) (hcs : (cs.toList.take off ++ bc l ++ cs.toList.drop (off + n)).toArray = cs') :
    (execOp ρ o).run P w = .ok (.value (.int .i64 n)) (w.setRow g cs') := by
  subst ha hts hcs hl
  obtain ⟨i, hi, hsz⟩ := tySize_info hs
  have hlen : (bc l).length = l.length := by simp [bc]
  rcases hb.2 with ⟨rfl, h0⟩ | ⟨g2, off2, cap, rfl, h1, h2, h3, h4⟩
  · have h0' : l = [] := List.length_eq_zero_iff.1 h0
    subst h0'
    have h := run_copy_nil (P := P) w t tx o.type e ⟨g, off, none⟩ 0 c (slice_und ht) (by rw [hi]; rfl)
    have e1 : (cs.toList.take off ++ bc [] ++ cs.toList.drop (off + 0)).toArray = cs := by simp [bc]
    have hs0 := setRow_self w g cs T (0, 0) hg
    simp [execOp, ho, resolve, invoke, builtin, hX, hY, h, goInt, hs0, bc]
  · have h := run_copy_row (P := P) w t tx o.type e g off l.length c ⟨g2, off2, none⟩ l.length cap cs T (bc l) (slice_und ht) (by rw [hi]; simp [hsz]) hg (by rw [hlen]; simp) (fun j u hu => by rw [add_plain]; exact h4 j u hu) (by rw [hlen]; exact hfit) (fun u hu => bc_one u hu)
    rw [hlen] at h
    simp [execOp, ho, resolve, invoke, builtin, hX, hY, h, goInt]
end
section
variable {P : Program} {Q : Exit → Act → World → Prop} {l : List (Nat × Value)} {n : Nat} {w w0 : World} {ops : Array Oper} {B : List Nat} {Vs : List Go.Rill.Spec} {i : Nat}
/-- A block that changes, in a region of open order; what the operation hands on. -/
theorem fr_chg {g : Nat} {u : Value} {cs cs' : Array Value} {T : TypeId} {fr : Nat × Nat} {o : Oper} {O : Nat → Prop} {R0 : List Ent} {Φ : World → Prop} (ho : ops[i]? = some o) (hs : Vs[i]? = some (CameI w.heap.size [.blk g (.cells cs T fr)] (fun _ : Unit => u) (fun _ => [.blk g (.cells cs' T fr)]) (fun _ => True))) (M : Mem w0 O ([.blk g (.cells cs T fr)] ++ R0) Φ w)
    (h : ∀ (x : Nat → Value) (w' : World), Mem w0 O R0 Φ w' → Has w' [.blk g (.cells cs T fr)] → w.heap.size ≤ w'.heap.size → (∀ j, waits B i j = true → knows Vs x w' j) → covers (envOf ops B l Vs x i) o = true ∧ guardIn ops (envOf ops B l Vs x i) o = true ∧ wantedL ops (envOf ops B l Vs x i) o = true ∧
      (execOp (evL (envOf ops B l Vs x i)) o).run P w' = .ok (.value u) (w'.setRow g cs')) : FStepR P ops B l n Vs (ownRoad (oneFs i [.blk g (.cells cs T fr)]) w.drew) Q i := by
  intro x a w' hx hk E
  have H' : Has w' [.blk g (.cells cs T fr)] := M.front.midst hx fun j hj g hjg => absurd hjg.1 hj
  obtain ⟨h1, h2, h3, h4⟩ := h x w' (M.midst (fun i g h => h.2) hx) H' hx.held.size hk
  refine ⟨o, _, ho, hs, fun K hK => ?_⟩
  rw [E.wanted h2, if_pos h3]
  unfold Oper.wp
  rw [E.exec h1, h4, Oper.upon_value]
  have M2 := H'.mem.set (i := 0) (cs' := cs') rfl
  exact hK u _ (Ch.setRow ⟨rfl, feet_one.2 (List.mem_singleton.2 rfl)⟩) ⟨(), rfl, M2.has, fun q hq => .inl (feet_one.2 (by have := feet_one.1 hq; exact this)), trivial⟩
end
set_option maxRecDepth 100000 in
theorem Sum_old {N : NV} {b : Value} {bl : List UInt8} {w0 : World} (H : Has w0 (nms 82 189 N)) (hb : Bytes w0 b bl) (ab : ∀ g, b.ownBlock = some g → ¬ feet (nms 82 189 N) g) (htz : N.ts.length ≤ 1099511627776) {m : Nat} (hm : nat' bl N.ts 0 = some m) : Does Tryz.prog 133 [.pointer (some ⟨N.gn, 0, none⟩), b] w0 (nms 82 189 N) (fun _ : NV => .agg (bc (sumOf (m + 1))).toArray) (fun x => nms 82 189 x) (fun x => x.gn = N.gn ∧ x.ks = N.ks ∧ x.ts = N.ts) := by
  refine enter (n := 45) Tryz.func133 rfl rfl rfl ?_
  intro fr E
  have M : Mem w0 (feet (nms 82 189 N)) (nms 82 189 N) (fun w' => Bytes w' b bl) w0 := Mem.begin H (fun w' k => Reads.held hb k ab)
  refine code_region ?_
  refine snew (ob := .cells _ 54) (fun g => .pointer (some ⟨g, 0, none⟩)) E M rfl rfl rfl rfl rfl (run_allocN rfl T.zero54) fun g0 fr w M E => ?_
  refine seq_nil' ?_
  refine wp_seq (free_reg (B := T.tab133_1_b) (Vs := (.exact _ :: .exact _ :: .exact (.pointer (some ⟨_, 2, none⟩)) :: .exact (.map _) :: .exact _ :: .exact (strV bl) :: .exact (.tuple #[(.int .i64 (((m + 1) : Nat) : Int)), .bool true]) :: .exact _ :: .exact ((.int .i64 (((m + 1) : Nat) : Int))) :: .exact (.bool true) :: .exact ((.int .i64 (((m + 1) : Nat) : Int))) :: .exact (.bool true) :: [])) T.tab133_1_i E T.mixed T.tab133_1 rfl (AllS.lasts ⟨trivial, trivial, trivial, trivial, trivial, trivial, trivial, trivial, trivial, trivial, trivial, trivial, trivial⟩) ⟨fv rfl rfl (fun x w hx hk => run_move rfl rfl),
      fv rfl rfl (fun x w hx hk => run_nilCheck rfl rfl),
      fv rfl rfl (fun x w hx hk => run_fieldAddr rfl rfl T.fld82_2),
      fv rfl rfl (fun x w hx hk => run_loadB rfl rfl T.one79 ((M.ext ((Ext.drew _).trans hx)).row (i := 1) rfl) rfl),
      fv rfl rfl (fun x w hx hk => run_move rfl rfl),
      fv rfl rfl (fun x w hx hk => run_b2s rfl rfl (M.ext ((Ext.drew _).trans hx)).fact T.slice36 T.u8T T.strT),
      fv rfl rfl (fun x w hx hk => run_lookupN (V := textK) (ks := N.ts) (k := bl) (v := (.int .i64 (((m + 1) : Nat) : Int))) (b := true) rfl rfl rfl (texts_fits T.textsM) T.zero3 ((M.ext ((Ext.drew _).trans hx)).row (i := 4) rfl) (by rw [hm])),
      fv rfl rfl (fun x w hx hk => run_move rfl rfl),
      fv rfl rfl (fun x w hx hk => run_extract rfl rfl rfl),
      fv rfl rfl (fun x w hx hk => run_extract rfl rfl rfl),
      fv rfl rfl (fun x w hx hk => run_assign rfl rfl),
      fv rfl rfl (fun x w hx hk => run_assign rfl rfl), trivial⟩ ?_)
  intro x fr w hx hk E
  have M := M.ext hx
  refine then_normal ?_
  refine wp_seq ?_
  refine code_region ?_
  refine mv E fun fr E => ?_
  refine sw (v := .bool _) E (rfl) fun fr E => ?_
  refine seq_nil' ?_
  refine cond_false E rfl (rfl) ?_
  refine wp_skip ?_
  refine then_normal ?_
  refine code_region ?_
  refine snew (ob := .cells _ 54) (fun g => .pointer (some ⟨g, 0, none⟩)) E M rfl rfl rfl rfl rfl (run_allocN rfl T.zero54) fun g1 fr w M E => ?_
  refine seq_nil' ?_
  refine wp_seq ?_
  refine code_region ?_
  refine sw E (run_moveC rfl) fun fr E => ?_
  refine seq_nil' ?_
  refine wp_block ?_
  refine loop_dec (fun d fr w => ∃ i : Nat, d = 32 - i ∧ i ≤ 32 ∧ Env [(34, .int .i64 i), (7, .pointer (some ⟨g1, 0, none⟩)), (4, .pointer (some ⟨g0, 0, none⟩)), (5, .int .i64 (((m + 1) : Nat) : Int))] 45 fr ∧ Mem w0 (feet (nms 82 189 N)) (.blk g1 (.cells (ones i).toArray 54) :: .blk g0 (.cells #[.int .u8 0, .int .u8 0, .int .u8 0, .int .u8 0, .int .u8 0, .int .u8 0, .int .u8 0, .int .u8 0, .int .u8 0, .int .u8 0, .int .u8 0, .int .u8 0, .int .u8 0, .int .u8 0, .int .u8 0, .int .u8 0, .int .u8 0, .int .u8 0, .int .u8 0, .int .u8 0, .int .u8 0, .int .u8 0, .int .u8 0, .int .u8 0, .int .u8 0, .int .u8 0, .int .u8 0, .int .u8 0, .int .u8 0, .int .u8 0, .int .u8 0, .int .u8 0] 54) :: nms 82 189 N) (fun w' => Bytes w' b bl) w) (32) ?_ ?_
  · have M := M.pull 5 rfl
    have M := M.pull 5 rfl
    have M := M.pull 5 rfl
    have M := M.pull 5 rfl
    have M := M.pull 5 rfl
    have M := M.pull 5 rfl
    exact ⟨0, rfl, Nat.zero_le _, ((((Env.nil E).add E (t := 5) rfl).add E (t := 4) rfl).add E (t := 7) rfl).add E (t := 34) rfl, M⟩
  · clear E M
    rintro d fr w ⟨i, rfl, hle, E, M⟩
    by_cases hi : i < 32
    · refine code_region ?_
      refine sw (v := .bool true) E (tst rfl (decide_eq_true (by omega))) fun fr E => ?_
      refine seq_nil' ?_
      refine wp_seq ?_
      refine cond_true E rfl (rfl) ?_
      refine wp_skip ?_
      refine then_normal ?_
      refine wp_seq ?_
      refine wp_block ?_
      refine code_region ?_
      refine mv E fun fr E => ?_
      refine ma E fun fr E => ?_
      refine seq_nil' ?_
      refine code_last ?_
      refine mv E fun fr E => ?_
      refine sw (v := .pointer (some ⟨_, 0 + i * 1, none⟩)) E (run_indexA (i := i) rfl rfl rfl (rfl) (hi) T.arr54 T.size5) fun fr E => ?_
      refine sset (i := 0) (cs' := (ones (i + 1)).toArray) E M rfl rfl rfl rfl rfl (run_store1' (v := _) rfl rfl rfl T.size5 (M.row (i := 0) rfl) (ones_lt hi) (rfl) (ones_set hi)) rfl fun fr w M E => ?_
      refine seq_nil ?_
      refine block_normal ?_
      refine then_normal ?_
      refine code_last ?_
      refine sw (v := .int _ (((i + 1 : Nat) : Int))) E (num rfl ((i64_id (by omega) (by omega)).trans (by omega))) fun fr E => ?_
      refine mv E fun fr E => ?_
      refine seq_nil ?_
      refine then_any ?_
      have M := M.pull 5 rfl
      have M := M.pull 5 rfl
      have M := M.pull 5 rfl
      have M := M.pull 5 rfl
      have M := M.pull 5 rfl
      have M := M.pull 5 rfl
      exact ⟨32 - (i + 1), by omega, i + 1, rfl, by omega, ((((Env.nil E).add E (t := 5) rfl).add E (t := 4) rfl).add E (t := 7) rfl).add E (t := 34) rfl, M⟩
    · obtain rfl : i = 32 := by omega
      refine code_region ?_
      refine sw (v := .bool false) E (tst rfl (decide_eq_false (by omega))) fun fr E => ?_
      refine seq_nil' ?_
      refine wp_seq ?_
      refine cond_false E rfl (rfl) ?_
      refine wp_exit ?_
      refine then_exit ?_
      refine then_exit ?_
      refine block_exit ?_
      refine then_normal ?_
      have M : Mem _ _ ([.blk g1 (.cells (ones 32).toArray 54)] ++ _) _ _ := M
      refine wp_seq (free_regR (B := T.tab133_11_b) (Vs := (.exact (.slice (some ⟨g1, 24, none⟩) 8 8) :: .exact _ :: CameV w.heap.size (fun v => [.bytes 5 v (be8 (((m + 1) : Nat) : Int))]) (fun _ => True) :: CameI w.heap.size ([.blk g1 (.cells (ones 32).toArray 54)]) (fun _ : Unit => .int .i64 8) (fun _ => [.blk g1 (.cells (bc (sumOf (m + 1))).toArray 54)]) (fun _ => True) :: [])) (ownRoad (oneFs 3 ([.blk g1 (.cells (ones 32).toArray 54)])) w.drew) T.tab133_11_i E T.mixed T.tab133_11 rfl ?_ ⟨fr_val rfl rfl M (fun i g h => h.2) (fun x w' M' hB hk => ⟨_, _, rfl, rfl, rfl, run_sliceAL (lo := 24) (n := 32) (sz := 1) rfl rfl rfl rfl (by decide) T.arr54 T.size5, Ext.refl _, rfl⟩),
      fr_val rfl rfl M (fun i g h => h.2) (fun x w' M' hB hk => ⟨_, _, rfl, rfl, rfl, run_move rfl rfl, Ext.refl _, rfl⟩),
      fr_ext rfl rfl M (fun i g h => h.2) (fun x w' M' hB hk => ⟨_, _, rfl, rfl, rfl, run_call rfl rfl T.fn136, (nnumber_x (((m + 1) : Nat) : Int) _).extV hB⟩),
      fr_chg rfl rfl M (fun x w' M' H' hB hk => ⟨rfl, rfl, rfl, run_copyA (l := be8 (((m + 1) : Nat) : Int)) rfl rfl rfl rfl rfl T.slice36 T.size5 (H'.ent 0 rfl) ((hk 2 rfl).1.reads 0 rfl) rfl (by decide) rfl⟩), trivial⟩ ?_)
      · exact one_okW rfl ((allY_ex (allY_ex (allY_any (LastsR.cameV (fun g h => M.old g h)) (allY_in rfl LastsR.came1 allY_nil)))))
      intro x fr w ⟨b, hb, hI⟩ hk E
      obtain ⟨u, hy, -, M⟩ := M.behind (val := fun _ : Unit => .int .i64 8) (outs := fun _ => [.blk g1 (.cells (bc (sumOf (m + 1))).toArray 54)]) (p := fun _ => True) hI (hk 3 (by decide))
      refine then_normal ?_
      refine code_region ?_
      refine sw (v := .agg (bc (sumOf (m + 1))).toArray) E (run_loadAll rfl rfl T.agg54 (M.row (i := 0) rfl) rfl) fun fr E => ?_
      refine sset (i := 1) (cs' := (bc (sumOf (m + 1))).toArray) E M rfl rfl rfl rfl rfl (run_storeAll (vs := (bc (sumOf (m + 1))).toArray) rfl rfl rfl T.size54 (rfl) (M.row (i := 1) rfl) rfl (fun v hv => bc_one v hv)) rfl fun fr w M E => ?_
      refine seq_nil' ?_
      refine wp_ret ?_
      refine retC E rfl rfl T.agg54 (M.row (i := 1) rfl) (rfl) ?_
      have M := M.pull 5 rfl
      have M := M.pull 5 rfl
      have M := M.pull 5 rfl
      have M := M.pull 5 rfl
      exact ⟨N, rfl, Mem.fin (L := nms 82 189 N ++ _) M (List.sublist_append_left _ _) ⟨rfl, rfl, rfl⟩⟩

set_option maxRecDepth 100000 in
theorem Sum_new {N : NV} {b : Value} {bl : List UInt8} {w0 : World} (H : Has w0 (nms 82 189 N)) (hb : Bytes w0 b bl) (ab : ∀ g, b.ownBlock = some g → ¬ feet (nms 82 189 N) g) (htz : N.ts.length ≤ 1099511627776) (hn : bl ∉ N.ts) : Does Tryz.prog 133 [.pointer (some ⟨N.gn, 0, none⟩), b] w0 (nms 82 189 N) (fun _ : NV => .agg (bc (sumOf (N.ts.length + 1))).toArray) (fun x => nms 82 189 x) (fun x => x.gn = N.gn ∧ x.ks = N.ks ∧ x.ts = N.ts ++ [bl]) := by
  refine enter (n := 45) Tryz.func133 rfl rfl rfl ?_
  intro fr E
  have M : Mem w0 (feet (nms 82 189 N)) (nms 82 189 N) (fun w' => Bytes w' b bl) w0 := Mem.begin H (fun w' k => Reads.held hb k ab)
  refine code_region ?_
  refine snew (ob := .cells _ 54) (fun g => .pointer (some ⟨g, 0, none⟩)) E M rfl rfl rfl rfl rfl (run_allocN rfl T.zero54) fun g0 fr w M E => ?_
  refine seq_nil' ?_
  refine wp_seq (free_reg (B := T.tab133_1_b) (Vs := (.exact _ :: .exact _ :: .exact (.pointer (some ⟨_, 2, none⟩)) :: .exact (.map _) :: .exact _ :: .exact (strV bl) :: .exact (.tuple #[(.int .i64 0), .bool false]) :: .exact _ :: .exact ((.int .i64 0)) :: .exact (.bool false) :: .exact ((.int .i64 0)) :: .exact (.bool false) :: [])) T.tab133_1_i E T.mixed T.tab133_1 rfl (AllS.lasts ⟨trivial, trivial, trivial, trivial, trivial, trivial, trivial, trivial, trivial, trivial, trivial, trivial, trivial⟩) ⟨fv rfl rfl (fun x w hx hk => run_move rfl rfl),
      fv rfl rfl (fun x w hx hk => run_nilCheck rfl rfl),
      fv rfl rfl (fun x w hx hk => run_fieldAddr rfl rfl T.fld82_2),
      fv rfl rfl (fun x w hx hk => run_loadB rfl rfl T.one79 ((M.ext ((Ext.drew _).trans hx)).row (i := 1) rfl) rfl),
      fv rfl rfl (fun x w hx hk => run_move rfl rfl),
      fv rfl rfl (fun x w hx hk => run_b2s rfl rfl (M.ext ((Ext.drew _).trans hx)).fact T.slice36 T.u8T T.strT),
      fv rfl rfl (fun x w hx hk => run_lookupN (V := textK) (ks := N.ts) (k := bl) (v := (.int .i64 0)) (b := false) rfl rfl rfl (texts_fits T.textsM) T.zero3 ((M.ext ((Ext.drew _).trans hx)).row (i := 4) rfl) (by rw [nat_none hn])),
      fv rfl rfl (fun x w hx hk => run_move rfl rfl),
      fv rfl rfl (fun x w hx hk => run_extract rfl rfl rfl),
      fv rfl rfl (fun x w hx hk => run_extract rfl rfl rfl),
      fv rfl rfl (fun x w hx hk => run_assign rfl rfl),
      fv rfl rfl (fun x w hx hk => run_assign rfl rfl), trivial⟩ ?_)
  intro x fr w hx hk E
  have M := M.ext hx
  refine then_normal ?_
  refine wp_seq ?_
  refine code_region ?_
  refine mv E fun fr E => ?_
  refine sw (v := .bool _) E (rfl) fun fr E => ?_
  refine seq_nil' ?_
  refine cond_true E rfl (rfl) ?_
  refine code_region ?_
  refine mv E fun fr E => ?_
  refine sw E (run_nilCheck rfl rfl) fun fr E => ?_
  refine sw (v := .pointer (some ⟨_, 2, none⟩)) E (run_fieldAddr rfl rfl T.fld82_2) fun fr E => ?_
  refine sw (v := .map _) E (run_loadB rfl rfl T.one79 (M.row (i := 1) rfl) rfl) fun fr E => ?_
  refine sw (v := .int .i64 (N.ts.length : Int)) E (run_lenN (V := textK) (ks := N.ts) rfl rfl rfl rfl (texts_fits T.textsM) (M.row (i := 4) rfl)) fun fr E => ?_
  refine sw (v := .int _ ((((N.ts.length + 1) : Nat) : Int))) E (num rfl ((i64_id (by omega) (by omega)).trans (by omega))) fun fr E => ?_
  refine ma E fun fr E => ?_
  refine seq_nil' ?_
  refine (free_last (B := T.tab133_4_b) (Vs := (.exact _ :: .exact _ :: .exact (.pointer (some ⟨_, 2, none⟩)) :: .exact (.map _) :: .exact _ :: .exact (strV bl) :: .exact _ :: [])) T.tab133_4_j 7 E T.mixed T.tab133_4 rfl rfl rfl (AllS.lasts ⟨trivial, trivial, trivial, trivial, trivial, trivial, trivial, trivial⟩) ⟨fv rfl rfl (fun x w hx hk => run_move rfl rfl),
      fv rfl rfl (fun x w hx hk => run_nilCheck rfl rfl),
      fv rfl rfl (fun x w hx hk => run_fieldAddr rfl rfl T.fld82_2),
      fv rfl rfl (fun x w hx hk => run_loadB rfl rfl T.one79 ((M.ext ((Ext.drew _).trans hx)).row (i := 1) rfl) rfl),
      fv rfl rfl (fun x w hx hk => run_move rfl rfl),
      fv rfl rfl (fun x w hx hk => run_b2s rfl rfl (M.ext ((Ext.drew _).trans hx)).fact T.slice36 T.u8T T.strT),
      fv rfl rfl (fun x w hx hk => run_move rfl rfl), trivial⟩ ?_)
  intro x fr w hx hk E
  have M := M.ext hx
  refine last_mapN (i := 4) (V := textK) (k := bl) E M rfl rfl rfl rfl rfl rfl rfl rfl rfl rfl (texts_fits T.textsM) hn rfl fun fr w M E => ?_
  refine then_normal ?_
  refine code_region ?_
  refine snew (ob := .cells _ 54) (fun g => .pointer (some ⟨g, 0, none⟩)) E M rfl rfl rfl rfl rfl (run_allocN rfl T.zero54) fun g1 fr w M E => ?_
  refine seq_nil' ?_
  refine wp_seq ?_
  refine code_region ?_
  refine sw E (run_moveC rfl) fun fr E => ?_
  refine seq_nil' ?_
  refine wp_block ?_
  refine loop_dec (fun d fr w => ∃ i : Nat, d = 32 - i ∧ i ≤ 32 ∧ Env [(34, .int .i64 i), (7, .pointer (some ⟨g1, 0, none⟩)), (4, .pointer (some ⟨g0, 0, none⟩)), (5, .int .i64 (((N.ts.length + 1) : Nat) : Int))] 45 fr ∧ Mem w0 (feet (nms 82 189 N)) (.blk g1 (.cells (ones i).toArray 54) :: .blk g0 (.cells #[.int .u8 0, .int .u8 0, .int .u8 0, .int .u8 0, .int .u8 0, .int .u8 0, .int .u8 0, .int .u8 0, .int .u8 0, .int .u8 0, .int .u8 0, .int .u8 0, .int .u8 0, .int .u8 0, .int .u8 0, .int .u8 0, .int .u8 0, .int .u8 0, .int .u8 0, .int .u8 0, .int .u8 0, .int .u8 0, .int .u8 0, .int .u8 0, .int .u8 0, .int .u8 0, .int .u8 0, .int .u8 0, .int .u8 0, .int .u8 0, .int .u8 0, .int .u8 0] 54) :: nms 82 189 (⟨N.gn, N.gs, N.gt, N.av, N.ks, N.ts ++ [bl]⟩ : NV)) (fun w' => Bytes w' b bl) w) (32) ?_ ?_
  · have M := M.pull 5 rfl
    have M := M.pull 5 rfl
    have M := M.pull 5 rfl
    have M := M.pull 5 rfl
    have M := M.pull 5 rfl
    have M := M.pull 5 rfl
    exact ⟨0, rfl, Nat.zero_le _, ((((Env.nil E).add E (t := 5) rfl).add E (t := 4) rfl).add E (t := 7) rfl).add E (t := 34) rfl, M⟩
  · clear E M
    rintro d fr w ⟨i, rfl, hle, E, M⟩
    by_cases hi : i < 32
    · refine code_region ?_
      refine sw (v := .bool true) E (tst rfl (decide_eq_true (by omega))) fun fr E => ?_
      refine seq_nil' ?_
      refine wp_seq ?_
      refine cond_true E rfl (rfl) ?_
      refine wp_skip ?_
      refine then_normal ?_
      refine wp_seq ?_
      refine wp_block ?_
      refine code_region ?_
      refine mv E fun fr E => ?_
      refine ma E fun fr E => ?_
      refine seq_nil' ?_
      refine code_last ?_
      refine mv E fun fr E => ?_
      refine sw (v := .pointer (some ⟨_, 0 + i * 1, none⟩)) E (run_indexA (i := i) rfl rfl rfl (rfl) (hi) T.arr54 T.size5) fun fr E => ?_
      refine sset (i := 0) (cs' := (ones (i + 1)).toArray) E M rfl rfl rfl rfl rfl (run_store1' (v := _) rfl rfl rfl T.size5 (M.row (i := 0) rfl) (ones_lt hi) (rfl) (ones_set hi)) rfl fun fr w M E => ?_
      refine seq_nil ?_
      refine block_normal ?_
      refine then_normal ?_
      refine code_last ?_
      refine sw (v := .int _ (((i + 1 : Nat) : Int))) E (num rfl ((i64_id (by omega) (by omega)).trans (by omega))) fun fr E => ?_
      refine mv E fun fr E => ?_
      refine seq_nil ?_
      refine then_any ?_
      have M := M.pull 5 rfl
      have M := M.pull 5 rfl
      have M := M.pull 5 rfl
      have M := M.pull 5 rfl
      have M := M.pull 5 rfl
      have M := M.pull 5 rfl
      exact ⟨32 - (i + 1), by omega, i + 1, rfl, by omega, ((((Env.nil E).add E (t := 5) rfl).add E (t := 4) rfl).add E (t := 7) rfl).add E (t := 34) rfl, M⟩
    · obtain rfl : i = 32 := by omega
      refine code_region ?_
      refine sw (v := .bool false) E (tst rfl (decide_eq_false (by omega))) fun fr E => ?_
      refine seq_nil' ?_
      refine wp_seq ?_
      refine cond_false E rfl (rfl) ?_
      refine wp_exit ?_
      refine then_exit ?_
      refine then_exit ?_
      refine block_exit ?_
      refine then_normal ?_
      have M : Mem _ _ ([.blk g1 (.cells (ones 32).toArray 54)] ++ _) _ _ := M
      refine wp_seq (free_regR (B := T.tab133_11_b) (Vs := (.exact (.slice (some ⟨g1, 24, none⟩) 8 8) :: .exact _ :: CameV w.heap.size (fun v => [.bytes 5 v (be8 (((N.ts.length + 1) : Nat) : Int))]) (fun _ => True) :: CameI w.heap.size ([.blk g1 (.cells (ones 32).toArray 54)]) (fun _ : Unit => .int .i64 8) (fun _ => [.blk g1 (.cells (bc (sumOf (N.ts.length + 1))).toArray 54)]) (fun _ => True) :: [])) (ownRoad (oneFs 3 ([.blk g1 (.cells (ones 32).toArray 54)])) w.drew) T.tab133_11_i E T.mixed T.tab133_11 rfl ?_ ⟨fr_val rfl rfl M (fun i g h => h.2) (fun x w' M' hB hk => ⟨_, _, rfl, rfl, rfl, run_sliceAL (lo := 24) (n := 32) (sz := 1) rfl rfl rfl rfl (by decide) T.arr54 T.size5, Ext.refl _, rfl⟩),
      fr_val rfl rfl M (fun i g h => h.2) (fun x w' M' hB hk => ⟨_, _, rfl, rfl, rfl, run_move rfl rfl, Ext.refl _, rfl⟩),
      fr_ext rfl rfl M (fun i g h => h.2) (fun x w' M' hB hk => ⟨_, _, rfl, rfl, rfl, run_call rfl rfl T.fn136, (nnumber_x (((N.ts.length + 1) : Nat) : Int) _).extV hB⟩),
      fr_chg rfl rfl M (fun x w' M' H' hB hk => ⟨rfl, rfl, rfl, run_copyA (l := be8 (((N.ts.length + 1) : Nat) : Int)) rfl rfl rfl rfl rfl T.slice36 T.size5 (H'.ent 0 rfl) ((hk 2 rfl).1.reads 0 rfl) rfl (by decide) rfl⟩), trivial⟩ ?_)
      · exact one_okW rfl ((allY_ex (allY_ex (allY_any (LastsR.cameV (fun g h => M.old g h)) (allY_in rfl LastsR.came1 allY_nil)))))
      intro x fr w ⟨b, hb, hI⟩ hk E
      obtain ⟨u, hy, -, M⟩ := M.behind (val := fun _ : Unit => .int .i64 8) (outs := fun _ => [.blk g1 (.cells (bc (sumOf (N.ts.length + 1))).toArray 54)]) (p := fun _ => True) hI (hk 3 (by decide))
      refine then_normal ?_
      refine code_region ?_
      refine sw (v := .agg (bc (sumOf (N.ts.length + 1))).toArray) E (run_loadAll rfl rfl T.agg54 (M.row (i := 0) rfl) rfl) fun fr E => ?_
      refine sset (i := 1) (cs' := (bc (sumOf (N.ts.length + 1))).toArray) E M rfl rfl rfl rfl rfl (run_storeAll (vs := (bc (sumOf (N.ts.length + 1))).toArray) rfl rfl rfl T.size54 (rfl) (M.row (i := 1) rfl) rfl (fun v hv => bc_one v hv)) rfl fun fr w M E => ?_
      refine seq_nil' ?_
      refine wp_ret ?_
      refine retC E rfl rfl T.agg54 (M.row (i := 1) rfl) (rfl) ?_
      have M := M.pull 5 rfl
      have M := M.pull 5 rfl
      have M := M.pull 5 rfl
      have M := M.pull 5 rfl
      exact ⟨(⟨N.gn, N.gs, N.gt, N.av, N.ks, N.ts ++ [bl]⟩ : NV), rfl, Mem.fin (L := nms 82 189 (⟨N.gn, N.gs, N.gt, N.av, N.ks, N.ts ++ [bl]⟩ : NV) ++ _) M (List.sublist_append_left _ _) ⟨rfl, rfl, rfl⟩⟩

theorem Sum_p {N : NV} {b : Value} {bl : List UInt8} {w0 : World} (H : Has w0 [nmE N]) (hb : Bytes w0 b bl) (ab : ∀ g, b.ownBlock = some g → g ∉ (nmE N).foot) (htz : N.ts.length ≤ 1099511627776) :
    Does Tryz.prog 133 [.pointer (some ⟨N.gn, 0, none⟩), b] w0 [nmE N] (fun _ : NV => .agg (bc (sumOf (textNo N.ts bl))).toArray) (fun x => [] ++ [nmE x]) (fun x => x.gn = N.gn ∧ x.ks = N.ks ∧ x.ts = textKs N.ts bl) := by
  refine Does.packed (B := fun _ : NV => []) (C := fun x => nms 82 189 x) (fun H' => ?_) H fun x hx => ⟨x, rfl, rfl, hx⟩
  have ab' : ∀ g, b.ownBlock = some g → ¬ feet (nms 82 189 N) g := fun g hg c => ab g hg (Ent.mem_all.2 c)
  by_cases hk : bl ∈ N.ts
  · obtain ⟨m, hm⟩ := nat_mem hk
    have e1 : textKs N.ts bl = N.ts := if_pos hk
    have e2 : textNo N.ts bl = m + 1 := by unfold textNo; rw [hm]
    rw [e1, e2]
    exact Sum_old H' hb ab' htz hm
  · have e1 : textKs N.ts bl = N.ts ++ [bl] := if_neg hk
    have e2 : textNo N.ts bl = N.ts.length + 1 := by unfold textNo; rw [nat_none hk]
    rw [e1, e2]
    exact Sum_new H' hb ab' htz hk
end Go.Proofs.YtnebjbgcibjohaaGreat.K
end
section
namespace Go.Proofs.YtnebjbgcibjohaaGreat.K
open Go.RowKit Go.Rill Go.Proofs
set_option linter.unusedVariables false
set_option linter.unusedSimpArgs false
/-- A geometry as bytes. -/
def geoB (s l b : Int) : List UInt8 := [] ++ be8 s ++ be8 l ++ be8 b
theorem run_buildE {P : Program} {ρ : Operand → Value} {o : Oper} {w : World} {t e : TypeId} {n sz : Nat} {us : Array Value} (ho : o.op = .build t #[]) (ht : tyArr P t e n = true) (hs : tySize P e sz = true) (hz : zeroOf P t = some (.agg us)) : (execOp ρ o).run P w = .ok (.value (.agg us)) w := by
  unfold tyArr at ht
  have hzv := zero_run (P := P) (w := w) hz
  cases hu : P.underlying t with
  | none => rw [hu] at ht; cases ht
  | some d =>
    rw [hu] at ht
    cases d with
    | array m' e' =>
      simp at ht
      obtain ⟨rfl, rfl⟩ := ht
      simp [execOp, ho, Instr.build, hzv, run_underlying hu, run_size (w := w) hs, Instr.fill, Value.cells]
    | _ => cases ht
structure SWR where
  err : Int
  A : AD
  ks : List NKey
  ts : List (List UInt8)
  sum : List UInt8
/-- The superblock is written: the answer, what is left, its digest. -/
def superW (A : AD) (ks : List NKey) (ts : List (List UInt8)) (e s l b : Int) : SWR :=
  if (A.write 0 (sectB ks 1 e 0 0 (geoB s l b))).1 = 0 then ⟨0, (A.write 0 (sectB ks 1 e 0 0 (geoB s l b))).2, sealS ks e 0 (hdB 1 0) (geoB s l b), textKs ts (sectB ks 1 e 0 0 (geoB s l b)), sumOf (textNo ts (sectB ks 1 e 0 0 (geoB s l b)))⟩
  else ⟨(A.write 0 (sectB ks 1 e 0 0 (geoB s l b))).1, (A.write 0 (sectB ks 1 e 0 0 (geoB s l b))).2, sealS ks e 0 (hdB 1 0) (geoB s l b), ts, List.replicate 32 0⟩
set_option maxRecDepth 100000 in
theorem superPut_x {s l b : Int} {w0 : World} (hg : GMay s l b) : Does Tryz.prog 56 [.agg #[.int .i64 s, .int .i64 l, .int .i64 b]] w0 [] (fun r : Value => .tuple #[r, .int .i64 0]) (fun r => [.bytes 5 r (geoB s l b)]) (fun _ => True) := by
  refine enter (n := 19) Tryz.func56 rfl rfl rfl ?_
  intro fr E
  have M : Mem w0 (feet []) [] (fun _ => True) w0 := Mem.begin (Has.nil w0) (fun _ _ => trivial)
  refine code_region ?_
  refine snew (ob := .cells (#[.int .i64 s, .int .i64 l, .int .i64 b]) 35) (fun g => .pointer (some ⟨g, 0, none⟩)) E M rfl rfl rfl rfl rfl (run_boxN (cs := (#[.int .i64 s, .int .i64 l, .int .i64 b])) rfl rfl) fun g0 fr w M E => ?_
  refine sw E (run_assignC rfl) fun fr E => ?_
  refine sw E (run_assignC rfl) fun fr E => ?_
  refine seq_nil' ?_
  refine wp_seq ?_
  refine code_region ?_
  refine sw (v := .agg #[_, _, _]) E (run_loadAll rfl rfl T.agg35 (M.row (i := 0) rfl) rfl) fun fr E => ?_
  refine sgive E M rfl rfl rfl rfl rfl (run_call rfl rfl T.fn16) (Check_ok hg) fun fr w M E => ?_
  refine ma E fun fr E => ?_
  refine seq_nil' ?_
  refine code_region ?_
  refine mv E fun fr E => ?_
  refine sw (v := .bool _) E (rfl) fun fr E => ?_
  refine seq_nil' ?_
  refine cond_false E rfl (rfl) ?_
  refine wp_skip ?_
  refine then_normal ?_
  refine wp_seq (free_reg (B := T.tab56_4_b) (Vs := (.exact (.pointer (some ⟨_, 0, none⟩)) :: .exact (.int .i64 s) :: CameV w.heap.size (fun v => [.bytes 5 v ([] ++ be8 s)]) (fun _ => True) :: .exact (.pointer (some ⟨_, 1, none⟩)) :: .exact (.int .i64 l) :: CameV w.heap.size (fun v => [.bytes 5 v ([] ++ be8 s ++ be8 l)]) (fun _ => True) :: .exact (.pointer (some ⟨_, 2, none⟩)) :: .exact (.int .i64 b) :: CameV w.heap.size (fun v => [.bytes 5 v ([] ++ be8 s ++ be8 l ++ be8 b)]) (fun _ => True) :: CameV w.heap.size (fun v => [.bytes 5 v ([] ++ be8 s ++ be8 l ++ be8 b)]) (fun _ => True) :: .exact _ :: [])) T.tab56_4_i E T.mixed T.tab56_4 rfl (AllS.lasts ⟨trivial, trivial, LastsS.cameV, trivial, trivial, LastsS.cameV, trivial, trivial, LastsS.cameV, LastsS.cameV, trivial, trivial⟩) ⟨fv rfl rfl (fun x w hx hk => run_fieldAddr rfl rfl T.fld35_0),
      fv rfl rfl (fun x w hx hk => run_loadB rfl rfl T.one3 ((M.ext ((Ext.drew _).trans hx)).row (i := 0) rfl) rfl),
      fs_ext rfl rfl (fun x w hx hk => ⟨_, _, rfl, rfl, rfl, run_call rfl rfl T.fn72, (Int_x s (Bytes.nil _) (by simp)).extV hx.size⟩),
      fv rfl rfl (fun x w hx hk => run_fieldAddr rfl rfl T.fld35_1),
      fv rfl rfl (fun x w hx hk => run_loadB rfl rfl T.one3 ((M.ext ((Ext.drew _).trans hx)).row (i := 0) rfl) rfl),
      fs_ext rfl rfl (fun x w hx hk => ⟨_, _, rfl, rfl, rfl, run_call rfl rfl T.fn72, (Int_x l ((hk 2 rfl).1.reads 0 rfl : Bytes _ _ ([] ++ be8 s)) (by simp [be8])).extV hx.size⟩),
      fv rfl rfl (fun x w hx hk => run_fieldAddr rfl rfl T.fld35_2),
      fv rfl rfl (fun x w hx hk => run_loadB rfl rfl T.one3 ((M.ext ((Ext.drew _).trans hx)).row (i := 0) rfl) rfl),
      fs_ext rfl rfl (fun x w hx hk => ⟨_, _, rfl, rfl, rfl, run_call rfl rfl T.fn72, (Int_x b ((hk 5 rfl).1.reads 0 rfl : Bytes _ _ ([] ++ be8 s ++ be8 l)) (by simp [be8])).extV hx.size⟩),
      fs_val rfl rfl (fun x w hx hk => ⟨_, _, rfl, rfl, rfl, run_assign rfl rfl, Ext.refl _, hk 8 rfl⟩),
      fv rfl rfl (fun x w hx hk => run_assignC rfl), trivial⟩ ?_)
  intro x fr w hx hk E
  have M := M.adopts hx (hk 9 (by decide)).1 (hk 9 (by decide)).2.1
  refine then_normal ?_
  refine wp_ret ?_
  refine ret2 E rfl rfl rfl ?_
  exact ⟨_, rfl, M.fin (sub1 (i := 0) rfl) trivial⟩

set_option maxRecDepth 100000 in
theorem superWrite_f {D : DV} {N : NV} {g : Nat} {A : AD} {e s l b : Int} {w0 : World} (H : Has w0 [dkE D, nmE N]) (hD : D.is g A) (hkz : N.ks.length ≤ 1099511627776) (htz : N.ts.length ≤ 1099511627776) (hg : GMay s l b) (hs : SRight e 0 0) (hw : ¬ (A.write 0 (sectB N.ks 1 e 0 0 (geoB s l b))).1 = 0) : Does Tryz.prog 37 [.pointer (some ⟨g, 0, none⟩), .iface 31 (.pointer (some ⟨N.gn, 0, none⟩)), .int .i64 e, .agg #[.int .i64 s, .int .i64 l, .int .i64 b]] w0 [dkE D, nmE N] (fun _ : DV × NV => .tuple #[.agg (bc (List.replicate 32 0)).toArray, .int .i64 (A.write 0 (sectB N.ks 1 e 0 0 (geoB s l b))).1]) (fun x => [dkE x.1, nmE x.2]) (fun x => x.1.is g (A.write 0 (sectB N.ks 1 e 0 0 (geoB s l b))).2 ∧ x.2.gn = N.gn ∧ x.2.ks = (sealS N.ks e 0 (hdB 1 0) (geoB s l b)) ∧ x.2.ts = N.ts) := by
  refine enter (n := 42) Tryz.func37 rfl rfl rfl ?_
  intro fr E
  have M : Mem w0 (feet [dkE D, nmE N]) [dkE D, nmE N] (fun _ => True) w0 := Mem.begin H (fun _ _ => trivial)
  refine code_region ?_
  refine snew (ob := .cells (#[.int .i64 s, .int .i64 l, .int .i64 b]) 35) (fun g => .pointer (some ⟨g, 0, none⟩)) E M rfl rfl rfl rfl rfl (run_boxN (cs := (#[.int .i64 s, .int .i64 l, .int .i64 b])) rfl rfl) fun g0 fr w M E => ?_
  refine snew (ob := .cells _ 54) (fun g => .pointer (some ⟨g, 0, none⟩)) E M rfl rfl rfl rfl rfl (run_allocN rfl T.zero54) fun g1 fr w M E => ?_
  refine sw E (run_assignC rfl) fun fr E => ?_
  refine seq_nil' ?_
  refine code_region ?_
  refine sw (v := .agg #[.int .i64 s, .int .i64 l, .int .i64 b]) E (run_loadAll rfl rfl T.agg35 (M.row (i := 1) rfl) rfl) fun fr E => ?_
  refine scall E M rfl rfl rfl rfl rfl (run_call rfl rfl T.fn56) (superPut_x hg) rfl ?_
  rintro pl fr w - M E
  refine mv E fun fr E => ?_
  refine sw E (run_extract rfl rfl rfl) fun fr E => ?_
  refine sw E (run_extract rfl rfl rfl) fun fr E => ?_
  refine ma E fun fr E => ?_
  refine ma E fun fr E => ?_
  refine seq_nil' ?_
  refine wp_seq ?_
  refine code_region ?_
  refine mv E fun fr E => ?_
  refine sw (v := .bool _) E (rfl) fun fr E => ?_
  refine seq_nil' ?_
  refine cond_false E rfl (rfl) ?_
  refine wp_skip ?_
  refine then_normal ?_
  refine code_region ?_
  refine mv E fun fr E => ?_
  refine mv E fun fr E => ?_
  refine mv E fun fr E => ?_
  refine sw (v := .agg #[.int .i64 1, .int .i64 e, .int .i64 0, .int .i64 0, pl]) E (run_buildQ (us := #[.int .i64 1, .int .i64 e, .int .i64 0, .int .i64 0, pl]) rfl rfl T.ts99 T.zeroL99 (by obtain ⟨b', c', e'⟩ := Reads.slice (M.bytes 0 rfl); rw [e']; rfl)) fun fr E => ?_
  have M := M.pull 4 rfl
  refine scallI ([nmE N]) E M rfl rfl rfl rfl rfl (run_call rfl rfl T.fn57) rfl (fun H => sPut_ok (N := N) (kd := 1) (e := e) (n := 0) (at' := 0) (M.bytes 1 rfl) H (M.off (i := 0) (j := 1) rfl rfl rfl) hkz (by decide) (by decide) hs (by simp [geoB, be8])) ?_
  rintro ⟨r, N2⟩ fr w ⟨hN1, hN2, hN3⟩ M E
  refine mv E fun fr E => ?_
  refine sw E (run_extract rfl rfl rfl) fun fr E => ?_
  refine sw E (run_extract rfl rfl rfl) fun fr E => ?_
  refine ma E fun fr E => ?_
  refine ma E fun fr E => ?_
  refine seq_nil' ?_
  refine wp_seq ?_
  refine code_region ?_
  refine mv E fun fr E => ?_
  refine sw (v := .bool true) E (tst rfl (rfl)) fun fr E => ?_
  refine seq_nil' ?_
  refine cond_true E rfl (rfl) ?_
  refine code_last ?_
  refine mv E fun fr E => ?_
  refine mv E fun fr E => ?_
  have M := M.pull 5 rfl
  refine scallI ([dkE D]) E M rfl rfl rfl rfl rfl (run_call rfl rfl T.fn58) rfl (fun H => Write_a (i := 0) H hD (M.bytes 1 rfl) (M.off (i := 0) (j := 1) rfl rfl rfl)) ?_
  rintro D2 fr w hD2 M E
  refine ma E fun fr E => ?_
  refine seq_nil ?_
  refine then_normal ?_
  refine wp_seq ?_
  refine code_region ?_
  refine mv E fun fr E => ?_
  refine sw (v := .bool true) E (tst rfl (by simp [hw])) fun fr E => ?_
  refine seq_nil' ?_
  refine cond_true E rfl (rfl) ?_
  refine code_region ?_
  refine sw (v := .agg (bc (List.replicate 32 0)).toArray) E (run_buildE (us := (bc (List.replicate 32 0)).toArray) rfl T.arr54 T.size5 T.zero54) fun fr E => ?_
  refine mv E fun fr E => ?_
  refine sset (i := 4) (cs' := (bc (List.replicate 32 0)).toArray) E M rfl rfl rfl rfl rfl (run_storeAll (vs := (bc (List.replicate 32 0)).toArray) rfl rfl rfl T.size54 (rfl) (M.row (i := 4) rfl) rfl (fun v hv => bc_one v hv)) rfl fun fr w M E => ?_
  refine ma E fun fr E => ?_
  refine seq_nil' ?_
  refine wp_ret ?_
  refine then_ret ?_
  refine retC2 E rfl rfl rfl T.agg54 (M.row (i := 4) rfl) (rfl) ?_
  have M := M.pull 2 rfl
  have M := M.pull 1 rfl
  exact ⟨(D2, N2), rfl, Mem.fin (L := [dkE D2, nmE N2] ++ _) M (List.sublist_append_left _ _) ⟨hD2, hN1, hN2, hN3⟩⟩

set_option maxRecDepth 100000 in
theorem superWrite_ok {D : DV} {N : NV} {g : Nat} {A : AD} {e s l b : Int} {w0 : World} (H : Has w0 [dkE D, nmE N]) (hD : D.is g A) (hkz : N.ks.length ≤ 1099511627776) (htz : N.ts.length ≤ 1099511627776) (hg : GMay s l b) (hs : SRight e 0 0) (hw : (A.write 0 (sectB N.ks 1 e 0 0 (geoB s l b))).1 = 0) : Does Tryz.prog 37 [.pointer (some ⟨g, 0, none⟩), .iface 31 (.pointer (some ⟨N.gn, 0, none⟩)), .int .i64 e, .agg #[.int .i64 s, .int .i64 l, .int .i64 b]] w0 [dkE D, nmE N] (fun _ : DV × NV => .tuple #[.agg (bc (sumOf (textNo N.ts (sectB N.ks 1 e 0 0 (geoB s l b))))).toArray, .int .i64 0]) (fun x => [dkE x.1, nmE x.2]) (fun x => x.1.is g (A.write 0 (sectB N.ks 1 e 0 0 (geoB s l b))).2 ∧ x.2.gn = N.gn ∧ x.2.ks = (sealS N.ks e 0 (hdB 1 0) (geoB s l b)) ∧ x.2.ts = (textKs N.ts (sectB N.ks 1 e 0 0 (geoB s l b)))) := by
  refine enter (n := 42) Tryz.func37 rfl rfl rfl ?_
  intro fr E
  have M : Mem w0 (feet [dkE D, nmE N]) [dkE D, nmE N] (fun _ => True) w0 := Mem.begin H (fun _ _ => trivial)
  refine code_region ?_
  refine snew (ob := .cells (#[.int .i64 s, .int .i64 l, .int .i64 b]) 35) (fun g => .pointer (some ⟨g, 0, none⟩)) E M rfl rfl rfl rfl rfl (run_boxN (cs := (#[.int .i64 s, .int .i64 l, .int .i64 b])) rfl rfl) fun g0 fr w M E => ?_
  refine snew (ob := .cells _ 54) (fun g => .pointer (some ⟨g, 0, none⟩)) E M rfl rfl rfl rfl rfl (run_allocN rfl T.zero54) fun g1 fr w M E => ?_
  refine sw E (run_assignC rfl) fun fr E => ?_
  refine seq_nil' ?_
  refine code_region ?_
  refine sw (v := .agg #[.int .i64 s, .int .i64 l, .int .i64 b]) E (run_loadAll rfl rfl T.agg35 (M.row (i := 1) rfl) rfl) fun fr E => ?_
  refine scall E M rfl rfl rfl rfl rfl (run_call rfl rfl T.fn56) (superPut_x hg) rfl ?_
  rintro pl fr w - M E
  refine mv E fun fr E => ?_
  refine sw E (run_extract rfl rfl rfl) fun fr E => ?_
  refine sw E (run_extract rfl rfl rfl) fun fr E => ?_
  refine ma E fun fr E => ?_
  refine ma E fun fr E => ?_
  refine seq_nil' ?_
  refine wp_seq ?_
  refine code_region ?_
  refine mv E fun fr E => ?_
  refine sw (v := .bool _) E (rfl) fun fr E => ?_
  refine seq_nil' ?_
  refine cond_false E rfl (rfl) ?_
  refine wp_skip ?_
  refine then_normal ?_
  refine code_region ?_
  refine mv E fun fr E => ?_
  refine mv E fun fr E => ?_
  refine mv E fun fr E => ?_
  refine sw (v := .agg #[.int .i64 1, .int .i64 e, .int .i64 0, .int .i64 0, pl]) E (run_buildQ (us := #[.int .i64 1, .int .i64 e, .int .i64 0, .int .i64 0, pl]) rfl rfl T.ts99 T.zeroL99 (by obtain ⟨b', c', e'⟩ := Reads.slice (M.bytes 0 rfl); rw [e']; rfl)) fun fr E => ?_
  have M := M.pull 4 rfl
  refine scallI ([nmE N]) E M rfl rfl rfl rfl rfl (run_call rfl rfl T.fn57) rfl (fun H => sPut_ok (N := N) (kd := 1) (e := e) (n := 0) (at' := 0) (M.bytes 1 rfl) H (M.off (i := 0) (j := 1) rfl rfl rfl) hkz (by decide) (by decide) hs (by simp [geoB, be8])) ?_
  rintro ⟨r, N2⟩ fr w ⟨hN1, hN2, hN3⟩ M E
  refine mv E fun fr E => ?_
  refine sw E (run_extract rfl rfl rfl) fun fr E => ?_
  refine sw E (run_extract rfl rfl rfl) fun fr E => ?_
  refine ma E fun fr E => ?_
  refine ma E fun fr E => ?_
  refine seq_nil' ?_
  refine wp_seq ?_
  refine code_region ?_
  refine mv E fun fr E => ?_
  refine sw (v := .bool true) E (tst rfl (rfl)) fun fr E => ?_
  refine seq_nil' ?_
  refine cond_true E rfl (rfl) ?_
  refine code_last ?_
  refine mv E fun fr E => ?_
  refine mv E fun fr E => ?_
  have M := M.pull 5 rfl
  refine scallI ([dkE D]) E M rfl rfl rfl rfl rfl (run_call rfl rfl T.fn58) rfl (fun H => Write_a (i := 0) H hD (M.bytes 1 rfl) (M.off (i := 0) (j := 1) rfl rfl rfl)) ?_
  rintro D2 fr w hD2 M E
  refine ma E fun fr E => ?_
  refine seq_nil ?_
  refine then_normal ?_
  refine wp_seq ?_
  refine code_region ?_
  refine mv E fun fr E => ?_
  refine sw (v := .bool false) E (tst rfl (by simp [hw])) fun fr E => ?_
  refine seq_nil' ?_
  refine cond_false E rfl (rfl) ?_
  refine wp_skip ?_
  refine then_normal ?_
  refine code_region ?_
  refine mv E fun fr E => ?_
  refine mv E fun fr E => ?_
  have M := M.pull 2 rfl
  refine scallI ([nmE N2]) E M rfl rfl rfl rfl rfl (run_invoke rfl rfl T.meth31_Sum T.fn133) rfl (fun H => by rw [← hN1]; exact Sum_p (N := N2) H (M.bytes 2 rfl) (M.off (i := 0) (j := 2) rfl rfl rfl) (by rw [hN3]; exact htz)) ?_
  rintro N4 fr w ⟨hN4, hN5, hN6⟩ M E
  refine sset (i := 4) (cs' := (bc (sumOf (textNo N2.ts (sectB N.ks 1 e 0 0 (geoB s l b))))).toArray) E M rfl rfl rfl rfl rfl (run_storeAll (vs := (bc (sumOf (textNo N2.ts (sectB N.ks 1 e 0 0 (geoB s l b))))).toArray) rfl rfl rfl T.size54 (rfl) (M.row (i := 4) rfl) rfl (fun v hv => bc_one v hv)) rfl fun fr w M E => ?_
  refine sw E (run_assignC rfl) fun fr E => ?_
  refine seq_nil' ?_
  refine wp_ret ?_
  refine retC2 E rfl rfl rfl T.agg54 (M.row (i := 4) rfl) (rfl) ?_
  have M := M.pull 1 rfl
  rw [← hN3]
  exact ⟨(D2, N4), rfl, Mem.fin (L := [dkE D2, nmE N4] ++ _) M (List.sublist_append_left _ _) ⟨hD2, hN4.trans hN1, hN5.trans hN2, hN6⟩⟩

theorem superWrite_y {D : DV} {N : NV} {g : Nat} {A : AD} {e s l b : Int} {w0 : World} (H : Has w0 [dkE D, nmE N]) (hD : D.is g A) (hkz : N.ks.length ≤ 1099511627776) (htz : N.ts.length ≤ 1099511627776) (hg : GMay s l b) (hs : SRight e 0 0) {a : Nat} (ha : N.gn = a) : Does Tryz.prog 37 [.pointer (some ⟨g, 0, none⟩), .iface 31 (.pointer (some ⟨a, 0, none⟩)), .int .i64 e, .agg #[.int .i64 s, .int .i64 l, .int .i64 b]] w0 [dkE D, nmE N] (fun _ : DV × NV => .tuple #[.agg (bc (superW A N.ks N.ts e s l b).sum).toArray, .int .i64 (superW A N.ks N.ts e s l b).err]) (fun x => [dkE x.1, nmE x.2]) (fun x => x.1.is g (superW A N.ks N.ts e s l b).A ∧ x.2.gn = a ∧ x.2.ks = (superW A N.ks N.ts e s l b).ks ∧ x.2.ts = (superW A N.ks N.ts e s l b).ts) := by
  subst ha
  by_cases hw : (A.write 0 (sectB N.ks 1 e 0 0 (geoB s l b))).1 = 0
  · have e1 : superW A N.ks N.ts e s l b = ⟨0, (A.write 0 (sectB N.ks 1 e 0 0 (geoB s l b))).2, (sealS N.ks e 0 (hdB 1 0) (geoB s l b)), textKs N.ts (sectB N.ks 1 e 0 0 (geoB s l b)), sumOf (textNo N.ts (sectB N.ks 1 e 0 0 (geoB s l b)))⟩ := by unfold superW; rw [if_pos hw]
    rw [e1]
    exact superWrite_ok H hD hkz htz hg hs hw
  · have e1 : superW A N.ks N.ts e s l b = ⟨(A.write 0 (sectB N.ks 1 e 0 0 (geoB s l b))).1, (A.write 0 (sectB N.ks 1 e 0 0 (geoB s l b))).2, (sealS N.ks e 0 (hdB 1 0) (geoB s l b)), N.ts, (List.replicate 32 0)⟩ := by unfold superW; rw [if_neg hw]
    rw [e1]
    exact superWrite_f H hD hkz htz hg hs hw
end Go.Proofs.YtnebjbgcibjohaaGreat.K
end
section
namespace Go.Proofs.YtnebjbgcibjohaaGreat.K
open Go.RowKit Go.Rill Go.Proofs
set_option linter.unusedVariables false
set_option linter.unusedSimpArgs false
/-- The epoch of a counter's value. -/
def epochZ (v : Int) : Int := v / 1048576 + 1 + v % 1048576
/-- What forbids a volume. -/
def refZ (n : Nat) (v s l b : Int) : Int := if ¬ GMay s l b then 15 else if (n : Int) < 3 + s * l then 7 else if v % 1048576 = 1048575 ∨ 1099511627776 ≤ epochZ (v + 1) then 17 else 0
set_option maxRecDepth 100000 in
theorem Len_d {gd gm : Nat} {lv rv : Value} {S : Dsk} {w0 : World} (H : Has w0 (dsk gd gm lv rv S)) (hS : S.Ok)  : Gives Tryz.prog 55 [.pointer (some ⟨gd, 0, none⟩)] w0 (.int .i64 (S.n : Int)) := by
  refine enter (n := 8) Tryz.func55 rfl rfl rfl ?_
  intro fr E
  have M : Mem w0 (feet []) [] (fun w' => Has w' (dsk gd gm lv rv S)) w0 := Mem.begin (Has.nil w0) (fun w' h => H.held h fun g hg c => feet_nil c)
  refine code_region ?_
  refine sw E (run_assignC rfl) fun fr E => ?_
  refine seq_nil' ?_
  refine code_region ?_
  refine mv E fun fr E => ?_
  refine sw E (run_nilCheck rfl rfl) fun fr E => ?_
  refine sw (v := .pointer (some ⟨_, 0, none⟩)) E (run_fieldAddr rfl rfl T.fld71_0) fun fr E => ?_
  refine sw E (run_loadB rfl rfl T.one68 (M.fact.ent 0 rfl) rfl) fun fr E => ?_
  refine sw (v := .int .i64 _) E (run_lenR rfl rfl rfl rfl T.slice68 (ownsRow_reads (M.fact.ent 1 rfl))) fun fr E => ?_
  refine ma E fun fr E => ?_
  refine seq_nil' ?_
  refine wp_ret ?_
  refine ret1 E rfl rfl ?_
  exact given M

theorem Len_g {D : DV} {g : Nat} {A : AD} {w0 : World} (H : Has w0 [dkE D]) (hD : D.is g A) : Gives Tryz.prog 55 [.pointer (some ⟨g, 0, none⟩)] w0 (.int .i64 (A.n : Int)) := by
  obtain ⟨gd, gm, lv, rv, S⟩ := D
  obtain ⟨hg, hA⟩ := hD
  have hg : gd = g := hg
  have hA : S.Abs A := hA
  subst hg
  rw [← hA.n]
  exact Len_d H.unpack1 hA.ok

set_option maxRecDepth 100000 in
theorem Writes_d {gd gm : Nat} {lv rv : Value} {S : Dsk} {w0 : World} (H : Has w0 (dsk gd gm lv rv S)) (hS : S.Ok)  : Gives Tryz.prog 12 [.pointer (some ⟨gd, 0, none⟩)] w0 (.int .i64 S.writes) := by
  refine enter (n := 7) Tryz.func12 rfl rfl rfl ?_
  intro fr E
  have M : Mem w0 (feet []) [] (fun w' => Has w' (dsk gd gm lv rv S)) w0 := Mem.begin (Has.nil w0) (fun w' h => H.held h fun g hg c => feet_nil c)
  refine code_region ?_
  refine sw E (run_assignC rfl) fun fr E => ?_
  refine seq_nil' ?_
  refine code_region ?_
  refine mv E fun fr E => ?_
  refine sw E (run_nilCheck rfl rfl) fun fr E => ?_
  refine sw (v := .pointer (some ⟨_, 5, none⟩)) E (run_fieldAddr rfl rfl T.fld71_5) fun fr E => ?_
  refine sw (v := .int .i64 _) E (run_loadB rfl rfl T.one3 (M.fact.ent 0 rfl) rfl) fun fr E => ?_
  refine ma E fun fr E => ?_
  refine seq_nil' ?_
  refine wp_ret ?_
  refine ret1 E rfl rfl ?_
  exact given M

theorem Writes_g {D : DV} {g : Nat} {A : AD} {w0 : World} (H : Has w0 [dkE D]) (hD : D.is g A) : Gives Tryz.prog 12 [.pointer (some ⟨g, 0, none⟩)] w0 (.int .i64 A.writes) := by
  obtain ⟨gd, gm, lv, rv, S⟩ := D
  obtain ⟨hg, hA⟩ := hD
  have hg : gd = g := hg
  have hA : S.Abs A := hA
  subst hg
  rw [← hA.writes]
  exact Writes_d H.unpack1 hA.ok

set_option maxRecDepth 100000 in
theorem epoch_x {v : Int} {w0 : World} (hv : 0 ≤ v) (hv2 : v ≤ 2305843009213693952) : Gives Tryz.prog 34 [.int .i64 v] w0 (.int .i64 (epochZ v)) := by
  refine enter (n := 9) Tryz.func34 rfl rfl rfl ?_
  intro fr E
  have M : Mem w0 (feet []) [] (fun _ => True) w0 := Mem.begin (Has.nil w0) (fun _ _ => trivial)
  refine code_region ?_
  refine sw E (run_assignC rfl) fun fr E => ?_
  refine seq_nil' ?_
  refine code_region ?_
  refine mv E fun fr E => ?_
  refine sgive E M rfl rfl rfl rfl rfl (run_call rfl rfl T.fn14) (Level_x hv) fun fr w M E => ?_
  refine sw (v := .int _ (v / 1048576 + 1)) E (num rfl (i64_id (by omega) (by omega))) fun fr E => ?_
  refine mv E fun fr E => ?_
  refine sgive E M rfl rfl rfl rfl rfl (run_call rfl rfl T.fn15) (Tries_x hv (by omega)) fun fr w M E => ?_
  refine sw (v := .int _ (v / 1048576 + 1 + v % 1048576)) E (num rfl (i64_id (by omega) (by omega))) fun fr E => ?_
  refine ma E fun fr E => ?_
  refine seq_nil' ?_
  refine wp_ret ?_
  refine ret1 E rfl rfl ?_
  exact given M

set_option maxRecDepth 100000 in
theorem refused_geo {D : DV} {g gk : Nat} {A : AD} {v s l b : Int} {w0 : World} (H : Has w0 [dkE D]) (hD : D.is g A) (hc : w0.heap[gk]? = some (.cells #[.pointer (some ⟨g, 0, none⟩), .int .i64 (v)] 77)) (hv : 0 ≤ v) (hv2 : v ≤ 1152921504606846976) (hg : ¬ GMay s l b) : Gives Tryz.prog 33 [.pointer (some ⟨g, 0, none⟩), .pointer (some ⟨gk, 0, none⟩), .agg #[.int .i64 s, .int .i64 l, .int .i64 b]] w0 (.int .i64 15) := by
  refine enter (n := 30) Tryz.func33 rfl rfl rfl ?_
  intro fr E
  have M : Mem w0 (feet []) [] (fun w' => Has w' [dkE D] ∧ w'.heap[gk]? = some (.cells #[.pointer (some ⟨g, 0, none⟩), .int .i64 (v)] 77)) w0 := Mem.begin (Has.nil w0) (fun w' h => ⟨H.held h fun g hg c => feet_nil c, held_at hc h⟩)
  refine code_region ?_
  refine snew (ob := .cells (#[.int .i64 s, .int .i64 l, .int .i64 b]) 35) (fun g => .pointer (some ⟨g, 0, none⟩)) E M rfl rfl rfl rfl rfl (run_boxN (cs := (#[.int .i64 s, .int .i64 l, .int .i64 b])) rfl rfl) fun g0 fr w M E => ?_
  refine sw E (run_assignC rfl) fun fr E => ?_
  refine seq_nil' ?_
  refine code_region ?_
  refine mv E fun fr E => ?_
  refine sgive E M rfl rfl rfl rfl rfl (run_call rfl rfl T.fn11) (cValue_x M.fact.2) fun fr w M E => ?_
  refine ma E fun fr E => ?_
  refine seq_nil' ?_
  refine wp_seq ?_
  refine wp_block ?_
  refine code_region ?_
  refine sw (v := .agg #[.int .i64 s, .int .i64 l, .int .i64 b]) E (run_loadAll rfl rfl T.agg35 (M.row (i := 0) rfl) rfl) fun fr E => ?_
  refine sgive E M rfl rfl rfl rfl rfl (run_call rfl rfl T.fn16) (Check_no hg) fun fr w M E => ?_
  refine sw (v := .bool true) E (tst rfl (rfl)) fun fr E => ?_
  refine ma E fun fr E => ?_
  refine seq_nil' ?_
  refine cond_true E rfl (rfl) ?_
  refine code_region ?_
  refine sw E (run_assignC rfl) fun fr E => ?_
  refine seq_nil' ?_
  refine wp_ret ?_
  refine block_ret ?_
  refine then_ret ?_
  refine ret1 E rfl rfl ?_
  exact given M

set_option maxRecDepth 100000 in
theorem refused_low {D : DV} {g gk : Nat} {A : AD} {v s l b : Int} {w0 : World} (H : Has w0 [dkE D]) (hD : D.is g A) (hc : w0.heap[gk]? = some (.cells #[.pointer (some ⟨g, 0, none⟩), .int .i64 (v)] 77)) (hv : 0 ≤ v) (hv2 : v ≤ 1152921504606846976) (hg : GMay s l b) (hn : (A.n : Int) < 3 + s * l) : Gives Tryz.prog 33 [.pointer (some ⟨g, 0, none⟩), .pointer (some ⟨gk, 0, none⟩), .agg #[.int .i64 s, .int .i64 l, .int .i64 b]] w0 (.int .i64 7) := by
  refine enter (n := 30) Tryz.func33 rfl rfl rfl ?_
  intro fr E
  have M : Mem w0 (feet []) [] (fun w' => Has w' [dkE D] ∧ w'.heap[gk]? = some (.cells #[.pointer (some ⟨g, 0, none⟩), .int .i64 (v)] 77)) w0 := Mem.begin (Has.nil w0) (fun w' h => ⟨H.held h fun g hg c => feet_nil c, held_at hc h⟩)
  refine code_region ?_
  refine snew (ob := .cells (#[.int .i64 s, .int .i64 l, .int .i64 b]) 35) (fun g => .pointer (some ⟨g, 0, none⟩)) E M rfl rfl rfl rfl rfl (run_boxN (cs := (#[.int .i64 s, .int .i64 l, .int .i64 b])) rfl rfl) fun g0 fr w M E => ?_
  refine sw E (run_assignC rfl) fun fr E => ?_
  refine seq_nil' ?_
  refine code_region ?_
  refine mv E fun fr E => ?_
  refine sgive E M rfl rfl rfl rfl rfl (run_call rfl rfl T.fn11) (cValue_x M.fact.2) fun fr w M E => ?_
  refine ma E fun fr E => ?_
  refine seq_nil' ?_
  refine wp_seq ?_
  refine wp_block ?_
  refine code_region ?_
  refine sw (v := .agg #[.int .i64 s, .int .i64 l, .int .i64 b]) E (run_loadAll rfl rfl T.agg35 (M.row (i := 0) rfl) rfl) fun fr E => ?_
  refine sgive E M rfl rfl rfl rfl rfl (run_call rfl rfl T.fn16) (Check_ok hg) fun fr w M E => ?_
  refine sw (v := .bool false) E (tst rfl (rfl)) fun fr E => ?_
  refine ma E fun fr E => ?_
  refine seq_nil' ?_
  refine cond_false E rfl (rfl) ?_
  refine wp_seq (free_reg (B := T.tab33_4_b) (Vs := (.exact _ :: .exact (.int .i64 (A.n : Int)) :: .exact (.agg #[.int .i64 s, .int .i64 l, .int .i64 b]) :: .exact (.int .i64 (3 + s * l)) :: .exact (.bool true) :: .exact _ :: [])) T.tab33_4_i E T.mixed T.tab33_4 rfl (AllS.lasts ⟨trivial, trivial, trivial, trivial, trivial, trivial, trivial⟩) ⟨fv rfl rfl (fun x w hx hk => run_move rfl rfl),
      fs_ext rfl rfl (fun x w hx hk => ⟨_, _, rfl, rfl, rfl, run_call rfl rfl T.fn55, (Len_g (M.ext ((Ext.drew _).trans hx)).fact.1 hD).ext⟩),
      fv rfl rfl (fun x w hx hk => run_loadAll rfl rfl T.agg35 ((M.ext ((Ext.drew _).trans hx)).row (i := 0) rfl) rfl),
      fs_ext rfl rfl (fun x w hx hk => ⟨_, _, rfl, rfl, rfl, run_call rfl rfl T.fn17, (Sectors_ok hg).ext⟩),
      fv rfl rfl (fun x w hx hk => tst rfl (decide_eq_true hn)),
      fv rfl rfl (fun x w hx hk => run_assign rfl rfl), trivial⟩ ?_)
  intro x fr w hx hk E
  have M := M.ext hx
  refine then_normal ?_
  refine cond_true E rfl (rfl) ?_
  refine code_region ?_
  refine sw E (run_assignC rfl) fun fr E => ?_
  refine seq_nil' ?_
  refine wp_ret ?_
  refine block_ret ?_
  refine then_ret ?_
  refine ret1 E rfl rfl ?_
  exact given M

set_option maxRecDepth 100000 in
theorem refused_m1 {D : DV} {g gk : Nat} {A : AD} {v s l b : Int} {w0 : World} (H : Has w0 [dkE D]) (hD : D.is g A) (hc : w0.heap[gk]? = some (.cells #[.pointer (some ⟨g, 0, none⟩), .int .i64 (v)] 77)) (hv : 0 ≤ v) (hv2 : v ≤ 1152921504606846976) (hg : GMay s l b) (hn : ¬ (A.n : Int) < 3 + s * l) (ht : v % 1048576 = 1048575) : Gives Tryz.prog 33 [.pointer (some ⟨g, 0, none⟩), .pointer (some ⟨gk, 0, none⟩), .agg #[.int .i64 s, .int .i64 l, .int .i64 b]] w0 (.int .i64 17) := by
  refine enter (n := 30) Tryz.func33 rfl rfl rfl ?_
  intro fr E
  have M : Mem w0 (feet []) [] (fun w' => Has w' [dkE D] ∧ w'.heap[gk]? = some (.cells #[.pointer (some ⟨g, 0, none⟩), .int .i64 (v)] 77)) w0 := Mem.begin (Has.nil w0) (fun w' h => ⟨H.held h fun g hg c => feet_nil c, held_at hc h⟩)
  refine code_region ?_
  refine snew (ob := .cells (#[.int .i64 s, .int .i64 l, .int .i64 b]) 35) (fun g => .pointer (some ⟨g, 0, none⟩)) E M rfl rfl rfl rfl rfl (run_boxN (cs := (#[.int .i64 s, .int .i64 l, .int .i64 b])) rfl rfl) fun g0 fr w M E => ?_
  refine sw E (run_assignC rfl) fun fr E => ?_
  refine seq_nil' ?_
  refine code_region ?_
  refine mv E fun fr E => ?_
  refine sgive E M rfl rfl rfl rfl rfl (run_call rfl rfl T.fn11) (cValue_x M.fact.2) fun fr w M E => ?_
  refine ma E fun fr E => ?_
  refine seq_nil' ?_
  refine wp_seq ?_
  refine wp_block ?_
  refine code_region ?_
  refine sw (v := .agg #[.int .i64 s, .int .i64 l, .int .i64 b]) E (run_loadAll rfl rfl T.agg35 (M.row (i := 0) rfl) rfl) fun fr E => ?_
  refine sgive E M rfl rfl rfl rfl rfl (run_call rfl rfl T.fn16) (Check_ok hg) fun fr w M E => ?_
  refine sw (v := .bool false) E (tst rfl (rfl)) fun fr E => ?_
  refine ma E fun fr E => ?_
  refine seq_nil' ?_
  refine cond_false E rfl (rfl) ?_
  refine wp_seq (free_reg (B := T.tab33_4_b) (Vs := (.exact _ :: .exact (.int .i64 (A.n : Int)) :: .exact (.agg #[.int .i64 s, .int .i64 l, .int .i64 b]) :: .exact (.int .i64 (3 + s * l)) :: .exact (.bool false) :: .exact _ :: [])) T.tab33_4_i E T.mixed T.tab33_4 rfl (AllS.lasts ⟨trivial, trivial, trivial, trivial, trivial, trivial, trivial⟩) ⟨fv rfl rfl (fun x w hx hk => run_move rfl rfl),
      fs_ext rfl rfl (fun x w hx hk => ⟨_, _, rfl, rfl, rfl, run_call rfl rfl T.fn55, (Len_g (M.ext ((Ext.drew _).trans hx)).fact.1 hD).ext⟩),
      fv rfl rfl (fun x w hx hk => run_loadAll rfl rfl T.agg35 ((M.ext ((Ext.drew _).trans hx)).row (i := 0) rfl) rfl),
      fs_ext rfl rfl (fun x w hx hk => ⟨_, _, rfl, rfl, rfl, run_call rfl rfl T.fn17, (Sectors_ok hg).ext⟩),
      fv rfl rfl (fun x w hx hk => tst rfl (decide_eq_false hn)),
      fv rfl rfl (fun x w hx hk => run_assign rfl rfl), trivial⟩ ?_)
  intro x fr w hx hk E
  have M := M.ext hx
  refine then_normal ?_
  refine cond_false E rfl (rfl) ?_
  refine code_region ?_
  refine mv E fun fr E => ?_
  refine sgive E M rfl rfl rfl rfl rfl (run_call rfl rfl T.fn15) (Tries_x hv (by omega)) fun fr w M E => ?_
  refine sw (v := .bool true) E (tst rfl (decide_eq_true ht)) fun fr E => ?_
  refine mv E fun fr E => ?_
  refine sno E rfl rfl rfl rfl fun fr E => ?_
  refine sno E rfl rfl rfl rfl fun fr E => ?_
  refine sno E rfl rfl rfl rfl fun fr E => ?_
  refine sno E rfl rfl rfl rfl fun fr E => ?_
  refine sw (v := .bool _) E (rfl) fun fr E => ?_
  refine ma E fun fr E => ?_
  refine seq_nil' ?_
  refine cond_true E rfl (rfl) ?_
  refine code_region ?_
  refine sw E (run_assignC rfl) fun fr E => ?_
  refine seq_nil' ?_
  refine wp_ret ?_
  refine block_ret ?_
  refine then_ret ?_
  refine ret1 E rfl rfl ?_
  exact given M

set_option maxRecDepth 100000 in
theorem refused_m2 {D : DV} {g gk : Nat} {A : AD} {v s l b : Int} {w0 : World} (H : Has w0 [dkE D]) (hD : D.is g A) (hc : w0.heap[gk]? = some (.cells #[.pointer (some ⟨g, 0, none⟩), .int .i64 (v)] 77)) (hv : 0 ≤ v) (hv2 : v ≤ 1152921504606846976) (hg : GMay s l b) (hn : ¬ (A.n : Int) < 3 + s * l) (ht : ¬ v % 1048576 = 1048575) (he : 1099511627776 ≤ epochZ (v + 1)) : Gives Tryz.prog 33 [.pointer (some ⟨g, 0, none⟩), .pointer (some ⟨gk, 0, none⟩), .agg #[.int .i64 s, .int .i64 l, .int .i64 b]] w0 (.int .i64 17) := by
  refine enter (n := 30) Tryz.func33 rfl rfl rfl ?_
  intro fr E
  have M : Mem w0 (feet []) [] (fun w' => Has w' [dkE D] ∧ w'.heap[gk]? = some (.cells #[.pointer (some ⟨g, 0, none⟩), .int .i64 (v)] 77)) w0 := Mem.begin (Has.nil w0) (fun w' h => ⟨H.held h fun g hg c => feet_nil c, held_at hc h⟩)
  refine code_region ?_
  refine snew (ob := .cells (#[.int .i64 s, .int .i64 l, .int .i64 b]) 35) (fun g => .pointer (some ⟨g, 0, none⟩)) E M rfl rfl rfl rfl rfl (run_boxN (cs := (#[.int .i64 s, .int .i64 l, .int .i64 b])) rfl rfl) fun g0 fr w M E => ?_
  refine sw E (run_assignC rfl) fun fr E => ?_
  refine seq_nil' ?_
  refine code_region ?_
  refine mv E fun fr E => ?_
  refine sgive E M rfl rfl rfl rfl rfl (run_call rfl rfl T.fn11) (cValue_x M.fact.2) fun fr w M E => ?_
  refine ma E fun fr E => ?_
  refine seq_nil' ?_
  refine wp_seq ?_
  refine wp_block ?_
  refine code_region ?_
  refine sw (v := .agg #[.int .i64 s, .int .i64 l, .int .i64 b]) E (run_loadAll rfl rfl T.agg35 (M.row (i := 0) rfl) rfl) fun fr E => ?_
  refine sgive E M rfl rfl rfl rfl rfl (run_call rfl rfl T.fn16) (Check_ok hg) fun fr w M E => ?_
  refine sw (v := .bool false) E (tst rfl (rfl)) fun fr E => ?_
  refine ma E fun fr E => ?_
  refine seq_nil' ?_
  refine cond_false E rfl (rfl) ?_
  refine wp_seq (free_reg (B := T.tab33_4_b) (Vs := (.exact _ :: .exact (.int .i64 (A.n : Int)) :: .exact (.agg #[.int .i64 s, .int .i64 l, .int .i64 b]) :: .exact (.int .i64 (3 + s * l)) :: .exact (.bool false) :: .exact _ :: [])) T.tab33_4_i E T.mixed T.tab33_4 rfl (AllS.lasts ⟨trivial, trivial, trivial, trivial, trivial, trivial, trivial⟩) ⟨fv rfl rfl (fun x w hx hk => run_move rfl rfl),
      fs_ext rfl rfl (fun x w hx hk => ⟨_, _, rfl, rfl, rfl, run_call rfl rfl T.fn55, (Len_g (M.ext ((Ext.drew _).trans hx)).fact.1 hD).ext⟩),
      fv rfl rfl (fun x w hx hk => run_loadAll rfl rfl T.agg35 ((M.ext ((Ext.drew _).trans hx)).row (i := 0) rfl) rfl),
      fs_ext rfl rfl (fun x w hx hk => ⟨_, _, rfl, rfl, rfl, run_call rfl rfl T.fn17, (Sectors_ok hg).ext⟩),
      fv rfl rfl (fun x w hx hk => tst rfl (decide_eq_false hn)),
      fv rfl rfl (fun x w hx hk => run_assign rfl rfl), trivial⟩ ?_)
  intro x fr w hx hk E
  have M := M.ext hx
  refine then_normal ?_
  refine cond_false E rfl (rfl) ?_
  refine code_region ?_
  refine mv E fun fr E => ?_
  refine sgive E M rfl rfl rfl rfl rfl (run_call rfl rfl T.fn15) (Tries_x hv (by omega)) fun fr w M E => ?_
  refine sw (v := .bool false) E (tst rfl (decide_eq_false ht)) fun fr E => ?_
  refine mv E fun fr E => ?_
  refine mv E fun fr E => ?_
  refine sw (v := .int _ (v + 1)) E (num rfl (i64_id (by omega) (by omega))) fun fr E => ?_
  refine sgive E M rfl rfl rfl rfl rfl (run_call rfl rfl T.fn34) (epoch_x (v := v + 1) (by omega) (by omega)) fun fr w M E => ?_
  refine sw (v := .bool true) E (tst rfl (decide_eq_true he)) fun fr E => ?_
  refine sw (v := .bool _) E (rfl) fun fr E => ?_
  refine ma E fun fr E => ?_
  refine seq_nil' ?_
  refine cond_true E rfl (rfl) ?_
  refine code_region ?_
  refine sw E (run_assignC rfl) fun fr E => ?_
  refine seq_nil' ?_
  refine wp_ret ?_
  refine block_ret ?_
  refine then_ret ?_
  refine ret1 E rfl rfl ?_
  exact given M

set_option maxRecDepth 100000 in
theorem refused_ok {D : DV} {g gk : Nat} {A : AD} {v s l b : Int} {w0 : World} (H : Has w0 [dkE D]) (hD : D.is g A) (hc : w0.heap[gk]? = some (.cells #[.pointer (some ⟨g, 0, none⟩), .int .i64 (v)] 77)) (hv : 0 ≤ v) (hv2 : v ≤ 1152921504606846976) (hg : GMay s l b) (hn : ¬ (A.n : Int) < 3 + s * l) (ht : ¬ v % 1048576 = 1048575) (he : ¬ 1099511627776 ≤ epochZ (v + 1)) : Gives Tryz.prog 33 [.pointer (some ⟨g, 0, none⟩), .pointer (some ⟨gk, 0, none⟩), .agg #[.int .i64 s, .int .i64 l, .int .i64 b]] w0 (.int .i64 0) := by
  refine enter (n := 30) Tryz.func33 rfl rfl rfl ?_
  intro fr E
  have M : Mem w0 (feet []) [] (fun w' => Has w' [dkE D] ∧ w'.heap[gk]? = some (.cells #[.pointer (some ⟨g, 0, none⟩), .int .i64 (v)] 77)) w0 := Mem.begin (Has.nil w0) (fun w' h => ⟨H.held h fun g hg c => feet_nil c, held_at hc h⟩)
  refine code_region ?_
  refine snew (ob := .cells (#[.int .i64 s, .int .i64 l, .int .i64 b]) 35) (fun g => .pointer (some ⟨g, 0, none⟩)) E M rfl rfl rfl rfl rfl (run_boxN (cs := (#[.int .i64 s, .int .i64 l, .int .i64 b])) rfl rfl) fun g0 fr w M E => ?_
  refine sw E (run_assignC rfl) fun fr E => ?_
  refine seq_nil' ?_
  refine code_region ?_
  refine mv E fun fr E => ?_
  refine sgive E M rfl rfl rfl rfl rfl (run_call rfl rfl T.fn11) (cValue_x M.fact.2) fun fr w M E => ?_
  refine ma E fun fr E => ?_
  refine seq_nil' ?_
  refine wp_seq ?_
  refine wp_block ?_
  refine code_region ?_
  refine sw (v := .agg #[.int .i64 s, .int .i64 l, .int .i64 b]) E (run_loadAll rfl rfl T.agg35 (M.row (i := 0) rfl) rfl) fun fr E => ?_
  refine sgive E M rfl rfl rfl rfl rfl (run_call rfl rfl T.fn16) (Check_ok hg) fun fr w M E => ?_
  refine sw (v := .bool false) E (tst rfl (rfl)) fun fr E => ?_
  refine ma E fun fr E => ?_
  refine seq_nil' ?_
  refine cond_false E rfl (rfl) ?_
  refine wp_seq (free_reg (B := T.tab33_4_b) (Vs := (.exact _ :: .exact (.int .i64 (A.n : Int)) :: .exact (.agg #[.int .i64 s, .int .i64 l, .int .i64 b]) :: .exact (.int .i64 (3 + s * l)) :: .exact (.bool false) :: .exact _ :: [])) T.tab33_4_i E T.mixed T.tab33_4 rfl (AllS.lasts ⟨trivial, trivial, trivial, trivial, trivial, trivial, trivial⟩) ⟨fv rfl rfl (fun x w hx hk => run_move rfl rfl),
      fs_ext rfl rfl (fun x w hx hk => ⟨_, _, rfl, rfl, rfl, run_call rfl rfl T.fn55, (Len_g (M.ext ((Ext.drew _).trans hx)).fact.1 hD).ext⟩),
      fv rfl rfl (fun x w hx hk => run_loadAll rfl rfl T.agg35 ((M.ext ((Ext.drew _).trans hx)).row (i := 0) rfl) rfl),
      fs_ext rfl rfl (fun x w hx hk => ⟨_, _, rfl, rfl, rfl, run_call rfl rfl T.fn17, (Sectors_ok hg).ext⟩),
      fv rfl rfl (fun x w hx hk => tst rfl (decide_eq_false hn)),
      fv rfl rfl (fun x w hx hk => run_assign rfl rfl), trivial⟩ ?_)
  intro x fr w hx hk E
  have M := M.ext hx
  refine then_normal ?_
  refine cond_false E rfl (rfl) ?_
  refine code_region ?_
  refine mv E fun fr E => ?_
  refine sgive E M rfl rfl rfl rfl rfl (run_call rfl rfl T.fn15) (Tries_x hv (by omega)) fun fr w M E => ?_
  refine sw (v := .bool false) E (tst rfl (decide_eq_false ht)) fun fr E => ?_
  refine mv E fun fr E => ?_
  refine mv E fun fr E => ?_
  refine sw (v := .int _ (v + 1)) E (num rfl (i64_id (by omega) (by omega))) fun fr E => ?_
  refine sgive E M rfl rfl rfl rfl rfl (run_call rfl rfl T.fn34) (epoch_x (v := v + 1) (by omega) (by omega)) fun fr w M E => ?_
  refine sw (v := .bool false) E (tst rfl (decide_eq_false he)) fun fr E => ?_
  refine sw (v := .bool _) E (rfl) fun fr E => ?_
  refine ma E fun fr E => ?_
  refine seq_nil' ?_
  refine cond_false E rfl (rfl) ?_
  refine wp_skip ?_
  refine block_normal ?_
  refine then_normal ?_
  refine code_region ?_
  refine sw E (run_assignC rfl) fun fr E => ?_
  refine seq_nil' ?_
  refine wp_ret ?_
  refine ret1 E rfl rfl ?_
  exact given M

theorem refused_x {D : DV} {g gk : Nat} {A : AD} {v s l b : Int} {w0 : World} (H : Has w0 [dkE D]) (hD : D.is g A) (hc : w0.heap[gk]? = some (.cells #[.pointer (some ⟨g, 0, none⟩), .int .i64 (v)] 77)) (hv : 0 ≤ v) (hv2 : v ≤ 1152921504606846976) : Gives Tryz.prog 33 [.pointer (some ⟨g, 0, none⟩), .pointer (some ⟨gk, 0, none⟩), .agg #[.int .i64 s, .int .i64 l, .int .i64 b]] w0 (.int .i64 (refZ A.n v s l b)) := by
  unfold refZ
  by_cases hg : GMay s l b
  · rw [if_neg (fun c => c hg)]
    by_cases hn : (A.n : Int) < 3 + s * l
    · rw [if_pos hn]; exact refused_low H hD hc hv hv2 hg hn
    · rw [if_neg hn]
      by_cases ht : v % 1048576 = 1048575
      · rw [if_pos (.inl ht)]; exact refused_m1 H hD hc hv hv2 hg hn ht
      · by_cases he : 1099511627776 ≤ epochZ (v + 1)
        · rw [if_pos (.inr he)]; exact refused_m2 H hD hc hv hv2 hg hn ht he
        · rw [if_neg (fun c => c.elim ht he)]; exact refused_ok H hD hc hv hv2 hg hn ht he
  · rw [if_pos hg]; exact refused_geo H hD hc hv hv2 hg

set_option maxRecDepth 100000 in
theorem fmt1_x {D : DV} {g gk b1 : Nat} {A : AD} {v : Int} {w0 : World} (H : Has w0 [dkE D, cE g gk v, Ent.blk b1 (.cells #[.pointer (some ⟨gk, 0, none⟩)] 29)]) (hD : D.is g A) (hv : 0 ≤ v) (hv2 : v ≤ 1152921504606846976) : Does Tryz.prog 35 [.pointer (some ⟨b1, 0, none⟩)] w0 [dkE D, cE g gk v, Ent.blk b1 (.cells #[.pointer (some ⟨gk, 0, none⟩)] 29)] (fun _ : DV => .int .i64 (raiseA A v (v + 1)).1) (fun x => [dkE x, cE g gk (raiseA A v (v + 1)).2.2, Ent.blk b1 (.cells #[.pointer (some ⟨gk, 0, none⟩)] 29)]) (fun x => x.is g (raiseA A v (v + 1)).2.1) := by
  refine enter (n := 7) Tryz.func35 rfl rfl rfl ?_
  intro fr E
  have M : Mem w0 (feet [dkE D, cE g gk v, Ent.blk b1 (.cells #[.pointer (some ⟨gk, 0, none⟩)] 29)]) [dkE D, cE g gk v, Ent.blk b1 (.cells #[.pointer (some ⟨gk, 0, none⟩)] 29)] (fun _ => True) w0 := Mem.begin H (fun _ _ => trivial)
  refine code_region ?_
  refine sw E (run_assignC rfl) fun fr E => ?_
  refine seq_nil' ?_
  let w : World := w0
  have M : Mem _ _ ([dkE D, cE g gk v] ++ _) _ _ := M
  refine wp_seq (free_regR (B := T.tab35_1_b) (Vs := (.exact (.pointer (some ⟨gk, 0, none⟩)) :: .exact (.pointer (some ⟨gk, 0, none⟩)) :: .exact (.int .i64 v) :: .exact (.int _ (v + 1)) :: CameI w.heap.size ([dkE D, cE g gk v]) (fun _ : DV => .int .i64 (raiseA A v (v + 1)).1) (fun x => [dkE x, cE g gk (raiseA A v (v + 1)).2.2]) (fun x => x.is g (raiseA A v (v + 1)).2.1) :: CameI w.heap.size ([dkE D, cE g gk v]) (fun _ : DV => .int .i64 (raiseA A v (v + 1)).1) (fun x => [dkE x, cE g gk (raiseA A v (v + 1)).2.2]) (fun x => x.is g (raiseA A v (v + 1)).2.1) :: [])) (ownRoadW T.tab35_1_b 6 (oneFs 4 ([dkE D, cE g gk v])) w.drew) T.tab35_1_i E T.mixed T.tab35_1 rfl ?_ ⟨fr_valJ (c := 4) rfl rfl M rfl rfl (fun x w' M' hB hk => ⟨_, _, rfl, rfl, rfl, run_loadB rfl rfl T.one29 (M'.row (i := 2) rfl) rfl, Ext.refl _, rfl⟩),
      fr_valJ (c := 4) rfl rfl M rfl rfl (fun x w' M' hB hk => ⟨_, _, rfl, rfl, rfl, run_loadB rfl rfl T.one29 (M'.row (i := 2) rfl) rfl, Ext.refl _, rfl⟩),
      fr_extJ (c := 4) rfl rfl M rfl rfl (fun x w' M' hB hk => ⟨_, _, rfl, rfl, rfl, run_call rfl rfl T.fn11, (cValue_x (g := g) (M'.row (i := 1) rfl)).ext⟩),
      fr_valJ (c := 4) rfl rfl M rfl rfl (fun x w' M' hB hk => ⟨_, _, rfl, rfl, rfl, num rfl (i64_id (by omega) (by omega)), Ext.refl _, rfl⟩),
      wideF (fr_call (J := [dkE D, cE g gk v]) rfl rfl M (fun i g h => h.2) M.front (fun j hj g hjg => absurd hjg.1 hj) (fun x w' M' H' hB hk => ⟨_, _, rfl, rfl, rfl, run_call rfl rfl T.fn29, (Raise_x H' hD).own (Fs := oneFs 4 ([dkE D, cE g gk v])) (i := 4) hB (fun g hg => ⟨rfl, hg⟩)⟩)),
      wideF (fr_on (j := 4) rfl rfl rfl rfl (fun x w y hy => ⟨rfl, rfl, rfl, run_assignV rfl hy⟩)), trivial⟩ ?_)
  · exact ownRoadW_ok (one_okW rfl ((allY_ex (allY_ex (allY_ex (allY_ex (allY_in rfl LastsR.came1 (allY_in rfl LastsR.came1 allY_nil))))))))
  intro x fr w ⟨b, hb, hI⟩ hk E
  obtain ⟨D1, hy, hD1, M⟩ := M.behind (val := fun _ : DV => .int .i64 (raiseA A v (v + 1)).1) (outs := fun x => [dkE x, cE g gk (raiseA A v (v + 1)).2.2]) (p := fun x => x.is g (raiseA A v (v + 1)).2.1) hI (hk 5 (by decide))
  have E := Env.say (t := 1) E rfl hy
  refine then_normal ?_
  refine wp_ret ?_
  refine ret1 E rfl rfl ?_
  have M := M.pull 2 rfl
  have M := M.pull 2 rfl
  have M := M.pull 2 rfl
  exact ⟨D1, rfl, Mem.fin (L := [dkE D1, cE g gk (raiseA A v (v + 1)).2.2, Ent.blk b1 (.cells #[.pointer (some ⟨gk, 0, none⟩)] 29)] ++ _) M (List.sublist_append_left _ _) hD1⟩
end Go.Proofs.YtnebjbgcibjohaaGreat.K
end
section
namespace Go.Proofs.YtnebjbgcibjohaaGreat.K
open Go.RowKit Go.Rill Go.Proofs
set_option linter.unusedVariables false
set_option linter.unusedSimpArgs false
theorem _root_.Go.Rill.Does.args {α : Type} {P : Program} {f : FuncId} {xs ys : List Value} {w : World} {ins : List Ent} {val : α → Value} {outs : α → List Ent} {p : α → Prop} (h : Does P f xs w ins val outs p) (e : ys = xs) : Does P f ys w ins val outs p := e ▸ h
theorem sumOf_len (j : Nat) : (sumOf j).length = 32 := by simp [sumOf, be8_len]
theorem superW_sum (A : AD) (ks : List NKey) (ts : List (List UInt8)) (e s l b : Int) : (superW A ks ts e s l b).sum.length = 32 := by
  unfold superW
  split
  · exact sumOf_len _
  · simp
/-- The record that Format writes. -/
def fRec (e : Int) (sm : List UInt8) : Rec := ⟨1, e, e, sm, 0, List.replicate 32 0, 0, 0, 0, 0, sm, sm⟩
theorem fRec_ok (e : Int) {sm : List UInt8} (h : sm.length = 32) : (fRec e sm).Ok := ⟨h, by simp [fRec], h, h⟩
theorem part_step {place : Nat → Option (Nat × Nat)} {i off size : Nat} {v : Value} {rest : List (Nat × Value)} {pre mid post L : List Value} {r : Option (Array Value)} (hp : place i = some (off, size)) (hv : v.cells.size = size) (h1 : pre.length = off) (h2 : mid.length = size) (hL : L = pre ++ (mid ++ post)) (h : Instr.fill place (pre ++ (v.cells.toList ++ post)).toArray rest = r) : Instr.fill place L.toArray ((i, v) :: rest) = r := by
  subst hL h1 hv
  rw [← h]
  have hf : (v.cells.zipIdx.foldl (fun cs (x : Value × Nat) => cs.setIfInBounds (pre.length + x.2) x.1) (pre ++ (mid ++ post)).toArray) = (pre ++ (v.cells.toList ++ post)).toArray := by
    apply Array.toList_inj.1
    have := fold_set v.cells.toList 0 pre.length (pre ++ (mid ++ post)).toArray (by simp [h2])
    rw [← Array.foldl_toList]
    simp only [Array.toList_zipIdx]
    rw [this]
    simp only [Nat.add_zero, Array.length_toList, ← h2]
    rw [List.take_append, List.drop_append]
    rw [List.take_of_length_le (l := pre) (by omega), List.drop_of_length_le (l := pre) (by omega)]
    have e1 : pre.length + mid.length - pre.length = mid.length := by omega
    simp [e1]
  have hsz : ¬ ((decide (v.cells.size ≠ v.cells.size) || decide (pre.length + v.cells.size > (pre ++ (mid ++ post)).toArray.size)) = true) := by
    simp [h2]
  conv => lhs; unfold Instr.fill
  simp only [hp]
  rw [if_neg hsz]
  exact congrArg (fun c => Instr.fill place c _) hf
theorem fill_rec (e : Int) {sm : List UInt8} (h : sm.length = 32) : Instr.fill (fun i => (pieces 0 [1, 1, 1, 32, 33, 2, 2, 32, 32] 0)[i]?) Rec.zero.cells.toArray [(0, .int .i64 1), (1, .int .i64 e), (2, .int .i64 e), (3, .agg (bc sm).toArray), (7, .agg (bc sm).toArray), (8, .agg (bc sm).toArray)] = some (fRec e sm).cells.toArray := by
  have hb : (bc sm).length = 32 := by simp [bc, h]
  have hv : (Value.agg (bc sm).toArray).cells.size = 32 := hb
  obtain ⟨Z, hZ⟩ : ∃ Z, Z = bc (List.replicate 32 0) := ⟨_, rfl⟩
  have hz : Z.length = 32 := by simp [hZ, bc]
  have e0 : Rec.zero.cells = [iv 0] ++ ([] ++ (iv 0 :: iv 0 :: (Z ++ (iv 0 :: (Z ++ (iv 0 :: iv 0 :: iv 0 :: iv 0 :: (Z ++ Z))))))) := by rw [hZ]; rfl
  refine part_step (pre := []) (mid := [iv 0]) (post := iv 0 :: iv 0 :: (Z ++ (iv 0 :: (Z ++ (iv 0 :: iv 0 :: iv 0 :: iv 0 :: (Z ++ Z)))))) rfl rfl rfl rfl e0 ?_
  refine part_step (pre := [iv 1]) (mid := [iv 0]) (post := iv 0 :: (Z ++ (iv 0 :: (Z ++ (iv 0 :: iv 0 :: iv 0 :: iv 0 :: (Z ++ Z)))))) rfl rfl rfl rfl rfl ?_
  refine part_step (pre := [iv 1, iv e]) (mid := [iv 0]) (post := Z ++ (iv 0 :: (Z ++ (iv 0 :: iv 0 :: iv 0 :: iv 0 :: (Z ++ Z))))) rfl rfl rfl rfl rfl ?_
  refine part_step (pre := [iv 1, iv e, iv e]) (mid := Z) (post := iv 0 :: (Z ++ (iv 0 :: iv 0 :: iv 0 :: iv 0 :: (Z ++ Z)))) rfl hv rfl hz rfl ?_
  refine part_step (pre := [iv 1, iv e, iv e] ++ (bc sm ++ (iv 0 :: (Z ++ [iv 0, iv 0, iv 0, iv 0])))) (mid := Z) (post := Z) rfl hv (by simp [hb, hz]) hz (by simp [Value.cells]) ?_
  refine part_step (pre := [iv 1, iv e, iv e] ++ (bc sm ++ (iv 0 :: (Z ++ ([iv 0, iv 0, iv 0, iv 0] ++ bc sm))))) (mid := Z) (post := []) rfl hv (by simp [hb, hz]) hz (by simp [Value.cells]) ?_
  simp [Instr.fill, Rec.cells, fRec, Value.cells, hZ]
set_option maxRecDepth 100000 in
theorem fmt2_x {D : DV} {N : NV} {g b0 b2 b3 b4 b5 : Nat} {A : AD} {e s l b : Int} {w0 : World} (H : Has w0 [dkE D, nmE N, Ent.blk b0 (.cells #[.pointer (some ⟨g, 0, none⟩)] 23), Ent.blk b2 (.cells #[.iface 31 (.pointer (some ⟨N.gn, 0, none⟩))] 84), Ent.blk b4 (.cells #[.int .i64 e] 3), Ent.blk b3 (.cells #[.int .i64 s, .int .i64 l, .int .i64 b] 35), Ent.blk b5 (.cells #[.int .u8 0, .int .u8 0, .int .u8 0, .int .u8 0, .int .u8 0, .int .u8 0, .int .u8 0, .int .u8 0, .int .u8 0, .int .u8 0, .int .u8 0, .int .u8 0, .int .u8 0, .int .u8 0, .int .u8 0, .int .u8 0, .int .u8 0, .int .u8 0, .int .u8 0, .int .u8 0, .int .u8 0, .int .u8 0, .int .u8 0, .int .u8 0, .int .u8 0, .int .u8 0, .int .u8 0, .int .u8 0, .int .u8 0, .int .u8 0, .int .u8 0, .int .u8 0] 54)]) (hD : D.is g A) (hkz : N.ks.length ≤ 1099511627776) (htz : N.ts.length ≤ 1099511627776) (hg : GMay s l b) (hs : SRight e 0 0)  : Does Tryz.prog 36 [.pointer (some ⟨b0, 0, none⟩), .pointer (some ⟨b2, 0, none⟩), .pointer (some ⟨b4, 0, none⟩), .pointer (some ⟨b3, 0, none⟩), .pointer (some ⟨b5, 0, none⟩)] w0 [dkE D, nmE N, Ent.blk b0 (.cells #[.pointer (some ⟨g, 0, none⟩)] 23), Ent.blk b2 (.cells #[.iface 31 (.pointer (some ⟨N.gn, 0, none⟩))] 84), Ent.blk b4 (.cells #[.int .i64 e] 3), Ent.blk b3 (.cells #[.int .i64 s, .int .i64 l, .int .i64 b] 35), Ent.blk b5 (.cells #[.int .u8 0, .int .u8 0, .int .u8 0, .int .u8 0, .int .u8 0, .int .u8 0, .int .u8 0, .int .u8 0, .int .u8 0, .int .u8 0, .int .u8 0, .int .u8 0, .int .u8 0, .int .u8 0, .int .u8 0, .int .u8 0, .int .u8 0, .int .u8 0, .int .u8 0, .int .u8 0, .int .u8 0, .int .u8 0, .int .u8 0, .int .u8 0, .int .u8 0, .int .u8 0, .int .u8 0, .int .u8 0, .int .u8 0, .int .u8 0, .int .u8 0, .int .u8 0] 54)] (fun _ : DV × NV => .int .i64 (superW A N.ks N.ts e s l b).err) (fun x => [dkE x.1, nmE x.2, Ent.blk b0 (.cells #[.pointer (some ⟨g, 0, none⟩)] 23), Ent.blk b2 (.cells #[.iface 31 (.pointer (some ⟨N.gn, 0, none⟩))] 84), Ent.blk b4 (.cells #[.int .i64 e] 3), Ent.blk b3 (.cells #[.int .i64 s, .int .i64 l, .int .i64 b] 35), Ent.blk b5 (.cells (bc (superW A N.ks N.ts e s l b).sum).toArray 54)]) (fun x => x.1.is g (superW A N.ks N.ts e s l b).A ∧ x.2.gn = N.gn ∧ x.2.ks = (superW A N.ks N.ts e s l b).ks ∧ x.2.ts = (superW A N.ks N.ts e s l b).ts) := by
  refine enter (n := 15) Tryz.func36 rfl rfl rfl ?_
  intro fr E
  have M : Mem w0 (feet [dkE D, nmE N, Ent.blk b0 (.cells #[.pointer (some ⟨g, 0, none⟩)] 23), Ent.blk b2 (.cells #[.iface 31 (.pointer (some ⟨N.gn, 0, none⟩))] 84), Ent.blk b4 (.cells #[.int .i64 e] 3), Ent.blk b3 (.cells #[.int .i64 s, .int .i64 l, .int .i64 b] 35), Ent.blk b5 (.cells #[.int .u8 0, .int .u8 0, .int .u8 0, .int .u8 0, .int .u8 0, .int .u8 0, .int .u8 0, .int .u8 0, .int .u8 0, .int .u8 0, .int .u8 0, .int .u8 0, .int .u8 0, .int .u8 0, .int .u8 0, .int .u8 0, .int .u8 0, .int .u8 0, .int .u8 0, .int .u8 0, .int .u8 0, .int .u8 0, .int .u8 0, .int .u8 0, .int .u8 0, .int .u8 0, .int .u8 0, .int .u8 0, .int .u8 0, .int .u8 0, .int .u8 0, .int .u8 0] 54)]) [dkE D, nmE N, Ent.blk b0 (.cells #[.pointer (some ⟨g, 0, none⟩)] 23), Ent.blk b2 (.cells #[.iface 31 (.pointer (some ⟨N.gn, 0, none⟩))] 84), Ent.blk b4 (.cells #[.int .i64 e] 3), Ent.blk b3 (.cells #[.int .i64 s, .int .i64 l, .int .i64 b] 35), Ent.blk b5 (.cells #[.int .u8 0, .int .u8 0, .int .u8 0, .int .u8 0, .int .u8 0, .int .u8 0, .int .u8 0, .int .u8 0, .int .u8 0, .int .u8 0, .int .u8 0, .int .u8 0, .int .u8 0, .int .u8 0, .int .u8 0, .int .u8 0, .int .u8 0, .int .u8 0, .int .u8 0, .int .u8 0, .int .u8 0, .int .u8 0, .int .u8 0, .int .u8 0, .int .u8 0, .int .u8 0, .int .u8 0, .int .u8 0, .int .u8 0, .int .u8 0, .int .u8 0, .int .u8 0] 54)] (fun _ => True) w0 := Mem.begin H (fun _ _ => trivial)
  refine code_region ?_
  refine sw E (run_assignC rfl) fun fr E => ?_
  refine seq_nil' ?_
  refine code_region ?_
  refine sw (v := .pointer (some ⟨g, 0, none⟩)) E (run_loadB rfl rfl T.one23 (M.row (i := 2) rfl) rfl) fun fr E => ?_
  refine sw (v := .iface 31 (.pointer (some ⟨N.gn, 0, none⟩))) E (run_loadB rfl rfl T.one84 (M.row (i := 3) rfl) rfl) fun fr E => ?_
  refine sw (v := .int .i64 e) E (run_loadB rfl rfl T.one3 (M.row (i := 4) rfl) rfl) fun fr E => ?_
  refine sw (v := .agg #[.int .i64 s, .int .i64 l, .int .i64 b]) E (run_loadAll rfl rfl T.agg35 (M.row (i := 5) rfl) rfl) fun fr E => ?_
  refine scallI ([dkE D, nmE N]) E M rfl rfl rfl rfl rfl (run_call rfl rfl T.fn37) rfl (fun H => superWrite_y (g := g) (A := A) (e := e) (s := s) (l := l) (b := b) H hD hkz htz hg hs rfl) ?_
  rintro ⟨D1, N1⟩ fr w ⟨hD1, hN1, hN2, hN3⟩ M E
  refine mv E fun fr E => ?_
  refine sw E (run_extract rfl rfl rfl) fun fr E => ?_
  refine sw E (run_extract rfl rfl rfl) fun fr E => ?_
  refine sset (i := 6) (cs' := (bc (superW A N.ks N.ts e s l b).sum).toArray) E M rfl rfl rfl rfl rfl (run_storeAll (vs := (bc (superW A N.ks N.ts e s l b).sum).toArray) rfl rfl rfl T.size54 (by simp [superW_sum, bc]) (M.row (i := 6) rfl) rfl (fun v hv => bc_one v hv)) rfl fun fr w M E => ?_
  refine ma E fun fr E => ?_
  refine seq_nil' ?_
  refine code_region ?_
  refine mv E fun fr E => ?_
  refine ma E fun fr E => ?_
  refine seq_nil' ?_
  refine wp_ret ?_
  refine ret1 E rfl rfl ?_
  have M := M.pull 6 rfl
  have M := M.pull 6 rfl
  have M := M.pull 6 rfl
  have M := M.pull 6 rfl
  have M := M.pull 6 rfl
  have M := M.pull 6 rfl
  have M := M.pull 6 rfl
  exact ⟨(D1, N1), rfl, Mem.fin (L := [dkE D1, nmE N1, Ent.blk b0 (.cells #[.pointer (some ⟨g, 0, none⟩)] 23), Ent.blk b2 (.cells #[.iface 31 (.pointer (some ⟨N.gn, 0, none⟩))] 84), Ent.blk b4 (.cells #[.int .i64 e] 3), Ent.blk b3 (.cells #[.int .i64 s, .int .i64 l, .int .i64 b] 35), Ent.blk b5 (.cells (bc (superW A N.ks N.ts e s l b).sum).toArray 54)] ++ _) M (List.sublist_append_left _ _) ⟨hD1, hN1, hN2, hN3⟩⟩

set_option maxRecDepth 100000 in
theorem fmt3_x {D : DV} {N : NV} {g b0 b2 b4 b5 : Nat} {A : AD} {e : Int} {sm : List UInt8} {w0 : World} (H : Has w0 [dkE D, nmE N, Ent.blk b0 (.cells #[.pointer (some ⟨g, 0, none⟩)] 23), Ent.blk b2 (.cells #[.iface 31 (.pointer (some ⟨N.gn, 0, none⟩))] 84), Ent.blk b4 (.cells #[.int .i64 e] 3), Ent.blk b5 (.cells (bc sm).toArray 54)]) (hsm : sm.length = 32) (hD : D.is g A) (hkz : N.ks.length ≤ 1099511627776)  : Does Tryz.prog 38 [.pointer (some ⟨b0, 0, none⟩), .pointer (some ⟨b2, 0, none⟩), .pointer (some ⟨b4, 0, none⟩), .pointer (some ⟨b5, 0, none⟩)] w0 [dkE D, nmE N, Ent.blk b0 (.cells #[.pointer (some ⟨g, 0, none⟩)] 23), Ent.blk b2 (.cells #[.iface 31 (.pointer (some ⟨N.gn, 0, none⟩))] 84), Ent.blk b4 (.cells #[.int .i64 e] 3), Ent.blk b5 (.cells (bc sm).toArray 54)] (fun _ : DV × NV => .int .i64 (regW A N.ks (fRec e sm) 1).1) (fun x => [dkE x.1, nmE x.2, Ent.blk b0 (.cells #[.pointer (some ⟨g, 0, none⟩)] 23), Ent.blk b2 (.cells #[.iface 31 (.pointer (some ⟨N.gn, 0, none⟩))] 84), Ent.blk b4 (.cells #[.int .i64 e] 3), Ent.blk b5 (.cells (bc sm).toArray 54)]) (fun x => x.1.is g (regW A N.ks (fRec e sm) 1).2.1 ∧ x.2.gn = N.gn ∧ x.2.ks = (regW A N.ks (fRec e sm) 1).2.2 ∧ x.2.ts = N.ts) := by
  refine enter (n := 14) Tryz.func38 rfl rfl rfl ?_
  intro fr E
  have M : Mem w0 (feet [dkE D, nmE N, Ent.blk b0 (.cells #[.pointer (some ⟨g, 0, none⟩)] 23), Ent.blk b2 (.cells #[.iface 31 (.pointer (some ⟨N.gn, 0, none⟩))] 84), Ent.blk b4 (.cells #[.int .i64 e] 3), Ent.blk b5 (.cells (bc sm).toArray 54)]) [dkE D, nmE N, Ent.blk b0 (.cells #[.pointer (some ⟨g, 0, none⟩)] 23), Ent.blk b2 (.cells #[.iface 31 (.pointer (some ⟨N.gn, 0, none⟩))] 84), Ent.blk b4 (.cells #[.int .i64 e] 3), Ent.blk b5 (.cells (bc sm).toArray 54)] (fun _ => True) w0 := Mem.begin H (fun _ _ => trivial)
  refine code_region ?_
  refine sw E (run_assignC rfl) fun fr E => ?_
  refine seq_nil' ?_
  refine code_region ?_
  refine sw (v := .pointer (some ⟨g, 0, none⟩)) E (run_loadB rfl rfl T.one23 (M.row (i := 2) rfl) rfl) fun fr E => ?_
  refine sw (v := .iface 31 (.pointer (some ⟨N.gn, 0, none⟩))) E (run_loadB rfl rfl T.one84 (M.row (i := 3) rfl) rfl) fun fr E => ?_
  refine sw (v := .int .i64 e) E (run_loadB rfl rfl T.one3 (M.row (i := 4) rfl) rfl) fun fr E => ?_
  refine sw (v := .int .i64 e) E (run_loadB rfl rfl T.one3 (M.row (i := 4) rfl) rfl) fun fr E => ?_
  refine sw (v := .agg (bc sm).toArray) E (run_loadAll rfl rfl T.agg54 (M.row (i := 5) rfl) (by simp [bc, hsm])) fun fr E => ?_
  refine sw (v := .agg (bc sm).toArray) E (run_loadAll rfl rfl T.agg54 (M.row (i := 5) rfl) (by simp [bc, hsm])) fun fr E => ?_
  refine sw (v := .agg (bc sm).toArray) E (run_loadAll rfl rfl T.agg54 (M.row (i := 5) rfl) (by simp [bc, hsm])) fun fr E => ?_
  refine sw (v := .agg (fRec e sm).cells.toArray) E (run_buildQ (us := (fRec e sm).cells.toArray) (qs := [(0, .int .i64 1), (1, .int .i64 e), (2, .int .i64 e), (3, .agg (bc sm).toArray), (7, .agg (bc sm).toArray), (8, .agg (bc sm).toArray)]) rfl rfl T.ts62 T.zeroL62 (fill_rec e hsm)) fun fr E => ?_
  refine scallI ([dkE D, nmE N]) E M rfl rfl rfl rfl rfl (run_call rfl rfl T.fn39) rfl (fun H => Does.args (rWrite_y (g := g) (A := A) (r := fRec e sm) (num := 1) H hD (fRec_ok e hsm) hkz rfl) rfl) ?_
  rintro ⟨D1, N1⟩ fr w ⟨hD1, hN1, hN2, hN3⟩ M E
  refine ma E fun fr E => ?_
  refine seq_nil' ?_
  refine wp_ret ?_
  refine ret1 E rfl rfl ?_
  have M := M.pull 5 rfl
  have M := M.pull 5 rfl
  have M := M.pull 5 rfl
  have M := M.pull 5 rfl
  have M := M.pull 5 rfl
  have M := M.pull 5 rfl
  exact ⟨(D1, N1), rfl, Mem.fin (L := [dkE D1, nmE N1, Ent.blk b0 (.cells #[.pointer (some ⟨g, 0, none⟩)] 23), Ent.blk b2 (.cells #[.iface 31 (.pointer (some ⟨N.gn, 0, none⟩))] 84), Ent.blk b4 (.cells #[.int .i64 e] 3), Ent.blk b5 (.cells (bc sm).toArray 54)] ++ _) M (List.sublist_append_left _ _) ⟨hD1, hN1, hN2, hN3⟩⟩

theorem fmt3_y {a : Nat} {D : DV} {N : NV} {g b0 b2 b4 b5 : Nat} {A : AD} {e : Int} {sm : List UInt8} {w0 : World} (H : Has w0 [dkE D, nmE N, Ent.blk b0 (.cells #[.pointer (some ⟨g, 0, none⟩)] 23), Ent.blk b2 (.cells #[.iface 31 (.pointer (some ⟨a, 0, none⟩))] 84), Ent.blk b4 (.cells #[.int .i64 e] 3), Ent.blk b5 (.cells (bc sm).toArray 54)]) (hsm : sm.length = 32) (hD : D.is g A) (hkz : N.ks.length ≤ 1099511627776) (ha : N.gn = a) : Does Tryz.prog 38 [.pointer (some ⟨b0, 0, none⟩), .pointer (some ⟨b2, 0, none⟩), .pointer (some ⟨b4, 0, none⟩), .pointer (some ⟨b5, 0, none⟩)] w0 [dkE D, nmE N, Ent.blk b0 (.cells #[.pointer (some ⟨g, 0, none⟩)] 23), Ent.blk b2 (.cells #[.iface 31 (.pointer (some ⟨a, 0, none⟩))] 84), Ent.blk b4 (.cells #[.int .i64 e] 3), Ent.blk b5 (.cells (bc sm).toArray 54)] (fun _ : DV × NV => .int .i64 (regW A N.ks (fRec e sm) 1).1) (fun x => [dkE x.1, nmE x.2, Ent.blk b0 (.cells #[.pointer (some ⟨g, 0, none⟩)] 23), Ent.blk b2 (.cells #[.iface 31 (.pointer (some ⟨a, 0, none⟩))] 84), Ent.blk b4 (.cells #[.int .i64 e] 3), Ent.blk b5 (.cells (bc sm).toArray 54)]) (fun x => x.1.is g (regW A N.ks (fRec e sm) 1).2.1 ∧ x.2.gn = a ∧ x.2.ks = (regW A N.ks (fRec e sm) 1).2.2 ∧ x.2.ts = N.ts) := by
  subst ha
  exact fmt3_x H hsm hD hkz

set_option maxRecDepth 100000 in
theorem fmt5_x {D : DV} {g gk b1 b4 : Nat} {A : AD} {v e : Int} {w0 : World} (H : Has w0 [dkE D, cE g gk v, Ent.blk b1 (.cells #[.pointer (some ⟨gk, 0, none⟩)] 29), Ent.blk b4 (.cells #[.int .i64 e] 3)]) (hD : D.is g A) (he : 0 ≤ e ∧ e ≤ 1099511627776) : Does Tryz.prog 41 [.pointer (some ⟨b1, 0, none⟩), .pointer (some ⟨b4, 0, none⟩)] w0 [dkE D, cE g gk v, Ent.blk b1 (.cells #[.pointer (some ⟨gk, 0, none⟩)] 29), Ent.blk b4 (.cells #[.int .i64 e] 3)] (fun _ : DV => .int .i64 (raiseA A v (e * 1048576)).1) (fun x => [dkE x, cE g gk (raiseA A v (e * 1048576)).2.2, Ent.blk b1 (.cells #[.pointer (some ⟨gk, 0, none⟩)] 29), Ent.blk b4 (.cells #[.int .i64 e] 3)]) (fun x => x.is g (raiseA A v (e * 1048576)).2.1) := by
  refine enter (n := 7) Tryz.func41 rfl rfl rfl ?_
  intro fr E
  have M : Mem w0 (feet [dkE D, cE g gk v, Ent.blk b1 (.cells #[.pointer (some ⟨gk, 0, none⟩)] 29), Ent.blk b4 (.cells #[.int .i64 e] 3)]) [dkE D, cE g gk v, Ent.blk b1 (.cells #[.pointer (some ⟨gk, 0, none⟩)] 29), Ent.blk b4 (.cells #[.int .i64 e] 3)] (fun _ => True) w0 := Mem.begin H (fun _ _ => trivial)
  refine code_region ?_
  refine sw E (run_assignC rfl) fun fr E => ?_
  refine seq_nil' ?_
  let w : World := w0
  have M : Mem _ _ ([dkE D, cE g gk v] ++ _) _ _ := M
  refine wp_seq (free_regR (B := T.tab41_1_b) (Vs := (.exact (.pointer (some ⟨gk, 0, none⟩)) :: .exact (.int .i64 e) :: .exact (.int .i64 (e * 1048576)) :: CameI w.heap.size ([dkE D, cE g gk v]) (fun _ : DV => .int .i64 (raiseA A v (e * 1048576)).1) (fun x => [dkE x, cE g gk (raiseA A v (e * 1048576)).2.2]) (fun x => x.is g (raiseA A v (e * 1048576)).2.1) :: CameI w.heap.size ([dkE D, cE g gk v]) (fun _ : DV => .int .i64 (raiseA A v (e * 1048576)).1) (fun x => [dkE x, cE g gk (raiseA A v (e * 1048576)).2.2]) (fun x => x.is g (raiseA A v (e * 1048576)).2.1) :: [])) (ownRoad (oneFs 3 ([dkE D, cE g gk v])) w.drew) T.tab41_1_i E T.mixed T.tab41_1 rfl ?_ ⟨fr_val rfl rfl M (fun i g h => h.2) (fun x w' M' hB hk => ⟨_, _, rfl, rfl, rfl, run_loadB rfl rfl T.one29 (M'.row (i := 0) rfl) rfl, Ext.refl _, rfl⟩),
      fr_val rfl rfl M (fun i g h => h.2) (fun x w' M' hB hk => ⟨_, _, rfl, rfl, rfl, run_loadB rfl rfl T.one3 (M'.row (i := 1) rfl) rfl, Ext.refl _, rfl⟩),
      fr_ext rfl rfl M (fun i g h => h.2) (fun x w' M' hB hk => ⟨_, _, rfl, rfl, rfl, run_call rfl rfl T.fn42, (Make_x he).ext⟩),
      fr_call (J := [dkE D, cE g gk v]) rfl rfl M (fun i g h => h.2) M.front (fun j hj g hjg => absurd hjg.1 hj) (fun x w' M' H' hB hk => ⟨_, _, rfl, rfl, rfl, run_call rfl rfl T.fn29, (Raise_x H' hD).own (Fs := oneFs 3 ([dkE D, cE g gk v])) (i := 3) hB (fun g hg => ⟨rfl, hg⟩)⟩),
      fr_on (j := 3) rfl rfl rfl rfl (fun x w y hy => ⟨rfl, rfl, rfl, run_assignV rfl hy⟩), trivial⟩ ?_)
  · exact one_okW rfl ((allY_ex (allY_ex (allY_ex (allY_in rfl LastsR.came1 (allY_in rfl LastsR.came1 allY_nil))))))
  intro x fr w ⟨b, hb, hI⟩ hk E
  obtain ⟨D1, hy, hD1, M⟩ := M.behind (val := fun _ : DV => .int .i64 (raiseA A v (e * 1048576)).1) (outs := fun x => [dkE x, cE g gk (raiseA A v (e * 1048576)).2.2]) (p := fun x => x.is g (raiseA A v (e * 1048576)).2.1) hI (hk 4 (by decide))
  have E := Env.say (t := 2) E rfl hy
  refine then_normal ?_
  refine wp_ret ?_
  refine ret1 E rfl rfl ?_
  have M := M.pull 3 rfl
  have M := M.pull 3 rfl
  have M := M.pull 3 rfl
  have M := M.pull 3 rfl
  exact ⟨D1, rfl, Mem.fin (L := [dkE D1, cE g gk (raiseA A v (e * 1048576)).2.2, Ent.blk b1 (.cells #[.pointer (some ⟨gk, 0, none⟩)] 29), Ent.blk b4 (.cells #[.int .i64 e] 3)] ++ _) M (List.sublist_append_left _ _) hD1⟩
end Go.Proofs.YtnebjbgcibjohaaGreat.K
end
