/- Slices of records; items of several cells stored into a slice of the call's own; a slice's end cleared. Of whatever program. -/
import Derived.Test.YtnojooafgehhaaaRR
import Derived.WalkKit
import Derived.ChangeSlices
import Derived.OpenShut
import Derived.WideShapes
import Derived.Lib.SmallJoins
import Derived.Maps.RangeRun
section
namespace Go.Rill
set_option linter.unusedVariables false
set_option linter.unusedSimpArgs false
open Go.RowKit
def rcs (l : List Rec) : List Value := (l.map Rec.cells).flatten
def Oks (l : List Rec) : Prop := ∀ r ∈ l, r.Ok
@[simp] theorem rcs_nil : rcs [] = [] := rfl
theorem rcs_cons (r : Rec) (l : List Rec) : rcs (r :: l) = r.cells ++ rcs l := by simp [rcs]
theorem rcs_append (a b : List Rec) : rcs (a ++ b) = rcs a ++ rcs b := by simp [rcs]
theorem Oks.sub {a b : List Rec} (h : Oks b) (s : ∀ r ∈ a, r ∈ b) : Oks a := fun r hr => h r (s r hr)
theorem Oks.take {l : List Rec} (h : Oks l) (k : Nat) : Oks (l.take k) := fun r hr => h r (List.mem_of_mem_take hr)
theorem Oks.drop {l : List Rec} (h : Oks l) (k : Nat) : Oks (l.drop k) := fun r hr => h r (List.mem_of_mem_drop hr)
theorem Oks.set {l : List Rec} (h : Oks l) {k : Nat} {r : Rec} (hr : r.Ok) : Oks (l.set k r) := fun x hx => by
  rcases List.mem_or_eq_of_mem_set hx with h1 | rfl
  · exact h x h1
  · exact hr
theorem Oks.get {l : List Rec} (h : Oks l) {k : Nat} (hk : k < l.length) : (l[k]).Ok := h _ (List.getElem_mem hk)
theorem rcs_len {l : List Rec} (h : Oks l) : (rcs l).length = l.length * 136 := by
  induction l with
  | nil => rfl
  | cons r l ih => rw [rcs_cons, List.length_append, Rec.len (h r (List.mem_cons_self ..)), ih fun x hx => h x (List.mem_cons_of_mem _ hx), List.length_cons]; omega
theorem rcs_take {l : List Rec} (h : Oks l) {k : Nat} (hk : k ≤ l.length) : (rcs l).take (k * 136) = rcs (l.take k) := by
  have e : rcs l = rcs (l.take k) ++ rcs (l.drop k) := by rw [← rcs_append, List.take_append_drop]
  rw [e]
  exact List.take_left' (by rw [rcs_len (h.take k), List.length_take, Nat.min_eq_left hk])
theorem rcs_drop {l : List Rec} (h : Oks l) {k : Nat} (hk : k ≤ l.length) : (rcs l).drop (k * 136) = rcs (l.drop k) := by
  have e : rcs l = rcs (l.take k) ++ rcs (l.drop k) := by rw [← rcs_append, List.take_append_drop]
  rw [e]
  exact List.drop_left' (by rw [rcs_len (h.take k), List.length_take, Nat.min_eq_left hk])
theorem rcs_get {l : List Rec} (h : Oks l) {k : Nat} (hk : k < l.length) : ((rcs l).drop (k * 136)).take 136 = (l[k]).cells := by
  rw [rcs_drop h (Nat.le_of_lt hk), List.drop_eq_getElem_cons hk, rcs_cons]
  exact List.take_left' (Rec.len (h.get hk))
theorem rcs_set {l : List Rec} (h : Oks l) {k : Nat} (hk : k < l.length) (r : Rec) : (rcs l).take (k * 136) ++ r.cells ++ (rcs l).drop (k * 136 + 136) = rcs (l.set k r) := by
  rw [rcs_take h (Nat.le_of_lt hk), show k * 136 + 136 = (k + 1) * 136 by omega, rcs_drop h hk, List.set_eq_take_append_cons_drop, if_pos hk, rcs_append, rcs_cons, List.append_assoc]
/-- What a slice of records reads as. -/
abbrev Recs (w : World) (v : Value) (l : List Rec) : Prop := Reads 136 w v l.length (rcs l)
theorem Recs.held0 {w w' : World} {v : Value} {l : List Rec} (h : Recs w v l) (H : Held (feet []) w w') : Recs w' v l := Reads.held0 h H
theorem Recs.nil (w : World) : Recs w (.slice none 0 0) [] := Reads.nil 136 w
theorem Recs.pre {w : World} {v : Value} {l : List Rec} {k : Nat} (h : Recs w v l) (ho : Oks l) (hk : k ≤ l.length) : Recs w (cutV 136 v 0 k) (l.take k) := by
  have := Reads.cut h (Nat.zero_le k) hk
  simp only [Nat.zero_mul, List.drop_zero, Nat.sub_zero] at this
  rw [rcs_take ho hk] at this
  unfold Recs
  rwa [List.length_take, Nat.min_eq_left hk]
theorem Recs.as {w : World} {v : Value} {l k : List Rec} (h : Recs w v l) (e : l = k) : Recs w v k := e ▸ h
abbrev Ent.recs (e : TypeId) (v : Value) (l : List Rec) : Ent := .row e 136 v l.length (rcs l)
/-- A part of a block, of the call's own, that reads as cells. -/
def Ent.part (sz : Nat) (v : Value) (n : Nat) (xs : List Value) : Ent := ⟨v.ownBlock.toList, fun w => Reads sz w v n xs, fun w w' h k => by
  refine ⟨k.1, ?_⟩
  rcases k.2 with h2 | ⟨g, off, cap, rfl, h3, h4, h5, h6⟩
  · exact .inl h2
  · have hb := h g (by simp [Value.ownBlock])
    refine .inr ⟨g, off, cap, rfl, h3, h4, ?_, fun j u hu => (World.cell?_of_block (w := w) hb).trans (h6 j u hu)⟩
    have h7 : (w.heap[g]?).isSome = true := by simp [h5]
    rw [← hb] at h7
    simpa using h7⟩
abbrev Ent.subr (v : Value) (l : List Rec) : Ent := .part 136 v l.length (rcs l)
/-- A call of a closure. -/
theorem run_callC {P : Program} {ρ : Operand → Value} {o : Oper} {w : World} {x : Operand} {args : List Operand} {ts : Array TypeId} {f : FuncId} {cs : List Value} (ho : o.op = .call { callee := .value x, args := args.toArray, argTypes := ts }) (hx : ρ x = .func (.func f) #[] cs.toArray) (hf : goFn P f = true) :
    (execOp ρ o).run P w = .ok (.enter f (args.map ρ ++ cs).toArray) w := by
  unfold goFn at hf
  cases h : P.funcs[f]? with
  | none => rw [h] at hf; cases hf
  | some fn =>
    rw [h] at hf
    simp only [Bool.and_eq_true, Bool.not_eq_true'] at hf
    obtain ⟨h1, h2⟩ := hf
    have h3 : ¬ fn.body = none := by cases hb : fn.body <;> simp_all
    have h4 : ¬ fn.name = "runtime.NumGoroutine" := by simpa using h2
    simp [execOp, ho, resolve, hx, Deferred.ofValue, invoke, callFunc, h, h4, h3, program, Sem.run]
section
variable {P : Program} {ops : Array Oper} {Q : Exit → Act → World → Prop} {l : List (Nat × Value)} {n : Nat} {a : Act} {w w' w0 : World} {rest : List Oper} {o : Oper} {O : Nat → Prop} {L R : List Ent} {Φ : World → Prop}
theorem Mem.parts {sz m : Nat} {v : Value} {xs : List Value} (M : Mem w0 O L Φ w) (i : Nat) (h : L[i]? = some (.part sz v m xs)) : Reads sz w v m xs := M.ent i h
theorem Mem.asPart {e : TypeId} {sz m : Nat} {v : Value} {xs : List Value} (M : Mem w0 O L Φ w) (i k : Nat) (h : L[i]? = some (.row e sz v m xs)) (hk : k ≤ m) : Mem w0 O (L.set i (.part sz (cutV sz v 0 k) k (xs.take (k * sz)))) Φ w := by
  refine M.view h _ (fun hr => ?_) fun g hg => ?_
  · have := Reads.cut (ownsRow_reads hr) (Nat.zero_le k) hk
    simp only [Nat.zero_mul, List.drop_zero, Nat.sub_zero] at this
    exact this
  · obtain ⟨b, c, hv⟩ := Reads.slice (M.reads i h)
    simp only [Ent.part] at hg
    rw [cutV_block _ _ _ _ ⟨b, _, c, hv⟩] at hg
    exact hg
theorem Mem.asWhole {e : TypeId} {sz m : Nat} {v : Value} {xs : List Value} (M : Mem w0 O L Φ w) (i : Nat) (h : L[i]? = some (.row e sz v m xs)) : Mem w0 O (L.set i (.part sz v m xs)) Φ w :=
  M.view h _ (fun hr => ownsRow_reads hr) fun g hg => hg
theorem Mem.nilRecs (M : Mem w0 O L Φ w) (e : TypeId) : Mem w0 O (.recs e (.slice none 0 0) [] :: L) Φ w :=
  M.adopt (Ext.refl w) _ (World.ownsRow_nil w 0 e 136) fun g hg => by simp [Ent.row, Value.ownBlock] at hg
theorem run_mkF {ρ : Operand → Value} {x : Operand} {f : FuncId} {v : Value} (ho : o.op = .makeFunc (.func f) #[] #[x]) (hx : ρ x = v) : (execOp ρ o).run P w = .ok (.value (.func (.func f) #[] #[v])) w := by
  simp [execOp, ho, hx, Instr.makeFunc]
theorem rcs_one (l : List Rec) : ∀ u ∈ rcs l, u.oneCell' = true := fun u hu => by
  obtain ⟨c, hc1, hc2⟩ := List.mem_flatten.1 hu
  obtain ⟨r, _, rfl⟩ := List.mem_map.1 hc1
  exact Rec.ones r u hc2
theorem held_at {g : Nat} {x : Obj} (hg : w.heap[g]? = some x) (h : Held (feet []) w w') : w'.heap[g]? = some x := (h.block g (Array.getElem?_eq_some_iff.1 hg).1 feet_nil).trans hg
/-- Several cells are stored into a slice of the call's own. -/
theorem ssetN {i k m sz q : Nat} {t e : TypeId} {A X : Operand} {v : Value} {us : Array Value} {xs xs' : List Value} (E : Env l n a) (M : Mem w0 O L Φ w) (hL : L[i]? = some (.row e sz v m xs)) (hd : o.dst = none) (hc : covers l o = true) (hg : guardIn ops l o = true) (hw : wantedL ops l o = true)
    (ho : o.op = .store t A X) (hA : evL l A = cellAt v k) (hX : evL l X = .agg us) (ht : tySize P t q = true) (hq : us.size = q) (hk : k + q ≤ m * sz) (h0 : 0 < q) (h1 : ∀ u ∈ us.toList, u.oneCell' = true) (hx : xs.take k ++ us.toList ++ xs.drop (k + q) = xs')
    (kk : ∀ a' w', Mem w0 O (L.set i (.row e sz v m xs')) Φ w' → Env l n a' → wpList P ops Q rest a' w') : wpList P ops Q (o :: rest) a w := by
  subst hx hq
  have hr := M.ent i hL
  obtain ⟨hlen, hh⟩ := hr
  rcases hh with ⟨rfl, rfl⟩ | ⟨g, cap, cur, rfl, h0', hgg, hnc, hcm, hcs, htk⟩
  · omega
  · have hA' : evL l A = .pointer (some ⟨g, k, none⟩) := by rw [hA, cellAt, add_plain, Nat.zero_add]
    have hmc : m * sz ≤ cap * sz := Nat.mul_le_mul_right _ hnc
    have hrun := run_storeN (P := P) (w := w) ho hA' hX ht hgg (by omega) h1
    have hl2 : (cur.toList.take k ++ us.toList ++ cur.toList.drop (k + us.size)).length = cap * sz := by
      simp only [List.length_append, List.length_take, List.length_drop, Array.length_toList, hcs]; omega
    have hxl : xs.length = m * sz := hlen
    refine seq_skip E hc hg hw (by rw [hd]; rfl) hrun fun a' E' => kk a' _ (M.change hL _ (Ch.setRow (by simp [Ent.row, Value.ownBlock])) ⟨?_, .inr ⟨g, cap, _, rfl, h0', setRow_heap w g cur _ e _ hgg, hnc, hcm, ?_, ?_⟩⟩ fun k' hk' => ?_) ?_
    · simp only [List.length_append, List.length_take, List.length_drop, Array.length_toList, hxl]; omega
    · rw [List.size_toArray]; exact hl2
    · have e1 : cur.toList = xs ++ cur.toList.drop (m * sz) := by
        rw [← htk, List.take_append_drop]
      show List.take (m * sz) (cur.toList.take k ++ us.toList ++ cur.toList.drop (k + us.size)) = _
      have e2 : cur.toList.take k = xs.take k := by
        rw [e1, List.take_append_of_le_length (by omega)]
      have e3 : cur.toList.drop (k + us.size) = xs.drop (k + us.size) ++ cur.toList.drop (m * sz) := by
        rw [e1, List.drop_append_of_le_length (by omega), ← e1]
      rw [e2, e3, ← List.append_assoc]
      exact List.take_left' (by simp only [List.length_append, List.length_take, List.length_drop, Array.length_toList, hxl]; omega)
    · have := M.lt _ (List.mem_of_getElem? hL) k' (by simpa [Ent.row] using hk')
      exact ⟨by simpa using this, .inl (by simpa [Ent.row] using hk')⟩
    · rw [hd] at E'
      exact E'
/-- A record is stored. -/
theorem ssetRec {i k : Nat} {t e : TypeId} {A X : Operand} {v : Value} {r : Rec} {xs : List Rec} (E : Env l n a) (M : Mem w0 O L Φ w) (hL : L[i]? = some (.recs e v xs)) (hd : o.dst = none) (hc : covers l o = true) (hg : guardIn ops l o = true) (hw : wantedL ops l o = true)
    (ho : o.op = .store t A X) (hA : evL l A = cellAt v (k * 136)) (hX : evL l X = r.val) (ht : tySize P t 136 = true) (hk : k < xs.length) (hr : r.Ok) (hx : Oks xs)
    (kk : ∀ a' w', Mem w0 O (L.set i (.recs e v (xs.set k r))) Φ w' → Env l n a' → wpList P ops Q rest a' w') : wpList P ops Q (o :: rest) a w := by
  refine ssetN (xs' := rcs (xs.set k r)) E M hL hd hc hg hw ho hA hX ht (Rec.size hr) (by omega) (by decide) (fun u hu => Rec.ones _ u hu) (rcs_set hx hk r) fun a' w' M' E' => kk a' w' ?_ E'
  have e : (xs.set k r).length = xs.length := List.length_set ..
  unfold Ent.recs
  rw [e]
  exact M'
/-- Records are put behind. -/
theorem sappRec {d : Tmp} {i bytes : Nat} {t tx e e' : TypeId} {X Y : Operand} {v x : Value} {xs news : List Rec} {args : List Operand} {ts : List TypeId} (E : Env l n a) (M : Mem w0 O L Φ w) (hL : L[i]? = some (.recs e v xs)) (hd : o.dst = some d) (hn : Nat.blt d n = true) (hc : covers l o = true) (hg : guardIn ops l o = true) (hw : wantedL ops l o = true)
    (ho : o.op = .call { callee := .builtin .append, args := args.toArray, argTypes := ts.toArray }) (ha : args = [X, Y]) (hts : ts = [t, tx]) (hX : evL l X = v) (hY : evL l Y = x) (ht : tySlice P t e = true) (htx : tySlice P tx e' = true) (hz : tyZero P e 136 = true) (hb : tyBytes' P e bytes = true) (hr : Recs w x news) (hmax : (xs.length + news.length) * (bytes + 1) ≤ 140737488355328)
    (kk : ∀ v' a' w', Mem w0 O (L.set i (.recs e v' (xs ++ news))) Φ w' → Env ((d, v') :: l) n a' → wpList P ops Q rest a' w') : wpList P ops Q (o :: rest) a w := by
  refine sapp E M hL hd hn hc hg hw ho ha hts hX hY ht htx hz hb (by decide) hr (fun u hu => ?_) hmax fun v' a' w' M' E' => kk v' a' w' (M'.as ?_) E'
  · obtain ⟨c, hc1, hc2⟩ := List.mem_flatten.1 hu
    obtain ⟨r, _, rfl⟩ := List.mem_map.1 hc1
    exact Rec.ones r u (by simpa using hc2)
  · unfold Ent.recs
    rw [rcs_append, List.length_append]
theorem zero_run {P : Program} {w : World} {e : TypeId} {z : Value} (h : zeroOf P e = some z) : (zeroValue e).run P w = .ok z w := by
  unfold zeroOf at h
  cases hi : P.info? e with
  | none => rw [hi] at h; cases h
  | some i =>
    rw [hi] at h
    have h : i.zero = some z := h
    simp [zeroValue, typeInfo, hi, h]
/-- A slice's end is cleared: its begin stays. -/
theorem sclear {i k m sz : Nat} {t e e' : TypeId} {X : Operand} {v z : Value} {xs : List Value} {args : List Operand} {ts : List TypeId} (E : Env l n a) (M : Mem w0 O L Φ w) (hL : L[i]? = some (.row e sz v m xs)) (hd : o.dst = none) (hc : covers l o = true) (hg : guardIn ops l o = true) (hw : wantedL ops l o = true)
    (ho : o.op = .call { callee := .builtin .clear, args := args.toArray, argTypes := ts.toArray }) (ha : args = [X]) (hts : ts = [t]) (hX : evL l X = cutV sz v k m) (hk : k ≤ m) (ht : tySlice P t e' = true) (hz : zeroOf P e' = some z) (hzs : z.cells.size = sz) (h0 : 0 < sz) (h1 : ∀ u ∈ z.cells.toList, u.oneCell' = true)
    (kk : ∀ xs' a' w', xs'.length = m * sz → xs'.take (k * sz) = xs.take (k * sz) → Mem w0 O (L.set i (.row e sz v m xs')) Φ w' → Env l n a' → wpList P ops Q rest a' w') : wpList P ops Q (o :: rest) a w := by
  subst ha hts
  have hr := M.ent i hL
  have hfit : L.set i (.row e sz v m xs) = L := by
    have hi : i < L.length := (List.getElem?_eq_some_iff.1 hL).1
    have : L[i] = .row e sz v m xs := (List.getElem?_eq_some_iff.1 hL).2
    rw [← this, List.set_getElem_self]
  obtain ⟨hlen, hh⟩ := hr
  have hsame : (∃ b c, evL l X = .slice b 0 c) → wpList P ops Q (o :: rest) a w := fun ⟨b, c, e1⟩ => by
    have hrun : (execOp (evL l) o).run P w = .ok (.value (.tuple #[])) w := by
      cases b <;> simp [execOp, ho, resolve, invoke, builtin, e1, Builtin.clear_, run_underlying (slice_und ht)]
    refine seq_val E hc hg hw (by rw [hd]; rfl) hrun fun a' E' => kk xs a' w hlen rfl (hfit.symm ▸ M) ?_
    rw [hd] at E'
    exact E'
  rcases hh with ⟨rfl, rfl⟩ | ⟨g, cap, cur, rfl, h0', hgg, hnc, hcm, hcs, htk⟩
  · obtain rfl : k = 0 := by omega
    exact hsame ⟨_, _, hX⟩
  · by_cases hkm : k = m
    · subst hkm
      refine hsame ⟨if cap = k then some ⟨g, 0, none⟩ else (some (⟨g, 0, none⟩ : Addr)).map (·.add (k * sz)), cap - k, hX.trans ?_⟩
      show Value.slice _ (k - k) _ = _
      rw [Nat.sub_self]
    · have hmc : m * sz ≤ cap * sz := Nat.mul_le_mul_right _ hnc
      have hkz : k * sz ≤ m * sz := Nat.mul_le_mul_right _ hk
      have hX' : evL l X = .slice (some ⟨g, k * sz, none⟩) (m - k) (cap - k) := by
        rw [hX]
        show Value.slice (if cap = k then _ else _) _ _ = _
        rw [if_neg (by omega)]
        simp [add_plain]
      obtain ⟨N, hN⟩ : ∃ N, m - k = N + 1 := ⟨m - k - 1, by omega⟩
      have hlen' : (Builtin.zeroCells z.cells (m - k)).toList.length = (m - k) * sz := by simp [Builtin.zeroCells, hzs]
      have hone : ∀ u ∈ (Builtin.zeroCells z.cells (m - k)).toList, u.oneCell' = true := fun u hu => by
        obtain ⟨j, hj⟩ := List.getElem?_of_mem hu
        have hjl : j < (m - k) * sz := by have := (List.getElem?_eq_some_iff.1 hj).1; rwa [hlen'] at this
        have hm : j % sz < sz := Nat.mod_lt _ h0
        simp only [Builtin.zeroCells, Array.toList_map, List.getElem?_map, Array.toList_range, hzs, List.getElem?_range hjl, Option.map_some, Option.some.injEq] at hj
        rw [getElem!_pos z.cells _ (by omega)] at hj
        rw [← hj]
        exact h1 _ (by simp)
      have hsum : k * sz + (m - k) * sz = m * sz := by rw [← Nat.add_mul]; congr 1; omega
      have hst := run_storeCells_at P g (k * sz) e (Builtin.zeroCells z.cells (m - k)).toList 0 cur w hgg (by rw [hlen']; omega) hone
      rw [Nat.add_zero, hlen', hsum] at hst
      have hrun : (execOp (evL l) o).run P w = .ok (.value (.tuple #[])) (w.setRow g (cur.toList.take (k * sz) ++ (Builtin.zeroCells z.cells (m - k)).toList ++ cur.toList.drop (m * sz)).toArray) := by
        rw [hN] at hX' hst ⊢
        simp [execOp, ho, resolve, invoke, builtin, hX', Builtin.clear_, run_underlying (slice_und ht), zero_run hz, hst]
      have hlc : cur.toList.length = cap * sz := by simpa using hcs
      refine seq_val E hc hg hw (by rw [hd]; rfl) hrun fun a' E' => kk (xs.take (k * sz) ++ (Builtin.zeroCells z.cells (m - k)).toList) a' _ ?_ ?_ (M.change hL _ (Ch.setRow (by simp [Ent.row, Value.ownBlock])) ⟨?_, .inr ⟨g, cap, _, rfl, h0', setRow_heap w g cur _ e _ hgg, hnc, hcm, ?_, ?_⟩⟩ fun k' hk' => ?_) ?_
      · rw [List.length_append, hlen', List.length_take, hlen]; omega
      · rw [List.take_append_of_le_length (by rw [List.length_take, hlen]; omega), List.take_take, Nat.min_self]
      · rw [List.length_append, hlen', List.length_take, hlen]; omega
      · rw [List.size_toArray, List.length_append, List.length_append, hlen', List.length_take, List.length_drop, hlc]; omega
      · show List.take (m * sz) (cur.toList.take (k * sz) ++ (Builtin.zeroCells z.cells (m - k)).toList ++ cur.toList.drop (m * sz)) = _
        have e2 : cur.toList.take (k * sz) = xs.take (k * sz) := by rw [← htk, List.take_take, Nat.min_eq_left hkz]
        rw [e2]
        exact List.take_left' (by rw [List.length_append, hlen', List.length_take, hlen]; omega)
      · have := M.lt _ (List.mem_of_getElem? hL) k' (by simpa [Ent.row] using hk')
        exact ⟨by simpa using this, .inl (by simpa [Ent.row] using hk')⟩
      · rw [hd] at E'
        exact E'
end
end Go.Rill
end
section
namespace Go.Rill
set_option linter.unusedVariables false
set_option linter.unusedSimpArgs false
open Go.RowKit Go.ChangeShapes Go.WideShapes
section
variable {H : Type} {enc : TypeId × Value → H} {P : Program} {W : World} {base b0 : Nat} {spare : Nat → Bool} {held : Bool} {r : Reach} {t e : TypeId} {v : Value}
end
end Go.Rill
end
section
namespace Go.Rill
set_option linter.unusedVariables false
set_option linter.unusedSimpArgs false
open Go.RowKit Go.ChangeShapes Go.WideShapes
section
variable {H : Type} {enc : TypeId × Value → H} {P : Program} {W : World} {base b0 : Nat} {spare : Nat → Bool} {held : Bool} {r : Reach} {t e : TypeId} {v : Value}
def StampIn (r : Rec) : Prop := -9223372036854775808 ≤ r.stamp ∧ r.stamp ≤ 9223372036854775807
end
end Go.Rill
end
section
namespace Go.Rill
set_option linter.unusedVariables false
set_option linter.unusedSimpArgs false
open Go.RowKit
open Go.ChangeMaps (setBlock)
section
variable {P : Program} {ρ : Operand → Value} {o : Oper} {w : World} {t k e : TypeId} {g gi clock : Nat} {es : List IE} {seen : Array Nat} {X : Operand}
theorem run_min2 {A B : Operand} {q : IntKind} {x y : Int} {args : List Operand} {ts : Array TypeId} (ho : o.op = .call { callee := .builtin .min, args := args.toArray, argTypes := ts }) (ha : args = [A, B]) (hA : ρ A = .int q x) (hB : ρ B = .int q y) :
    (execOp ρ o).run P w = .ok (.value (.int q (if y < x then y else x))) w := by
  subst ha
  have := run_min_int2 (P := P) (w := w) ts o.type q q x y
  simp [execOp, ho, resolve, invoke, builtin, hA, hB, this]
theorem run_makeFunc1 {F : Fn} {v : Value} (ho : o.op = .makeFunc F #[] #[X]) (hX : ρ X = v) : (execOp ρ o).run P w = .ok (.value (.func F #[] #[v])) w := by
  subst hX
  simp [execOp, ho, Instr.makeFunc]
theorem run_rangeI (ho : o.op = .range t X) (hX : ρ X = .map (some g)) (ht : tyMap P t k e = true) (hg : w.heap[g]? = some (.map (imap es) clock)) :
    (execOp ρ o).run P w = .ok (.value (.pointer (some ⟨w.heap.size, 0, none⟩))) (w.alloc (.mapIter (some g) clock #[] clock)) := by
  have := run_range_map w t k e g (imap es) clock (map_und ht).1 hg
  simp [execOp, ho, hX, this]
theorem imap_mem {x : MapEntry} (h : x ∈ (imap es).toList) : ∃ a ∈ es, x = { key := .int .i64 a.key, val := a.val, born := a.born } := by
  simp only [imap, List.mem_map] at h
  obtain ⟨a, h1, h2⟩ := h
  exact ⟨a, h1, h2.symm⟩
theorem imap_has {a : IE} (h : a ∈ es) : ({ key := .int .i64 a.key, val := a.val, born := a.born } : MapEntry) ∈ (imap es).toList := by
  simp only [imap, List.mem_map]
  exact ⟨a, h, rfl⟩
theorem imap_born : (imap es).toList.map (·.born) = es.map (·.born) := by
  simp [imap, Function.comp_def]
theorem run_nextNo (ho : o.op = .next X false) (hX : ρ X = .pointer (some ⟨gi, 0, none⟩)) (hi : w.heap[gi]? = some (.mapIter (some g) clock seen clock)) (hg : w.heap[g]? = some (.map (imap es) clock)) (hold : ∀ a ∈ es, a.born < clock) (h0 : (leftOf (imap es) seen).size = 0) :
    (execOp ρ o).run P w = .ok (.value (.tuple #[.bool false])) w := by
  have h := run_next_at (P := P) w o.type gi g clock clock seen (imap es) clock hi hg (fun x hx => by obtain ⟨a, ha, rfl⟩ := imap_mem hx; exact hold a ha) (Nat.le_refl _)
  rcases h with ⟨_, h⟩ | ⟨x, hx, _⟩
  · simp [execOp, ho, hX, h]
  · have : (leftOf (imap es) seen) = #[] := Array.eq_empty_of_size_eq_zero h0
    rw [this] at hx
    simp at hx
theorem run_entryI {a : IE} (ho : o.op = .entry X) (hX : ρ X = .pointer (some ⟨gi, 0, none⟩)) (hi : w.heap[gi]? = some (.mapIter (some g) clock (seen.push a.born) clock)) (hg : w.heap[g]? = some (.map (imap es) clock)) (ha : a ∈ es) (hn : (es.map (·.born)).Nodup) :
    (execOp ρ o).run P w = .ok (.value (.tuple #[.int .i64 a.key, a.val])) w := by
  have h := run_entry_at (P := P) w gi g clock seen (imap es) clock _ hi hg (imap_has ha) (by rw [imap_born]; exact hn)
  simp [execOp, ho, hX, h]
theorem run_clearI {args : List Operand} {ts : List TypeId} (ho : o.op = .call { callee := .builtin .clear, args := args.toArray, argTypes := ts.toArray }) (ha : args = [X]) (hts : ts = [t]) (hX : ρ X = .map (some g)) (ht : tyMap P t k e = true) (hg : w.heap[g]? = some (.map (imap es) clock)) :
    (execOp ρ o).run P w = .ok (.value (.tuple #[])) { w with heap := w.heap.setIfInBounds g (.map (imap []) clock) } := by
  subst ha hts
  have hgo : (getObj g).run P w = .ok (.map (imap es) clock) w := by simp [getObj, Sem.run, hg]
  have hso : ∀ o', (setObj g o').run P w = .ok () { w with heap := w.heap.setIfInBounds g o' } := fun o' => by simp [setObj, Sem.run, hg]
  have : (Builtin.clear_ #[t] o.type #[.map (some g)]).run P w = .ok (.tuple #[]) { w with heap := w.heap.setIfInBounds g (.map #[] clock) } := by
    simp [Builtin.clear_, run_underlying (map_und ht).1, hgo, hso, Result.andThen]
  simp [execOp, ho, resolve, invoke, builtin, hX, this, imap]
end
section
variable {P : Program} {ops : Array Oper} {Q : Exit → Act → World → Prop} {l : List (Nat × Value)} {n : Nat} {a : Act} {w w' w0 : World} {rest : List Oper} {o : Oper} {O : Nat → Prop} {L R : List Ent} {Φ : World → Prop}
/-- The next of those that are left, whichever it is. -/
theorem snext {i j g gi clock : Nat} {es : List IE} {seen : Array Nat} {X : Operand} {d : Tmp} (E : Env l n a) (M : Mem w0 O L Φ w) (hi : L[i]? = some (.blk gi (.mapIter (some g) clock seen clock))) (hj : L[j]? = some (.blk g (.map (imap es) clock)))
    (hd : o.dst = some d) (hn : Nat.blt d n = true) (hc : covers l o = true) (hg : guardIn ops l o = true) (hw : wantedL ops l o = true)
    (ho : o.op = .next X false) (hX : evL l X = .pointer (some ⟨gi, 0, none⟩)) (hold : ∀ e ∈ es, e.born < clock) (h0 : (leftOf (imap es) seen).size ≠ 0)
    (kk : ∀ e ∈ es, seen.contains e.born = false → (leftOf (imap es) (seen.push e.born)).size < (leftOf (imap es) seen).size → ∀ a' w', Mem w0 O (L.set i (.blk gi (.mapIter (some g) clock (seen.push e.born) clock))) Φ w' → Env ((d, .tuple #[.bool true, .int .i64 e.key, e.val]) :: l) n a' → wpList P ops Q rest a' w') :
    wpList P ops Q (o :: rest) a w := by
  have h := run_next_at (P := P) w o.type gi g clock clock seen (imap es) clock (M.ent i hi) (M.ent j hj) (fun x hx => by obtain ⟨a, ha, rfl⟩ := imap_mem hx; exact hold a ha) (Nat.le_refl _)
  rcases h with ⟨h, _⟩ | ⟨x, hx, w1, hw1, h⟩
  · exact absurd h h0
  · have hl := left_shrinks _ _ x hx
    obtain ⟨hx1, hx2⟩ := mem_left hx
    obtain ⟨b, hb, rfl⟩ := imap_mem hx1
    have M1 : Mem w0 O L Φ w1 := by
      rcases hw1 with rfl | rfl
      · exact M
      · exact M.ext (Ext.drew w)
    exact sv E hd hn hc hg hw (v := .tuple #[.bool true, .int .i64 b.key, b.val]) (w' := setBlock w1 gi (.mapIter (some g) clock (seen.push b.born) clock)) (by simp [execOp, ho, hX, h]) fun a' E' => kk b hb hx2 hl a' _ (M1.setObj hi) E'
theorem cond_cfalse {c d : Code} (h : d.wp P Q a w) : (Code.cond (.const (.bool false)) c d).wp P Q a w := wp_cond_false rfl h
/-- clear. -/
theorem smclear {i g clock : Nat} {es : List IE} {t k e : TypeId} {X : Operand} {args : List Operand} {ts : List TypeId} (E : Env l n a) (M : Mem w0 O L Φ w) (hi : L[i]? = some (.blk g (.map (imap es) clock))) (hd : o.dst = none) (hc : covers l o = true) (hg : guardIn ops l o = true) (hw : wantedL ops l o = true)
    (ho : o.op = .call { callee := .builtin .clear, args := args.toArray, argTypes := ts.toArray }) (ha : args = [X]) (hts : ts = [t]) (hX : evL l X = .map (some g)) (ht : tyMap P t k e = true)
    (kk : ∀ a' w', Mem w0 O (L.set i (.blk g (.map (imap []) clock))) Φ w' → Env l n a' → wpList P ops Q rest a' w') : wpList P ops Q (o :: rest) a w := by
  refine seq_val E hc hg hw (by rw [hd]; rfl) (run_clearI ho ha hts hX ht (M.ent i hi)) fun a' E' => kk a' _ (M.setObj hi) ?_
  rw [hd] at E'
  exact E'
end
/-! What a range has written so far. -/
theorem find_congr' {α : Type} {p q : α → Bool} : ∀ {l : List α}, (∀ x ∈ l, p x = q x) → l.find? p = l.find? q
  | [], _ => rfl
  | a :: r, h => by rw [List.find?_cons, List.find?_cons, h a (List.mem_cons_self ..), find_congr' fun x hx => h x (List.mem_cons_of_mem _ hx)]
def syn (es : List IE) (seen : Array Nat) (vs : List Value) : List Value := vs.mapIdx fun j v => match es.find? (fun e => decide (e.key = (j : Int)) && seen.contains e.born) with | some e => e.val | none => v
theorem syn_none (es : List IE) (vs : List Value) : syn es #[] vs = vs := by
  unfold syn
  have : (fun (j : Nat) (v : Value) => match es.find? (fun e => decide (e.key = (j : Int)) && (#[] : Array Nat).contains e.born) with | some e => e.val | none => v) = fun j v => v := by
    funext j v
    have : es.find? (fun e => decide (e.key = (j : Int)) && (#[] : Array Nat).contains e.born) = none := by simp
    rw [this]
  rw [this]
  exact List.ext_getElem (by simp) fun j h1 h2 => by simp
theorem syn_step {es : List IE} {seen : Array Nat} {vs : List Value} {a : IE} (ha : a ∈ es) (hk : (es.map (·.key)).Nodup) (hb : (es.map (·.born)).Nodup) {i : Nat} (hi : a.key = (i : Int)) : (syn es seen vs).set i a.val = syn es (seen.push a.born) vs := by
  apply List.ext_getElem? 
  intro j
  have inj : ∀ (f : IE → Int), (es.map f).Nodup → ∀ x ∈ es, ∀ y ∈ es, f x = f y → x = y := fun f hf x hx y hy h => by
    obtain ⟨m, hm, rfl⟩ := List.getElem_of_mem hx
    obtain ⟨n, hn, rfl⟩ := List.getElem_of_mem hy
    have := (List.getElem_inj (xs := es.map f) (h₀ := by simpa using hm) (h₁ := by simpa using hn) hf).1 (by simpa using h)
    subst this
    rfl
  have injb : ∀ x ∈ es, ∀ y ∈ es, x.born = y.born → x = y := fun x hx y hy h => by
    obtain ⟨m, hm, rfl⟩ := List.getElem_of_mem hx
    obtain ⟨n, hn, rfl⟩ := List.getElem_of_mem hy
    have := (List.getElem_inj (xs := es.map (·.born)) (h₀ := by simpa using hm) (h₁ := by simpa using hn) hb).1 (by simpa using h)
    subst this
    rfl
  unfold syn
  rw [List.getElem?_set]
  simp only [List.getElem?_mapIdx]
  by_cases hj : i = j
  · subst hj
    rw [if_pos rfl]
    cases hv : vs[i]? with
    | none => 
      have : ¬ i < vs.length := by simpa using hv
      simp [this]
    | some v =>
      have hlt : i < vs.length := (List.getElem?_eq_some_iff.1 hv).1
      have : es.find? (fun e => decide (e.key = (i : Int)) && (seen.push a.born).contains e.born) = some a := by
        cases hf : es.find? (fun e => decide (e.key = (i : Int)) && (seen.push a.born).contains e.born) with
        | none =>
          have := List.find?_eq_none.1 hf a ha
          simp [hi] at this
        | some x =>
          have h1 := List.find?_some hf
          simp only [Bool.and_eq_true, decide_eq_true_eq] at h1
          rw [inj (·.key) hk x (List.mem_of_find?_eq_some hf) a ha (h1.1.trans hi.symm)]
      rw [this]
      simp [hlt]
  · rw [if_neg hj]
    congr 1
    funext v
    have : es.find? (fun e => decide (e.key = (j : Int)) && (seen.push a.born).contains e.born) = es.find? (fun e => decide (e.key = (j : Int)) && seen.contains e.born) := by
      refine find_congr' fun x hx => ?_
      by_cases h : x.key = (j : Int)
      · have hne : x.born ≠ a.born := fun c => hj (by have := injb x hx a ha c; subst this; omega)
        rw [contains_push, show (x.born == a.born) = false by simpa using hne, Bool.or_false]
      · simp [h]
    rw [this]
theorem syn_all {es : List IE} {seen : Array Nat} {vs : List Value} (h : ∀ e ∈ es, seen.contains e.born = true) : syn es seen vs = vs.mapIdx fun j v => (iget es (j : Int)).getD v := by
  unfold syn
  congr 1
  funext j v
  have : es.find? (fun e => decide (e.key = (j : Int)) && seen.contains e.born) = es.find? (fun e => decide (e.key = (j : Int))) := find_congr' fun x hx => by rw [h x hx, Bool.and_true]
  rw [this]
  have hg : ∀ (es : List IE) (i : Nat), (iat (j : Int) es i).map (·.2) = (es.find? (fun e => decide (e.key = (j : Int)))).map (·.val) := by
    intro es
    induction es with
    | nil => intro i; rfl
    | cons e r ih =>
      intro i
      unfold iat
      by_cases h : (j : Int) = e.key
      · rw [if_pos h]; simp [h]
      · rw [if_neg h, ih, List.find?_cons, show decide (e.key = (j : Int)) = false by simpa using fun c => h c.symm]
  unfold iget
  rw [hg es 0]
  cases es.find? (fun e => decide (e.key = (j : Int))) <;> rfl
end Go.Rill
end
section
namespace Go.Rill
set_option linter.unusedVariables false
set_option linter.unusedSimpArgs false
open Go.RowKit Go.ChangeShapes Go.WideShapes
section
variable {H : Type} {enc : TypeId × Value → H} {P : Program} {W : World} {base b0 : Nat} {spare : Nat → Bool} {held : Bool} {r : Reach} {t e : TypeId} {v : Value}
/-- Any numbers that are handed in read as numbers. -/
theorem ints_arg {d : DataW H} {p : List MemPlace} (ht : P.underlying t = some (.slice e)) (he : P.underlying e = some (.int .i64)) (hc : P.cellsOf e = 1) (hval : Value.okWide P W r b0 t v) (h : DataW.Trod enc P W base (fun _ => true) held t v d p) : ∃ l : List Int, Reads 1 W v l.length (ic l) := by
  have hval' := hval
  obtain ⟨a, len, cap, rfl⟩ := okWide_slice ht hval
  obtain ⟨fuel, hf⟩ := h
  rcases open_ints ht he hc hf with ⟨hcs, _⟩ | ⟨x, l, c, zs, hcs, _, hl, hm, hz, _, hcell, hwz⟩
  · simp [Value.cells] at hcs
    obtain ⟨rfl, rfl, rfl⟩ := hcs
    exact ⟨[], Reads.nil _ _⟩
  · simp [Value.cells] at hcs
    obtain ⟨rfl, rfl, rfl⟩ := hcs
    have hcl : Cell.ok P W r b0 t (.slice (some x) len cap) := by
      unfold Value.okWide at hval'
      rw [ht] at hval'
      simp only at hval'
      unfold Cell.okWide at hval'
      rw [ht] at hval'
      exact hval'
    unfold Cell.ok at hcl
    rw [ht] at hcl
    obtain ⟨_, _, _, hs, row, cells, hsh, _⟩ := hcl
    obtain ⟨g, off, spot⟩ := x
    have hs : spot = none := hs
    subst hs
    have hg : g < W.heap.size := by
      unfold World.shape? at hsh
      cases hh : W.heap[g]? with
      | none => rw [hh] at hsh; cases hsh
      | some o => exact (Array.getElem?_eq_some_iff.1 hh).1
    have hzl : zs.length = cap := by simpa using hz
    have hll : (zs.take len).length = len := by simp; omega
    refine ⟨zs.take len, by simp [ic], .inr ⟨g, off, cap, by rw [hll], by omega, hm, hg, fun j u hu => ?_⟩⟩
    unfold ic at hu
    rw [List.getElem?_map] at hu
    cases hj : (zs.take len)[j]? with
    | none => rw [hj] at hu; cases hu
    | some n =>
      rw [hj] at hu
      simp only [Option.map_some, Option.some.injEq] at hu
      have hjl := (List.getElem?_eq_some_iff.1 hj).1
      have hjz : j < zs.length := by simp at hjl; omega
      have hn : zs[j]? = some n := by
        rw [List.getElem?_take] at hj
        split at hj
        · exact hj
        · cases hj
      have := hcell j hjz
      rw [add_plain, List.getD_eq_getElem?_getD, hn] at this
      rw [this, ← hu]
      rfl
end
end Go.Rill
end
