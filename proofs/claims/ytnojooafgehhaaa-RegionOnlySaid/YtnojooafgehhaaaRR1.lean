/- Slices of records; items of several cells stored into a slice of the call's own; a slice's end cleared. Of whatever program. -/
import Derived.Test.YtnojooafgehhaaaRR
import Derived.WalkKit
import Derived.ChangeSlices
import Derived.OpenShut
import Derived.WideShapes
import Derived.Lib.SmallJoins
import Derived.Maps.RangeRun
import Derived.Test.YtnojooafgehhaaaProg
import Derived.Shelf.SlLaysM
import Derived.Shelf.SlLaysZI
section
namespace Go.Rill
set_option linter.unusedVariables false
set_option linter.unusedSimpArgs false
open Go.RowKit
def rcs (l : List Rec) : List Value := (l.map Rec.cells).flatten
def Oks (l : List Rec) : Prop := ∀ r ∈ l, r.Ok
@[simp] theorem rcs_nil : rcs [] = [] := rfl
theorem rcs_cons (r : Rec) (l : List Rec) : rcs (r :: l) = r.cells ++ rcs l := by simp [rcs]
theorem rcs_append (a b : List Rec) : rcs (a ++ b) = rcs a ++ rcs b := by simp [rcs]
theorem Oks.sub {a b : List Rec} (h : Oks b) (s : ∀ r ∈ a, r ∈ b) : Oks a := fun r hr => h r (s r hr)
theorem Oks.take {l : List Rec} (h : Oks l) (k : Nat) : Oks (l.take k) := fun r hr => h r (List.mem_of_mem_take hr)
theorem Oks.drop {l : List Rec} (h : Oks l) (k : Nat) : Oks (l.drop k) := fun r hr => h r (List.mem_of_mem_drop hr)
theorem Oks.set {l : List Rec} (h : Oks l) {k : Nat} {r : Rec} (hr : r.Ok) : Oks (l.set k r) := fun x hx => by
  rcases List.mem_or_eq_of_mem_set hx with h1 | rfl
  · exact h x h1
  · exact hr
theorem Oks.get {l : List Rec} (h : Oks l) {k : Nat} (hk : k < l.length) : (l[k]).Ok := h _ (List.getElem_mem hk)
theorem rcs_len {l : List Rec} (h : Oks l) : (rcs l).length = l.length * 136 := by
  induction l with
  | nil => rfl
  | cons r l ih => rw [rcs_cons, List.length_append, Rec.len (h r (List.mem_cons_self ..)), ih fun x hx => h x (List.mem_cons_of_mem _ hx), List.length_cons]; omega
theorem rcs_take {l : List Rec} (h : Oks l) {k : Nat} (hk : k ≤ l.length) : (rcs l).take (k * 136) = rcs (l.take k) := by
  have e : rcs l = rcs (l.take k) ++ rcs (l.drop k) := by rw [← rcs_append, List.take_append_drop]
  rw [e]
  exact List.take_left' (by rw [rcs_len (h.take k), List.length_take, Nat.min_eq_left hk])
theorem rcs_drop {l : List Rec} (h : Oks l) {k : Nat} (hk : k ≤ l.length) : (rcs l).drop (k * 136) = rcs (l.drop k) := by
  have e : rcs l = rcs (l.take k) ++ rcs (l.drop k) := by rw [← rcs_append, List.take_append_drop]
  rw [e]
  exact List.drop_left' (by rw [rcs_len (h.take k), List.length_take, Nat.min_eq_left hk])
theorem rcs_get {l : List Rec} (h : Oks l) {k : Nat} (hk : k < l.length) : ((rcs l).drop (k * 136)).take 136 = (l[k]).cells := by
  rw [rcs_drop h (Nat.le_of_lt hk), List.drop_eq_getElem_cons hk, rcs_cons]
  exact List.take_left' (Rec.len (h.get hk))
theorem rcs_at {l : List Rec} (h : Oks l) {k j : Nat} (hk : k < l.length) (hj : j < 136) : (rcs l)[k * 136 + j]? = (l[k]).cells[j]? := by
  rw [← rcs_get h hk, List.getElem?_take_of_lt hj, List.getElem?_drop]
theorem rcs_set {l : List Rec} (h : Oks l) {k : Nat} (hk : k < l.length) (r : Rec) : (rcs l).take (k * 136) ++ r.cells ++ (rcs l).drop (k * 136 + 136) = rcs (l.set k r) := by
  rw [rcs_take h (Nat.le_of_lt hk), show k * 136 + 136 = (k + 1) * 136 by omega, rcs_drop h hk, List.set_eq_take_append_cons_drop, if_pos hk, rcs_append, rcs_cons, List.append_assoc]
/-- What a slice of records reads as. -/
abbrev Recs (w : World) (v : Value) (l : List Rec) : Prop := Reads 136 w v l.length (rcs l)
theorem Recs.held0 {w w' : World} {v : Value} {l : List Rec} (h : Recs w v l) (H : Held (feet []) w w') : Recs w' v l := Reads.held0 h H
theorem Recs.nil (w : World) : Recs w (.slice none 0 0) [] := Reads.nil 136 w
theorem Recs.pre {w : World} {v : Value} {l : List Rec} {k : Nat} (h : Recs w v l) (ho : Oks l) (hk : k ≤ l.length) : Recs w (cutV 136 v 0 k) (l.take k) := by
  have := Reads.cut h (Nat.zero_le k) hk
  simp only [Nat.zero_mul, List.drop_zero, Nat.sub_zero] at this
  rw [rcs_take ho hk] at this
  unfold Recs
  rwa [List.length_take, Nat.min_eq_left hk]
theorem Recs.as {w : World} {v : Value} {l k : List Rec} (h : Recs w v l) (e : l = k) : Recs w v k := e ▸ h
abbrev Ent.recs (e : TypeId) (v : Value) (l : List Rec) : Ent := .row e 136 v l.length (rcs l)
/-- A part of a block, of the call's own, that reads as cells. -/
def Ent.part (sz : Nat) (v : Value) (n : Nat) (xs : List Value) : Ent := ⟨v.ownBlock.toList, fun w => Reads sz w v n xs, fun w w' h k => by
  refine ⟨k.1, ?_⟩
  rcases k.2 with h2 | ⟨g, off, cap, rfl, h3, h4, h5, h6⟩
  · exact .inl h2
  · have hb := h g (by simp [Value.ownBlock])
    refine .inr ⟨g, off, cap, rfl, h3, h4, ?_, fun j u hu => (World.cell?_of_block (w := w) hb).trans (h6 j u hu)⟩
    have h7 : (w.heap[g]?).isSome = true := by simp [h5]
    rw [← hb] at h7
    simpa using h7⟩
abbrev Ent.subr (v : Value) (l : List Rec) : Ent := .part 136 v l.length (rcs l)
/-- A call of a closure. -/
theorem run_callC {P : Program} {ρ : Operand → Value} {o : Oper} {w : World} {x : Operand} {args : List Operand} {ts : Array TypeId} {f : FuncId} {cs : List Value} (ho : o.op = .call { callee := .value x, args := args.toArray, argTypes := ts }) (hx : ρ x = .func (.func f) #[] cs.toArray) (hf : goFn P f = true) :
    (execOp ρ o).run P w = .ok (.enter f (args.map ρ ++ cs).toArray) w := by
  unfold goFn at hf
  cases h : P.funcs[f]? with
  | none => rw [h] at hf; cases hf
  | some fn =>
    rw [h] at hf
    simp only [Bool.and_eq_true, Bool.not_eq_true'] at hf
    obtain ⟨h1, h2⟩ := hf
    have h3 : ¬ fn.body = none := by cases hb : fn.body <;> simp_all
    have h4 : ¬ fn.name = "runtime.NumGoroutine" := by simpa using h2
    simp [execOp, ho, resolve, hx, Deferred.ofValue, invoke, callFunc, h, h4, h3, program, Sem.run]
section
variable {P : Program} {ops : Array Oper} {Q : Exit → Act → World → Prop} {l : List (Nat × Value)} {n : Nat} {a : Act} {w w' w0 : World} {rest : List Oper} {o : Oper} {O : Nat → Prop} {L R : List Ent} {Φ : World → Prop}
theorem Mem.parts {sz m : Nat} {v : Value} {xs : List Value} (M : Mem w0 O L Φ w) (i : Nat) (h : L[i]? = some (.part sz v m xs)) : Reads sz w v m xs := M.ent i h
theorem Mem.asPart {e : TypeId} {sz m : Nat} {v : Value} {xs : List Value} (M : Mem w0 O L Φ w) (i k : Nat) (h : L[i]? = some (.row e sz v m xs)) (hk : k ≤ m) : Mem w0 O (L.set i (.part sz (cutV sz v 0 k) k (xs.take (k * sz)))) Φ w := by
  refine M.view h _ (fun hr => ?_) fun g hg => ?_
  · have := Reads.cut (ownsRow_reads hr) (Nat.zero_le k) hk
    simp only [Nat.zero_mul, List.drop_zero, Nat.sub_zero] at this
    exact this
  · obtain ⟨b, c, hv⟩ := Reads.slice (M.reads i h)
    simp only [Ent.part] at hg
    rw [cutV_block _ _ _ _ ⟨b, _, c, hv⟩] at hg
    exact hg
theorem Mem.asWhole {e : TypeId} {sz m : Nat} {v : Value} {xs : List Value} (M : Mem w0 O L Φ w) (i : Nat) (h : L[i]? = some (.row e sz v m xs)) : Mem w0 O (L.set i (.part sz v m xs)) Φ w :=
  M.view h _ (fun hr => ownsRow_reads hr) fun g hg => hg
theorem Mem.nilRecs (M : Mem w0 O L Φ w) (e : TypeId) : Mem w0 O (.recs e (.slice none 0 0) [] :: L) Φ w :=
  M.adopt (Ext.refl w) _ (World.ownsRow_nil w 0 e 136) fun g hg => by simp [Ent.row, Value.ownBlock] at hg
theorem run_mkF {ρ : Operand → Value} {x : Operand} {f : FuncId} {v : Value} (ho : o.op = .makeFunc (.func f) #[] #[x]) (hx : ρ x = v) : (execOp ρ o).run P w = .ok (.value (.func (.func f) #[] #[v])) w := by
  simp [execOp, ho, hx, Instr.makeFunc]
/-- A field of an item of a slice. -/
theorem run_fieldAddrR {ρ : Operand → Value} {A : Operand} {s : TypeId} {f k q m sz : Nat} {v : Value} {xs : List Value} (ho : o.op = .fieldAddr s A f) (h : Reads sz w v m xs) (hA : ρ A = cellAt v q) (hf : tyFld P s f k = true) (hq : q < m * sz) : (execOp ρ o).run P w = .ok (.value (cellAt v (q + k))) w := by
  rcases h.2 with ⟨rfl, rfl⟩ | ⟨g, off, cap, rfl, _⟩
  · simp at hq
  · have hA' : ρ A = .pointer (some ⟨g, off + q, none⟩) := by rw [hA, cellAt, add_plain]
    rw [run_fieldAddr ho hA' hf, cellAt, add_plain, Nat.add_assoc]
theorem rcs_one (l : List Rec) : ∀ u ∈ rcs l, u.oneCell' = true := fun u hu => by
  obtain ⟨c, hc1, hc2⟩ := List.mem_flatten.1 hu
  obtain ⟨r, _, rfl⟩ := List.mem_map.1 hc1
  exact Rec.ones r u hc2
theorem held_at {g : Nat} {x : Obj} (hg : w.heap[g]? = some x) (h : Held (feet []) w w') : w'.heap[g]? = some x := (h.block g (Array.getElem?_eq_some_iff.1 hg).1 feet_nil).trans hg
/-- Several cells are stored into a slice of the call's own. -/
theorem ssetN {i k m sz q : Nat} {t e : TypeId} {A X : Operand} {v : Value} {us : Array Value} {xs xs' : List Value} (E : Env l n a) (M : Mem w0 O L Φ w) (hL : L[i]? = some (.row e sz v m xs)) (hd : o.dst = none) (hc : covers l o = true) (hg : guardIn ops l o = true) (hw : wantedL ops l o = true)
    (ho : o.op = .store t A X) (hA : evL l A = cellAt v k) (hX : evL l X = .agg us) (ht : tySize P t q = true) (hq : us.size = q) (hk : k + q ≤ m * sz) (h0 : 0 < q) (h1 : ∀ u ∈ us.toList, u.oneCell' = true) (hx : xs.take k ++ us.toList ++ xs.drop (k + q) = xs')
    (kk : ∀ a' w', Mem w0 O (L.set i (.row e sz v m xs')) Φ w' → Env l n a' → wpList P ops Q rest a' w') : wpList P ops Q (o :: rest) a w := by
  subst hx hq
  have hr := M.ent i hL
  obtain ⟨hlen, hh⟩ := hr
  rcases hh with ⟨rfl, rfl⟩ | ⟨g, cap, cur, rfl, h0', hgg, hnc, hcm, hcs, htk⟩
  · omega
  · have hA' : evL l A = .pointer (some ⟨g, k, none⟩) := by rw [hA, cellAt, add_plain, Nat.zero_add]
    have hmc : m * sz ≤ cap * sz := Nat.mul_le_mul_right _ hnc
    have hrun := run_storeN (P := P) (w := w) ho hA' hX ht hgg (by omega) h1
    have hl2 : (cur.toList.take k ++ us.toList ++ cur.toList.drop (k + us.size)).length = cap * sz := by
      simp only [List.length_append, List.length_take, List.length_drop, Array.length_toList, hcs]; omega
    have hxl : xs.length = m * sz := hlen
    refine seq_skip E hc hg hw (by rw [hd]; rfl) hrun fun a' E' => kk a' _ (M.change hL _ (Ch.setRow (by simp [Ent.row, Value.ownBlock])) ⟨?_, .inr ⟨g, cap, _, rfl, h0', setRow_heap w g cur _ e _ hgg, hnc, hcm, ?_, ?_⟩⟩ fun k' hk' => ?_) ?_
    · simp only [List.length_append, List.length_take, List.length_drop, Array.length_toList, hxl]; omega
    · rw [List.size_toArray]; exact hl2
    · have e1 : cur.toList = xs ++ cur.toList.drop (m * sz) := by
        rw [← htk, List.take_append_drop]
      show List.take (m * sz) (cur.toList.take k ++ us.toList ++ cur.toList.drop (k + us.size)) = _
      have e2 : cur.toList.take k = xs.take k := by
        rw [e1, List.take_append_of_le_length (by omega)]
      have e3 : cur.toList.drop (k + us.size) = xs.drop (k + us.size) ++ cur.toList.drop (m * sz) := by
        rw [e1, List.drop_append_of_le_length (by omega), ← e1]
      rw [e2, e3, ← List.append_assoc]
      exact List.take_left' (by simp only [List.length_append, List.length_take, List.length_drop, Array.length_toList, hxl]; omega)
    · have := M.lt _ (List.mem_of_getElem? hL) k' (by simpa [Ent.row] using hk')
      exact ⟨by simpa using this, .inl (by simpa [Ent.row] using hk')⟩
    · rw [hd] at E'
      exact E'
/-- A record is stored. -/
theorem ssetRec {i k : Nat} {t e : TypeId} {A X : Operand} {v : Value} {r : Rec} {xs : List Rec} (E : Env l n a) (M : Mem w0 O L Φ w) (hL : L[i]? = some (.recs e v xs)) (hd : o.dst = none) (hc : covers l o = true) (hg : guardIn ops l o = true) (hw : wantedL ops l o = true)
    (ho : o.op = .store t A X) (hA : evL l A = cellAt v (k * 136)) (hX : evL l X = r.val) (ht : tySize P t 136 = true) (hk : k < xs.length) (hr : r.Ok) (hx : Oks xs)
    (kk : ∀ a' w', Mem w0 O (L.set i (.recs e v (xs.set k r))) Φ w' → Env l n a' → wpList P ops Q rest a' w') : wpList P ops Q (o :: rest) a w := by
  refine ssetN (xs' := rcs (xs.set k r)) E M hL hd hc hg hw ho hA hX ht (Rec.size hr) (by omega) (by decide) (fun u hu => Rec.ones _ u hu) (rcs_set hx hk r) fun a' w' M' E' => kk a' w' ?_ E'
  have e : (xs.set k r).length = xs.length := List.length_set ..
  unfold Ent.recs
  rw [e]
  exact M'
/-- Records are put behind. -/
theorem sappRec {d : Tmp} {i bytes : Nat} {t tx e e' : TypeId} {X Y : Operand} {v x : Value} {xs news : List Rec} {args : List Operand} {ts : List TypeId} (E : Env l n a) (M : Mem w0 O L Φ w) (hL : L[i]? = some (.recs e v xs)) (hd : o.dst = some d) (hn : Nat.blt d n = true) (hc : covers l o = true) (hg : guardIn ops l o = true) (hw : wantedL ops l o = true)
    (ho : o.op = .call { callee := .builtin .append, args := args.toArray, argTypes := ts.toArray }) (ha : args = [X, Y]) (hts : ts = [t, tx]) (hX : evL l X = v) (hY : evL l Y = x) (ht : tySlice P t e = true) (htx : tySlice P tx e' = true) (hz : tyZero P e 136 = true) (hb : tyBytes' P e bytes = true) (hr : Recs w x news) (hmax : (xs.length + news.length) * (bytes + 1) ≤ 140737488355328)
    (kk : ∀ v' a' w', Mem w0 O (L.set i (.recs e v' (xs ++ news))) Φ w' → Env ((d, v') :: l) n a' → wpList P ops Q rest a' w') : wpList P ops Q (o :: rest) a w := by
  refine sapp E M hL hd hn hc hg hw ho ha hts hX hY ht htx hz hb (by decide) hr (fun u hu => ?_) hmax fun v' a' w' M' E' => kk v' a' w' (M'.as ?_) E'
  · obtain ⟨c, hc1, hc2⟩ := List.mem_flatten.1 hu
    obtain ⟨r, _, rfl⟩ := List.mem_map.1 hc1
    exact Rec.ones r u (by simpa using hc2)
  · unfold Ent.recs
    rw [rcs_append, List.length_append]
theorem zero_run {P : Program} {w : World} {e : TypeId} {z : Value} (h : zeroOf P e = some z) : (zeroValue e).run P w = .ok z w := by
  unfold zeroOf at h
  cases hi : P.info? e with
  | none => rw [hi] at h; cases h
  | some i =>
    rw [hi] at h
    have h : i.zero = some z := h
    simp [zeroValue, typeInfo, hi, h]
/-- A slice's end is cleared: its begin stays. -/
theorem sclear {i k m sz : Nat} {t e e' : TypeId} {X : Operand} {v z : Value} {xs : List Value} {args : List Operand} {ts : List TypeId} (E : Env l n a) (M : Mem w0 O L Φ w) (hL : L[i]? = some (.row e sz v m xs)) (hd : o.dst = none) (hc : covers l o = true) (hg : guardIn ops l o = true) (hw : wantedL ops l o = true)
    (ho : o.op = .call { callee := .builtin .clear, args := args.toArray, argTypes := ts.toArray }) (ha : args = [X]) (hts : ts = [t]) (hX : evL l X = cutV sz v k m) (hk : k ≤ m) (ht : tySlice P t e' = true) (hz : zeroOf P e' = some z) (hzs : z.cells.size = sz) (h0 : 0 < sz) (h1 : ∀ u ∈ z.cells.toList, u.oneCell' = true)
    (kk : ∀ xs' a' w', xs'.length = m * sz → xs'.take (k * sz) = xs.take (k * sz) → Mem w0 O (L.set i (.row e sz v m xs')) Φ w' → Env l n a' → wpList P ops Q rest a' w') : wpList P ops Q (o :: rest) a w := by
  subst ha hts
  have hr := M.ent i hL
  have hfit : L.set i (.row e sz v m xs) = L := by
    have hi : i < L.length := (List.getElem?_eq_some_iff.1 hL).1
    have : L[i] = .row e sz v m xs := (List.getElem?_eq_some_iff.1 hL).2
    rw [← this, List.set_getElem_self]
  obtain ⟨hlen, hh⟩ := hr
  have hsame : (∃ b c, evL l X = .slice b 0 c) → wpList P ops Q (o :: rest) a w := fun ⟨b, c, e1⟩ => by
    have hrun : (execOp (evL l) o).run P w = .ok (.value (.tuple #[])) w := by
      cases b <;> simp [execOp, ho, resolve, invoke, builtin, e1, Builtin.clear_, run_underlying (slice_und ht)]
    refine seq_val E hc hg hw (by rw [hd]; rfl) hrun fun a' E' => kk xs a' w hlen rfl (hfit.symm ▸ M) ?_
    rw [hd] at E'
    exact E'
  rcases hh with ⟨rfl, rfl⟩ | ⟨g, cap, cur, rfl, h0', hgg, hnc, hcm, hcs, htk⟩
  · obtain rfl : k = 0 := by omega
    exact hsame ⟨_, _, hX⟩
  · by_cases hkm : k = m
    · subst hkm
      refine hsame ⟨if cap = k then some ⟨g, 0, none⟩ else (some (⟨g, 0, none⟩ : Addr)).map (·.add (k * sz)), cap - k, hX.trans ?_⟩
      show Value.slice _ (k - k) _ = _
      rw [Nat.sub_self]
    · have hmc : m * sz ≤ cap * sz := Nat.mul_le_mul_right _ hnc
      have hkz : k * sz ≤ m * sz := Nat.mul_le_mul_right _ hk
      have hX' : evL l X = .slice (some ⟨g, k * sz, none⟩) (m - k) (cap - k) := by
        rw [hX]
        show Value.slice (if cap = k then _ else _) _ _ = _
        rw [if_neg (by omega)]
        simp [add_plain]
      obtain ⟨N, hN⟩ : ∃ N, m - k = N + 1 := ⟨m - k - 1, by omega⟩
      have hlen' : (Builtin.zeroCells z.cells (m - k)).toList.length = (m - k) * sz := by simp [Builtin.zeroCells, hzs]
      have hone : ∀ u ∈ (Builtin.zeroCells z.cells (m - k)).toList, u.oneCell' = true := fun u hu => by
        obtain ⟨j, hj⟩ := List.getElem?_of_mem hu
        have hjl : j < (m - k) * sz := by have := (List.getElem?_eq_some_iff.1 hj).1; rwa [hlen'] at this
        have hm : j % sz < sz := Nat.mod_lt _ h0
        simp only [Builtin.zeroCells, Array.toList_map, List.getElem?_map, Array.toList_range, hzs, List.getElem?_range hjl, Option.map_some, Option.some.injEq] at hj
        rw [getElem!_pos z.cells _ (by omega)] at hj
        rw [← hj]
        exact h1 _ (by simp)
      have hsum : k * sz + (m - k) * sz = m * sz := by rw [← Nat.add_mul]; congr 1; omega
      have hst := run_storeCells_at P g (k * sz) e (Builtin.zeroCells z.cells (m - k)).toList 0 cur w hgg (by rw [hlen']; omega) hone
      rw [Nat.add_zero, hlen', hsum] at hst
      have hrun : (execOp (evL l) o).run P w = .ok (.value (.tuple #[])) (w.setRow g (cur.toList.take (k * sz) ++ (Builtin.zeroCells z.cells (m - k)).toList ++ cur.toList.drop (m * sz)).toArray) := by
        rw [hN] at hX' hst ⊢
        simp [execOp, ho, resolve, invoke, builtin, hX', Builtin.clear_, run_underlying (slice_und ht), zero_run hz, hst]
      have hlc : cur.toList.length = cap * sz := by simpa using hcs
      refine seq_val E hc hg hw (by rw [hd]; rfl) hrun fun a' E' => kk (xs.take (k * sz) ++ (Builtin.zeroCells z.cells (m - k)).toList) a' _ ?_ ?_ (M.change hL _ (Ch.setRow (by simp [Ent.row, Value.ownBlock])) ⟨?_, .inr ⟨g, cap, _, rfl, h0', setRow_heap w g cur _ e _ hgg, hnc, hcm, ?_, ?_⟩⟩ fun k' hk' => ?_) ?_
      · rw [List.length_append, hlen', List.length_take, hlen]; omega
      · rw [List.take_append_of_le_length (by rw [List.length_take, hlen]; omega), List.take_take, Nat.min_self]
      · rw [List.length_append, hlen', List.length_take, hlen]; omega
      · rw [List.size_toArray, List.length_append, List.length_append, hlen', List.length_take, List.length_drop, hlc]; omega
      · show List.take (m * sz) (cur.toList.take (k * sz) ++ (Builtin.zeroCells z.cells (m - k)).toList ++ cur.toList.drop (m * sz)) = _
        have e2 : cur.toList.take (k * sz) = xs.take (k * sz) := by rw [← htk, List.take_take, Nat.min_eq_left hkz]
        rw [e2]
        exact List.take_left' (by rw [List.length_append, hlen', List.length_take, hlen]; omega)
      · have := M.lt _ (List.mem_of_getElem? hL) k' (by simpa [Ent.row] using hk')
        exact ⟨by simpa using this, .inl (by simpa [Ent.row] using hk')⟩
      · rw [hd] at E'
        exact E'
end
end Go.Rill
end
section
namespace Go.Rill
set_option linter.unusedVariables false
set_option linter.unusedSimpArgs false
open Go.RowKit Go.ChangeShapes Go.WideShapes
section
variable {H : Type} {enc : TypeId × Value → H} {P : Program} {W : World} {base b0 : Nat} {spare : Nat → Bool} {held : Bool} {r : Reach} {t e : TypeId} {v : Value}
theorem u8_wf {n : Int} (h : (Lit.int .u8 n).wf = true) : 0 ≤ n ∧ n < 256 := by
  have h : (decide (IntKind.u8.min ≤ n) && decide (n ≤ IntKind.u8.max)) = true := h
  have a : IntKind.min .u8 = 0 := rfl
  have b : IntKind.max .u8 = 255 := rfl
  rw [a, b, Bool.and_eq_true, decide_eq_true_eq, decide_eq_true_eq] at h
  omega
theorem u8_back {n : Int} (h : (Lit.int .u8 n).wf = true) : ((UInt8.ofNat n.toNat).toNat : Int) = n := by
  have := u8_wf h
  simp only [UInt8.toNat_ofNat']
  omega
def AllW (cs : List Value) : Prop := ∀ v ∈ cs, ∃ k n, v = .int k n ∧ (Lit.int k n).wf = true
theorem cells_of_size {k : Nat} (h : tySize P t k = true) : P.cellsOf t = k := by
  obtain ⟨i, hi, hs⟩ := tySize_info h
  simp [Program.cellsOf, hi, hs]
/-- Its numbers have one cell each. -/
def flatO (P : Program) : Nat → TypeId → Bool
  | 0, _ => false
  | D + 1, t => match P.underlying t with
    | some (.int _) => P.cellsOf t == 1
    | some (.struct fs) => fs.toList.all fun f => flatO P D f.type
    | some (.array _ e) => flatO P D e
    | _ => false
/-- Structs and arrays of numbers alone are what their kinds say. -/
theorem trod_flat : ∀ (D : Nat) (t : TypeId) (ks : List IntKind), flatK P D t = some ks → flatO P D t = true → ∀ (fuel : Nat) (cs : List Value) (x : DataW H × List MemPlace), DataW.trod enc P W base spare held fuel t cs = some x → Fit ks cs ∧ AllW cs
  | 0, t, ks, h => by simp [flatK] at h
  | D + 1, t, ks, h => by
    intro hO fuel cs x hx
    have cellsLen : ∀ t ks, flatK P D t = some ks → flatO P D t = true → P.cellsOf t = ks.length := fun t ks hk hO => by
      rcases shape_of hk with ⟨h1, h2⟩ | ⟨h1, h2⟩
      · rw [h2]
        cases D with
        | zero => simp [flatK] at hk
        | succ D' =>
          have hu : ∃ k, P.underlying t = some (.int k) := by
            unfold flatK at hk
            cases hu : P.underlying t with
            | none => rw [hu] at hk; cases hk
            | some dd =>
              rw [hu] at hk
              cases dd with
              | int k => exact ⟨k, rfl⟩
              | struct fs => simp [tyOne, hu] at h1
              | array n e => simp [tyOne, hu] at h1
              | _ => cases hk
          obtain ⟨k, hu⟩ := hu
          unfold flatO at hO
          rw [hu] at hO
          simpa using hO
      · exact cells_of_size (tyAgg_size h2)
    cases fuel with
    | zero => simp [DataW.trod] at hx
    | succ fuel =>
      unfold flatK at h
      unfold flatO at hO
      cases hu : P.underlying t with
      | none => rw [hu] at h; cases h
      | some dd =>
        rw [hu] at h hO
        cases dd with
        | int k =>
          simp only at h
          split at h
          · injection h with h
            subst h
            obtain ⟨n, rfl, _, hw⟩ := DataW.trod_int hu hx
            exact ⟨rfl, fun v hv => by simp at hv; subst hv; exact ⟨_, _, rfl, hw⟩⟩
          · cases h
        | struct fs =>
          simp only at h
          cases hf : flatFs (flatK P D) fs.toList 0 with
          | none => rw [hf] at h; cases h
          | some ks' =>
            rw [hf] at h
            simp only at h
            split at h
            · rename_i hc
              rw [Bool.and_eq_true] at hc
              injection h with h
              subst h
              unfold DataW.trod at hx
              rw [hu] at hx
              simp only at hx
              split at hx
              · rename_i hlen
                rw [cells_of_size (tyAgg_size hc.1)] at hlen
                simp only [Option.map_eq_some_iff] at hx
                obtain ⟨xs, hxs, _⟩ := hx
                have key : ∀ (L : List Field) (off : Nat) (kk : List IntKind), (L.all fun f => flatO P D f.type) = true → flatFs (flatK P D) L off = some kk → ∀ (xs : List (DataW H × List MemPlace)), (L.mapM fun f => DataW.trod enc P W base spare held fuel f.type ((cs.drop f.offset).take (P.cellsOf f.type))) = some xs → off + kk.length ≤ cs.length → Fit kk ((cs.drop off).take kk.length) ∧ AllW ((cs.drop off).take kk.length) := by
                  intro L
                  induction L with
                  | nil =>
                    intro off kk hA h xs hxs hl
                    simp only [flatFs, Option.some.injEq] at h
                    subst h
                    exact ⟨by simp [Fit], fun v hv => by simp at hv⟩
                  | cons f L ih =>
                    intro off kk hA h xs hxs hl
                    simp only [List.all_cons, Bool.and_eq_true] at hA
                    unfold flatFs at h
                    cases hk : flatK P D f.type with
                    | none => rw [hk] at h; cases h
                    | some k1 =>
                      rw [hk] at h
                      simp only at h
                      split at h
                      · rename_i hc
                        simp only [Bool.and_eq_true, Bool.not_eq_true', beq_iff_eq] at hc
                        cases hr : flatFs (flatK P D) L (off + k1.length) with
                        | none => rw [hr] at h; cases h
                        | some k2 =>
                          rw [hr] at h
                          simp only [Option.some.injEq] at h
                          subst h
                          simp only [List.mapM_cons, Option.bind_eq_bind, Option.bind_eq_some_iff] at hxs
                          obtain ⟨y, hy, ys, hys, _⟩ := hxs
                          rw [hc.1, cellsLen _ _ hk hA.1] at hy
                          obtain ⟨a1, a2⟩ := trod_flat D f.type k1 hk hA.1 fuel _ _ hy
                          simp only [List.length_append] at hl
                          obtain ⟨b1, b2⟩ := ih (off + k1.length) k2 hA.2 hr ys hys (by omega)
                          have e : (cs.drop off).take (k1 ++ k2).length = (cs.drop off).take k1.length ++ (cs.drop (off + k1.length)).take k2.length := by
                            rw [List.length_append, List.take_add, List.drop_drop]
                          rw [e]
                          exact ⟨a1.app b1, fun v hv => by
                            rcases List.mem_append.1 hv with hv | hv
                            · exact a2 v hv
                            · exact b2 v hv⟩
                      · cases h
                have := key fs.toList 0 _ hO hf xs hxs (by omega)
                rwa [List.drop_zero, List.take_of_length_le (by omega)] at this
              · cases hx
            · cases h
        | array n e =>
          simp only at h
          cases hf : flatK P D e with
          | none => rw [hf] at h; cases h
          | some ks' =>
            rw [hf] at h
            simp only at h
            split at h
            · rename_i hc
              simp only [Bool.and_eq_true, beq_iff_eq] at hc
              injection h with h
              subst h
              unfold DataW.trod at hx
              rw [hu] at hx
              simp only at hx
              split at hx
              · rename_i hlen
                rw [cells_of_size (tyAgg_size hc.2)] at hlen
                simp only [Option.map_eq_some_iff] at hx
                obtain ⟨xs, hxs, _⟩ := hx
                rw [List.range_eq_range'] at hxs
                have key : ∀ (m s : Nat) (xs : List (DataW H × List MemPlace)), ((List.range' s m).mapM fun i => DataW.trod enc P W base spare held fuel e ((cs.drop (i * P.cellsOf e)).take (P.cellsOf e))) = some xs → (s + m) * ks'.length ≤ cs.length → Fit (List.replicate m ks').flatten ((cs.drop (s * ks'.length)).take (m * ks'.length)) ∧ AllW ((cs.drop (s * ks'.length)).take (m * ks'.length)) := by
                  intro m
                  induction m with
                  | zero =>
                    intro s xs hxs hl
                    rw [Nat.zero_mul, List.take_zero]
                    exact ⟨by simp [Fit], fun v hv => by simp at hv⟩
                  | succ m ih =>
                    intro s xs hxs hl
                    rw [List.range'_succ] at hxs
                    simp only [List.mapM_cons, Option.bind_eq_bind, Option.bind_eq_some_iff] at hxs
                    obtain ⟨y, hy, ys, hys, _⟩ := hxs
                    rw [hc.1.1] at hy
                    obtain ⟨a1, a2⟩ := trod_flat D e ks' hf hO fuel _ _ hy
                    obtain ⟨b1, b2⟩ := ih (s + 1) ys hys (by rw [show s + 1 + m = s + (m + 1) by omega]; exact hl)
                    have e1 : (cs.drop (s * ks'.length)).take ((m + 1) * ks'.length) = (cs.drop (s * ks'.length)).take ks'.length ++ (cs.drop ((s + 1) * ks'.length)).take (m * ks'.length) := by
                      rw [show (m + 1) * ks'.length = ks'.length + m * ks'.length by rw [Nat.add_mul]; omega, List.take_add, List.drop_drop]
                      rw [show s * ks'.length + ks'.length = (s + 1) * ks'.length by rw [Nat.add_mul]; omega]
                    rw [e1, List.replicate_succ, List.flatten_cons]
                    exact ⟨a1.app b1, fun v hv => by
                      rcases List.mem_append.1 hv with hv | hv
                      · exact a2 v hv
                      · exact b2 v hv⟩
                have := key n 0 xs hxs (by rw [Nat.zero_add]; omega)
                rwa [Nat.zero_mul, List.drop_zero, List.take_of_length_le (by omega)] at this
              · cases hx
            · cases h
        | _ => cases h
/-- Cells of these kinds are a record's. -/
theorem rec_of {cs : List Value} (hf : Fit ([.i64] ++ [.i64] ++ [.i64] ++ List.replicate 32 .u8 ++ [.i64] ++ List.replicate 32 .u8 ++ [.i64] ++ [.i64] ++ [.i64] ++ [.i64] ++ List.replicate 32 .u8 ++ List.replicate 32 .u8) cs) (hw : AllW cs) : ∃ r : Rec, r.Ok ∧ cs = r.cells := by
  obtain ⟨c11, d12, rfl, f11, g12⟩ := hf.split
  obtain ⟨c10, d11, rfl, f10, g11⟩ := f11.split
  obtain ⟨c9, d10, rfl, f9, g10⟩ := f10.split
  obtain ⟨c8, d9, rfl, f8, g9⟩ := f9.split
  obtain ⟨c7, d8, rfl, f7, g8⟩ := f8.split
  obtain ⟨c6, d7, rfl, f6, g7⟩ := f7.split
  obtain ⟨c5, d6, rfl, f5, g6⟩ := f6.split
  obtain ⟨c4, d5, rfl, f4, g5⟩ := f5.split
  obtain ⟨c3, d4, rfl, f3, g4⟩ := f4.split
  obtain ⟨c2, d3, rfl, f2, g3⟩ := f3.split
  obtain ⟨d1, d2, rfl, g1, g2⟩ := f2.split
  have one : ∀ {l : List Value}, Fit [.i64] l → ∃ n, l = [iv n] := fun {l} h => by
    obtain ⟨v, rfl⟩ : ∃ v, l = [v] := List.length_eq_one_iff.1 (by rw [h.len]; rfl)
    simp only [Fit, List.map_cons, List.map_nil, List.cons.injEq, and_true] at h
    cases v <;> simp only [kindOf, reduceCtorEq, Option.some.injEq] at h
    subst h
    exact ⟨_, rfl⟩
  have many : ∀ {n : Nat} {l : List Value}, Fit (List.replicate n .u8) l → AllW l → ∃ s : List UInt8, s.length = n ∧ l = bc s := by
    intro n
    induction n with
    | zero => intro l h _; exact ⟨[], rfl, List.eq_nil_of_length_eq_zero (by simpa using h.len)⟩
    | succ n ih =>
      intro l h hw
      cases l with
      | nil => have := h.len; simp at this
      | cons v l =>
        simp only [Fit, List.map_cons, List.replicate_succ, List.cons.injEq] at h
        obtain ⟨h1, h2⟩ := h
        obtain ⟨s, e1, e2⟩ := ih (l := l) h2 fun v hv => hw v (List.mem_cons_of_mem _ hv)
        obtain ⟨k, m, rfl, hm⟩ := hw v (List.mem_cons_self ..)
        simp only [kindOf, Option.some.injEq] at h1
        subst h1
        refine ⟨UInt8.ofNat m.toNat :: s, by simp [e1], ?_⟩
        rw [bc_cons, ← e2, u8_back hm]
  have W := hw
  unfold AllW at W
  obtain ⟨n1, rfl⟩ := one g1
  obtain ⟨n2, rfl⟩ := one g2
  obtain ⟨n3, rfl⟩ := one g3
  obtain ⟨s4, e4, rfl⟩ := many g4 fun v hv => W v (by simp [hv])
  obtain ⟨n5, rfl⟩ := one g5
  obtain ⟨s6, e6, rfl⟩ := many g6 fun v hv => W v (by simp [hv])
  obtain ⟨n7, rfl⟩ := one g7
  obtain ⟨n8, rfl⟩ := one g8
  obtain ⟨n9, rfl⟩ := one g9
  obtain ⟨n10, rfl⟩ := one g10
  obtain ⟨s11, e11, rfl⟩ := many g11 fun v hv => W v (by simp [hv])
  obtain ⟨s12, e12, rfl⟩ := many g12 fun v hv => W v (by simp [hv])
  exact ⟨⟨n1, n2, n3, s4, n5, s6, n7, n8, n9, n10, s11, s12⟩, ⟨e4, e6, e11, e12⟩, by simp [Rec.cells]⟩
end
end Go.Rill
end
section
namespace Go.Rill
set_option linter.unusedVariables false
set_option linter.unusedSimpArgs false
open Go.RowKit Go.ChangeShapes Go.WideShapes
section
variable {H : Type} {enc : TypeId × Value → H} {P : Program} {W : World} {base b0 : Nat} {spare : Nat → Bool} {held : Bool} {r : Reach} {t e : TypeId} {v : Value}
theorem choose_list {α : Type} {p : Nat → α → Prop} : ∀ (n : Nat), (∀ i, i < n → ∃ x, p i x) → ∃ l : List α, l.length = n ∧ ∀ i (h : i < l.length), p i l[i]
  | 0, _ => ⟨[], rfl, fun i h => absurd h (Nat.not_lt_zero _)⟩
  | n + 1, h => by
    obtain ⟨l, e, hl⟩ := choose_list (p := p) n fun i hi => h i (by omega)
    obtain ⟨x, hx⟩ := h n (by omega)
    refine ⟨l ++ [x], by simp [e], fun i hi => ?_⟩
    by_cases hn : i < l.length
    · rw [List.getElem_append_left hn]; exact hl i hn
    · have : i = n := by simp at hi; omega
      subst this
      rw [List.getElem_append_right (by omega)]
      simpa using hx
def StampIn (r : Rec) : Prop := -9223372036854775808 ≤ r.stamp ∧ r.stamp ≤ 9223372036854775807
end
end Go.Rill
end
section
namespace Go.Rill
set_option linter.unusedVariables false
set_option linter.unusedSimpArgs false
open Go.RowKit
open Go.ChangeMaps (setBlock)
section
variable {P : Program} {ρ : Operand → Value} {o : Oper} {w : World} {t k e : TypeId} {g gi clock : Nat} {es : List IE} {seen : Array Nat} {X : Operand}
theorem run_makeFunc1 {F : Fn} {v : Value} (ho : o.op = .makeFunc F #[] #[X]) (hX : ρ X = v) : (execOp ρ o).run P w = .ok (.value (.func F #[] #[v])) w := by
  subst hX
  simp [execOp, ho, Instr.makeFunc]
theorem run_rangeI (ho : o.op = .range t X) (hX : ρ X = .map (some g)) (ht : tyMap P t k e = true) (hg : w.heap[g]? = some (.map (imap es) clock)) :
    (execOp ρ o).run P w = .ok (.value (.pointer (some ⟨w.heap.size, 0, none⟩))) (w.alloc (.mapIter (some g) clock #[] clock)) := by
  have := run_range_map w t k e g (imap es) clock (map_und ht).1 hg
  simp [execOp, ho, hX, this]
theorem imap_mem {x : MapEntry} (h : x ∈ (imap es).toList) : ∃ a ∈ es, x = { key := .int .i64 a.key, val := a.val, born := a.born } := by
  simp only [imap, List.mem_map] at h
  obtain ⟨a, h1, h2⟩ := h
  exact ⟨a, h1, h2.symm⟩
theorem imap_has {a : IE} (h : a ∈ es) : ({ key := .int .i64 a.key, val := a.val, born := a.born } : MapEntry) ∈ (imap es).toList := by
  simp only [imap, List.mem_map]
  exact ⟨a, h, rfl⟩
theorem imap_born : (imap es).toList.map (·.born) = es.map (·.born) := by
  simp [imap, Function.comp_def]
theorem run_nextNo (ho : o.op = .next X false) (hX : ρ X = .pointer (some ⟨gi, 0, none⟩)) (hi : w.heap[gi]? = some (.mapIter (some g) clock seen clock)) (hg : w.heap[g]? = some (.map (imap es) clock)) (hold : ∀ a ∈ es, a.born < clock) (h0 : (leftOf (imap es) seen).size = 0) :
    (execOp ρ o).run P w = .ok (.value (.tuple #[.bool false])) w := by
  have h := run_next_at (P := P) w o.type gi g clock clock seen (imap es) clock hi hg (fun x hx => by obtain ⟨a, ha, rfl⟩ := imap_mem hx; exact hold a ha) (Nat.le_refl _)
  rcases h with ⟨_, h⟩ | ⟨x, hx, _⟩
  · simp [execOp, ho, hX, h]
  · have : (leftOf (imap es) seen) = #[] := Array.eq_empty_of_size_eq_zero h0
    rw [this] at hx
    simp at hx
theorem run_entryI {a : IE} (ho : o.op = .entry X) (hX : ρ X = .pointer (some ⟨gi, 0, none⟩)) (hi : w.heap[gi]? = some (.mapIter (some g) clock (seen.push a.born) clock)) (hg : w.heap[g]? = some (.map (imap es) clock)) (ha : a ∈ es) (hn : (es.map (·.born)).Nodup) :
    (execOp ρ o).run P w = .ok (.value (.tuple #[.int .i64 a.key, a.val])) w := by
  have h := run_entry_at (P := P) w gi g clock seen (imap es) clock _ hi hg (imap_has ha) (by rw [imap_born]; exact hn)
  simp [execOp, ho, hX, h]
theorem run_clearI {args : List Operand} {ts : List TypeId} (ho : o.op = .call { callee := .builtin .clear, args := args.toArray, argTypes := ts.toArray }) (ha : args = [X]) (hts : ts = [t]) (hX : ρ X = .map (some g)) (ht : tyMap P t k e = true) (hg : w.heap[g]? = some (.map (imap es) clock)) :
    (execOp ρ o).run P w = .ok (.value (.tuple #[])) { w with heap := w.heap.setIfInBounds g (.map (imap []) clock) } := by
  subst ha hts
  have hgo : (getObj g).run P w = .ok (.map (imap es) clock) w := by simp [getObj, Sem.run, hg]
  have hso : ∀ o', (setObj g o').run P w = .ok () { w with heap := w.heap.setIfInBounds g o' } := fun o' => by simp [setObj, Sem.run, hg]
  have : (Builtin.clear_ #[t] o.type #[.map (some g)]).run P w = .ok (.tuple #[]) { w with heap := w.heap.setIfInBounds g (.map #[] clock) } := by
    simp [Builtin.clear_, run_underlying (map_und ht).1, hgo, hso, Result.andThen]
  simp [execOp, ho, resolve, invoke, builtin, hX, this, imap]
end
section
variable {P : Program} {ops : Array Oper} {Q : Exit → Act → World → Prop} {l : List (Nat × Value)} {n : Nat} {a : Act} {w w' w0 : World} {rest : List Oper} {o : Oper} {O : Nat → Prop} {L R : List Ent} {Φ : World → Prop}
/-- The next of those that are left, whichever it is. -/
theorem snext {i j g gi clock : Nat} {es : List IE} {seen : Array Nat} {X : Operand} {d : Tmp} (E : Env l n a) (M : Mem w0 O L Φ w) (hi : L[i]? = some (.blk gi (.mapIter (some g) clock seen clock))) (hj : L[j]? = some (.blk g (.map (imap es) clock)))
    (hd : o.dst = some d) (hn : Nat.blt d n = true) (hc : covers l o = true) (hg : guardIn ops l o = true) (hw : wantedL ops l o = true)
    (ho : o.op = .next X false) (hX : evL l X = .pointer (some ⟨gi, 0, none⟩)) (hold : ∀ e ∈ es, e.born < clock) (h0 : (leftOf (imap es) seen).size ≠ 0)
    (kk : ∀ e ∈ es, seen.contains e.born = false → (leftOf (imap es) (seen.push e.born)).size < (leftOf (imap es) seen).size → ∀ a' w', Mem w0 O (L.set i (.blk gi (.mapIter (some g) clock (seen.push e.born) clock))) Φ w' → Env ((d, .tuple #[.bool true, .int .i64 e.key, e.val]) :: l) n a' → wpList P ops Q rest a' w') :
    wpList P ops Q (o :: rest) a w := by
  have h := run_next_at (P := P) w o.type gi g clock clock seen (imap es) clock (M.ent i hi) (M.ent j hj) (fun x hx => by obtain ⟨a, ha, rfl⟩ := imap_mem hx; exact hold a ha) (Nat.le_refl _)
  rcases h with ⟨h, _⟩ | ⟨x, hx, w1, hw1, h⟩
  · exact absurd h h0
  · have hl := left_shrinks _ _ x hx
    obtain ⟨hx1, hx2⟩ := mem_left hx
    obtain ⟨b, hb, rfl⟩ := imap_mem hx1
    have M1 : Mem w0 O L Φ w1 := by
      rcases hw1 with rfl | rfl
      · exact M
      · exact M.ext (Ext.drew w)
    exact sv E hd hn hc hg hw (v := .tuple #[.bool true, .int .i64 b.key, b.val]) (w' := setBlock w1 gi (.mapIter (some g) clock (seen.push b.born) clock)) (by simp [execOp, ho, hX, h]) fun a' E' => kk b hb hx2 hl a' _ (M1.setObj hi) E'
/-- clear. -/
theorem smclear {i g clock : Nat} {es : List IE} {t k e : TypeId} {X : Operand} {args : List Operand} {ts : List TypeId} (E : Env l n a) (M : Mem w0 O L Φ w) (hi : L[i]? = some (.blk g (.map (imap es) clock))) (hd : o.dst = none) (hc : covers l o = true) (hg : guardIn ops l o = true) (hw : wantedL ops l o = true)
    (ho : o.op = .call { callee := .builtin .clear, args := args.toArray, argTypes := ts.toArray }) (ha : args = [X]) (hts : ts = [t]) (hX : evL l X = .map (some g)) (ht : tyMap P t k e = true)
    (kk : ∀ a' w', Mem w0 O (L.set i (.blk g (.map (imap []) clock))) Φ w' → Env l n a' → wpList P ops Q rest a' w') : wpList P ops Q (o :: rest) a w := by
  refine seq_val E hc hg hw (by rw [hd]; rfl) (run_clearI ho ha hts hX ht (M.ent i hi)) fun a' E' => kk a' _ (M.setObj hi) ?_
  rw [hd] at E'
  exact E'
end
/-! What a range has written so far. -/
theorem find_congr' {α : Type} {p q : α → Bool} : ∀ {l : List α}, (∀ x ∈ l, p x = q x) → l.find? p = l.find? q
  | [], _ => rfl
  | a :: r, h => by rw [List.find?_cons, List.find?_cons, h a (List.mem_cons_self ..), find_congr' fun x hx => h x (List.mem_cons_of_mem _ hx)]
def syn (es : List IE) (seen : Array Nat) (vs : List Value) : List Value := vs.mapIdx fun j v => match es.find? (fun e => decide (e.key = (j : Int)) && seen.contains e.born) with | some e => e.val | none => v
theorem syn_none (es : List IE) (vs : List Value) : syn es #[] vs = vs := by
  unfold syn
  have : (fun (j : Nat) (v : Value) => match es.find? (fun e => decide (e.key = (j : Int)) && (#[] : Array Nat).contains e.born) with | some e => e.val | none => v) = fun j v => v := by
    funext j v
    have : es.find? (fun e => decide (e.key = (j : Int)) && (#[] : Array Nat).contains e.born) = none := by simp
    rw [this]
  rw [this]
  exact List.ext_getElem (by simp) fun j h1 h2 => by simp
theorem syn_step {es : List IE} {seen : Array Nat} {vs : List Value} {a : IE} (ha : a ∈ es) (hk : (es.map (·.key)).Nodup) (hb : (es.map (·.born)).Nodup) {i : Nat} (hi : a.key = (i : Int)) : (syn es seen vs).set i a.val = syn es (seen.push a.born) vs := by
  apply List.ext_getElem? 
  intro j
  have inj : ∀ (f : IE → Int), (es.map f).Nodup → ∀ x ∈ es, ∀ y ∈ es, f x = f y → x = y := fun f hf x hx y hy h => by
    obtain ⟨m, hm, rfl⟩ := List.getElem_of_mem hx
    obtain ⟨n, hn, rfl⟩ := List.getElem_of_mem hy
    have := (List.getElem_inj (xs := es.map f) (h₀ := by simpa using hm) (h₁ := by simpa using hn) hf).1 (by simpa using h)
    subst this
    rfl
  have injb : ∀ x ∈ es, ∀ y ∈ es, x.born = y.born → x = y := fun x hx y hy h => by
    obtain ⟨m, hm, rfl⟩ := List.getElem_of_mem hx
    obtain ⟨n, hn, rfl⟩ := List.getElem_of_mem hy
    have := (List.getElem_inj (xs := es.map (·.born)) (h₀ := by simpa using hm) (h₁ := by simpa using hn) hb).1 (by simpa using h)
    subst this
    rfl
  unfold syn
  rw [List.getElem?_set]
  simp only [List.getElem?_mapIdx]
  by_cases hj : i = j
  · subst hj
    rw [if_pos rfl]
    cases hv : vs[i]? with
    | none => 
      have : ¬ i < vs.length := by simpa using hv
      simp [this]
    | some v =>
      have hlt : i < vs.length := (List.getElem?_eq_some_iff.1 hv).1
      have : es.find? (fun e => decide (e.key = (i : Int)) && (seen.push a.born).contains e.born) = some a := by
        cases hf : es.find? (fun e => decide (e.key = (i : Int)) && (seen.push a.born).contains e.born) with
        | none =>
          have := List.find?_eq_none.1 hf a ha
          simp [hi] at this
        | some x =>
          have h1 := List.find?_some hf
          simp only [Bool.and_eq_true, decide_eq_true_eq] at h1
          rw [inj (·.key) hk x (List.mem_of_find?_eq_some hf) a ha (h1.1.trans hi.symm)]
      rw [this]
      simp [hlt]
  · rw [if_neg hj]
    congr 1
    funext v
    have : es.find? (fun e => decide (e.key = (j : Int)) && (seen.push a.born).contains e.born) = es.find? (fun e => decide (e.key = (j : Int)) && seen.contains e.born) := by
      refine find_congr' fun x hx => ?_
      by_cases h : x.key = (j : Int)
      · have hne : x.born ≠ a.born := fun c => hj (by have := injb x hx a ha c; subst this; omega)
        rw [contains_push, show (x.born == a.born) = false by simpa using hne, Bool.or_false]
      · simp [h]
    rw [this]
theorem syn_all {es : List IE} {seen : Array Nat} {vs : List Value} (h : ∀ e ∈ es, seen.contains e.born = true) : syn es seen vs = vs.mapIdx fun j v => (iget es (j : Int)).getD v := by
  unfold syn
  congr 1
  funext j v
  have : es.find? (fun e => decide (e.key = (j : Int)) && seen.contains e.born) = es.find? (fun e => decide (e.key = (j : Int))) := find_congr' fun x hx => by rw [h x hx, Bool.and_true]
  rw [this]
  have hg : ∀ (es : List IE) (i : Nat), (iat (j : Int) es i).map (·.2) = (es.find? (fun e => decide (e.key = (j : Int)))).map (·.val) := by
    intro es
    induction es with
    | nil => intro i; rfl
    | cons e r ih =>
      intro i
      unfold iat
      by_cases h : (j : Int) = e.key
      · rw [if_pos h]; simp [h]
      · rw [if_neg h, ih, List.find?_cons, show decide (e.key = (j : Int)) = false by simpa using fun c => h c.symm]
  unfold iget
  rw [hg es 0]
  cases es.find? (fun e => decide (e.key = (j : Int))) <;> rfl
end Go.Rill
end
section
namespace Go.Rill
set_option linter.unusedVariables false
set_option linter.unusedSimpArgs false
open Go.RowKit
def idel (q : Int) : List IE → List IE
  | [] => []
  | e :: r => if q = e.key then r else e :: idel q r
theorem map_erase' {α β : Type} (f : α → β) : ∀ (l : List α) (i : Nat), (l.map f).eraseIdx i = (l.eraseIdx i).map f
  | [], _ => rfl
  | a :: r, 0 => rfl
  | a :: r, i + 1 => by simp [map_erase' f r i]
theorem del_none {q : Int} : ∀ {es : List IE} {n : Nat}, iat q es n = none → idel q es = es
  | [], n, _ => rfl
  | e :: r, n, h => by
    unfold iat at h
    split at h
    · cases h
    · rename_i hne
      rw [idel, if_neg hne, del_none h]
theorem del_some {q : Int} {u : Value} : ∀ {es : List IE} {n i : Nat}, iat q es n = some (i, u) → ∃ j, i = n + j ∧ j < es.length ∧ idel q es = es.eraseIdx j
  | [], n, i, h => by cases h
  | e :: r, n, i, h => by
    unfold iat at h
    split at h
    · rename_i he
      injection h with h
      injection h with h1 h2
      subst h1
      exact ⟨0, rfl, by simp, by rw [idel, if_pos he]; rfl⟩
    · rename_i hne
      obtain ⟨j, h1, h2, h3⟩ := del_some h
      exact ⟨j + 1, by omega, by simpa using h2, by rw [idel, if_neg hne, h3]; rfl⟩
section
variable {P : Program} {ρ : Operand → Value} {o : Oper} {w : World} {t k k' e : TypeId} {g clock : Nat} {es : List IE}
theorem run_deleteI {X Y : Operand} {q : Int} {args : List Operand} {ts : List TypeId} (ho : o.op = .call { callee := .builtin .delete, args := args.toArray, argTypes := ts.toArray }) (ha : args = [X, Y]) (hts : ts = [t, k']) (hX : ρ X = .map (some g)) (hY : ρ Y = .int .i64 q) (ht : tyMap P t k e = true) (hg : w.heap[g]? = some (.map (imap es) clock)) :
    (execOp ρ o).run P w = .ok (.value (.tuple #[])) { w with heap := w.heap.setIfInBounds g (.map (imap (idel q es)) clock) } := by
  subst ha hts
  obtain ⟨h1, h2⟩ := map_und ht
  have hgo : (getObj g).run P w = .ok (.map (imap es) clock) w := by simp [getObj, Sem.run, hg]
  have hso : ∀ o', (setObj g o').run P w = .ok () { w with heap := w.heap.setIfInBounds g o' } := fun o' => by simp [setObj, Sem.run, hg]
  have : (Builtin.delete_ #[t, k'] o.type #[.map (some g), .int .i64 q]).run P w = .ok (.tuple #[]) { w with heap := w.heap.setIfInBounds g (.map (imap (idel q es)) clock) } := by
    cases hf : iat q es 0 with
    | none =>
      rw [del_none hf]
      simp [Builtin.delete_, run_underlying h1, hgo, hso, run_ckey _ q h2, run_find q h2, hf, Result.andThen]
    | some p =>
      obtain ⟨i, u⟩ := p
      obtain ⟨j, hj, hjl, hd⟩ := del_some hf
      rw [Nat.zero_add] at hj
      subst hj
      have e1 : (imap es).eraseIdxIfInBounds i = imap (idel q es) := by
        rw [hd]
        apply Array.toList_inj.1
        unfold Array.eraseIdxIfInBounds
        rw [dif_pos (by simpa [imap] using hjl)]
        simp [imap, map_erase']
      simp [Builtin.delete_, run_underlying h1, hgo, hso, run_ckey _ q h2, run_find q h2, hf, Result.andThen, e1]
  simp [execOp, ho, resolve, invoke, builtin, hX, hY, this]
theorem run_lookup1 {X Y : Operand} {q : Int} {z v : Value} (ho : o.op = .lookup t X Y false) (hX : ρ X = .map (some g)) (hY : ρ Y = .int .i64 q) (ht : tyMap P t k e = true) (hz : zeroOf P e = some z) (hg : w.heap[g]? = some (.map (imap es) clock)) (hr : (iget es q).getD z = v) :
    (execOp ρ o).run P w = .ok (.value v) w := by
  obtain ⟨h1, h2⟩ := map_und ht
  have hzv : (zeroValue e).run P w = .ok z w := by
    unfold zeroOf at hz
    cases hi : P.info? e with
    | none => rw [hi] at hz; cases hz
    | some i => rw [hi] at hz; simp only [Option.bind_some] at hz; simp [zeroValue, typeInfo, hi, hz]
  have hgo : (getObj g).run P w = .ok (.map (imap es) clock) w := by simp [getObj, Sem.run, hg]
  simp only [execOp, ho, hX, hY, Instr.lookup, Sem.run_bind, run_underlying h1, Result.andThen_ok, hgo, Sem.run_pure, run_ckey _ q h2, run_find q h2]
  unfold iget at hr
  cases hf : iat q es 0 with
  | none => rw [hf] at hr; simp only [Option.map_none, Option.getD_none] at hr; subst hr; simp [hzv]
  | some p => rw [hf] at hr; simp only [Option.map_some, Option.getD_some] at hr; subst hr; simp
end
section
variable {P : Program} {ops : Array Oper} {Q : Exit → Act → World → Prop} {l : List (Nat × Value)} {n : Nat} {a : Act} {w w' w0 : World} {rest : List Oper} {o : Oper} {O : Nat → Prop} {L R : List Ent} {Φ : World → Prop}
theorem smdel {i g clock : Nat} {es : List IE} {t k k' e : TypeId} {X Y : Operand} {q : Int} {args : List Operand} {ts : List TypeId} (E : Env l n a) (M : Mem w0 O L Φ w) (hi : L[i]? = some (.blk g (.map (imap es) clock))) (hd : o.dst = none) (hc : covers l o = true) (hg : guardIn ops l o = true) (hw : wantedL ops l o = true)
    (ho : o.op = .call { callee := .builtin .delete, args := args.toArray, argTypes := ts.toArray }) (ha : args = [X, Y]) (hts : ts = [t, k']) (hX : evL l X = .map (some g)) (hY : evL l Y = .int .i64 q) (ht : tyMap P t k e = true)
    (kk : ∀ a' w', Mem w0 O (L.set i (.blk g (.map (imap (idel q es)) clock))) Φ w' → Env l n a' → wpList P ops Q rest a' w') : wpList P ops Q (o :: rest) a w := by
  refine seq_val E hc hg hw (by rw [hd]; rfl) (run_deleteI ho ha hts hX hY ht (M.ent i hi)) fun a' E' => kk a' _ (M.setObj hi) ?_
  rw [hd] at E'
  exact E'
/-- A store into a growing slice, as the last of a drawn region. -/
theorem last_setR {wb : World} {m i k c sz : Nat} {t e : TypeId} {A X : Operand} {v u : Value} {xs xs' : List Value} (E : Env l n a) (M : Mem wb O L Φ w) (ho : ops[m]? = some o) (hL : L[i]? = some (.row e sz v c xs)) (hd : o.dst = none) (hc : covers l o = true) (hg : guardIn ops l o = true) (hw : wantedL ops l o = true)
    (hop : o.op = .store t A X) (hA : evL l A = cellAt v k) (hX : evL l X = u) (ht : tySize P t 1 = true) (hk : k < c * sz) (h1 : u.oneCell' = true) (hx : xs.set k u = xs')
    (kk : ∀ a' w', Mem wb O (L.set i (.row e sz v c xs')) Φ w' → Env l n a' → Q .normal a' w') : lastOp P ops Q m a w := by
  subst hx
  have hr := M.ent i hL
  obtain ⟨hlen, hh⟩ := hr
  rcases hh with ⟨rfl, rfl⟩ | ⟨g, cap, cur, rfl, h0, hgg, hnc, hcm, hcs, htk⟩
  · simp at hk
  · have hA' : evL l A = .pointer (some ⟨g, k, none⟩) := by rw [hA, cellAt, add_plain, Nat.zero_add]
    have hmc : c * sz ≤ cap * sz := Nat.mul_le_mul_right _ hnc
    have hrun := run_store1 (P := P) (w := w) hop hA' hX ht hgg (by omega) h1
    unfold lastOp
    rw [ho]
    simp only
    rw [E.wanted hg, if_pos hw]
    unfold Oper.wp
    rw [E.exec hc, hrun]
    have E2 := E.put (d := o.dst) (by rw [hd]; rfl) undef
    rw [hd] at E2
    rw [Oper.upon_skip, hd]
    refine kk _ _ (M.change hL _ (Ch.setRow (by simp [Ent.row, Value.ownBlock])) ⟨by simpa using hlen, .inr ⟨g, cap, _, rfl, h0, setRow_heap w g cur _ e _ hgg, hnc, hcm, by simpa using hcs, ?_⟩⟩ fun k' hk' => ?_) E2
    · simp only [Array.toList_setIfInBounds]
      rw [List.take_set, htk]
    · have := M.lt _ (List.mem_of_getElem? hL) k' (by simpa [Ent.row] using hk')
      exact ⟨by simpa using this, .inl (by simpa [Ent.row] using hk')⟩
end
end Go.Rill
end
section
namespace Go.Proofs
open Go.Shelf
def Try.keysL_ren : Go.Shelf.Ren := ⟨fun | 7 => 92 | 10 => 97 | n => n, fun | 23 => 83 | 26 => 3 | 3 => 30 | 28 => 127 | 0 => 0 | 27 => 126 | 33 => 100 | 4 => 4 | n => n, fun | n => n⟩
theorem Try.keysL : SlLaysZI.n7 Try.prog Try.keysL_ren :=
  { mixed := by kernel_rfl,
    f7 := ⟨Try.f92.name, by decide, Try.func92.trans (congrArg some (by kernel_rfl))⟩,
    f10 := ⟨Try.f97.name, by decide, Try.func97.trans (congrArg some (by kernel_rfl))⟩,
    t0 := Try.underlying0,
    a0 := Try.isAgg0,
    z0 := Try.sizeOf0,
    v0 := Try.zeroValue0,
    t4 := Try.underlying4,
    a4 := Try.isAgg4,
    z4 := Try.sizeOf4,
    v4 := Try.zeroValue4,
    t23 := Try.underlying83,
    a23 := Try.isAgg83,
    z23 := Try.sizeOf83,
    v23 := Try.zeroValue83,
    t26 := Try.underlying3,
    a26 := Try.isAgg3,
    z26 := Try.sizeOf3,
    v26 := Try.zeroValue3,
    t27 := Try.underlying126,
    a27 := Try.isAgg126,
    z27 := Try.sizeOf126,
    v27 := Try.zeroValue126,
    t28 := Try.underlying127,
    a28 := Try.isAgg127,
    z28 := Try.sizeOf127,
    v28 := Try.zeroValue127,
    t33 := Try.underlying100,
    a33 := Try.isAgg100,
    z33 := Try.sizeOf100,
    v33 := Try.zeroValue100 }
def Try.sortedL_ren : Go.Shelf.Ren := ⟨fun | 6 => 91 | 8 => 95 | 9 => 96 | 11 => 98 | 13 => 100 | 12 => 99 | 23 => 110 | 24 => 111 | 14 => 101 | 15 => 102 | 16 => 103 | 17 => 104 | 18 => 105 | 19 => 106 | 20 => 107 | 21 => 108 | 22 => 109 | 25 => 112 | 26 => 113 | 27 => 114 | 28 => 115 | 29 => 116 | 30 => 117 | 31 => 118 | n => n, fun | 26 => 3 | 28 => 127 | 24 => 58 | 0 => 0 | 3 => 3 | 37 => 108 | 48 => 144 | 50 => 107 | 4 => 4 | 40 => 136 | 39 => 135 | 45 => 141 | 5 => 5 | 9 => 9 | 51 => 146 | 55 => 150 | 57 => 152 | 58 => 153 | 33 => 100 | n => n, fun | n => n⟩
theorem Try.sortedL : SlLaysZI.n6 Try.prog Try.sortedL_ren :=
  { mixed := by kernel_rfl,
    f6 := ⟨Try.f91.name, by decide, Try.func91.trans (congrArg some (by kernel_rfl))⟩,
    f8 := ⟨Try.f95.name, by decide, Try.func95.trans (congrArg some (by kernel_rfl))⟩,
    f11 := ⟨Try.f98.name, by decide, Try.func98.trans (congrArg some (by kernel_rfl))⟩,
    t0 := Try.underlying0,
    a0 := Try.isAgg0,
    z0 := Try.sizeOf0,
    v0 := Try.zeroValue0,
    t24 := Try.underlying58,
    a24 := Try.isAgg58,
    z24 := Try.sizeOf58,
    v24 := Try.zeroValue58,
    t26 := Try.underlying3,
    a26 := Try.isAgg3,
    z26 := Try.sizeOf3,
    v26 := Try.zeroValue3,
    t28 := Try.underlying127,
    a28 := Try.isAgg127,
    z28 := Try.sizeOf127,
    v28 := Try.zeroValue127,
    i26 := by kernel_rfl }
def Try.sortL_ren : Go.Shelf.Ren := ⟨fun | 5 => 96 | 8 => 100 | 7 => 99 | 19 => 110 | 20 => 111 | 10 => 101 | 11 => 102 | 12 => 103 | 13 => 104 | 14 => 105 | 15 => 106 | 16 => 107 | 17 => 108 | 18 => 109 | 30 => 112 | 31 => 113 | 32 => 114 | 33 => 115 | 34 => 116 | 35 => 117 | 40 => 118 | n => n, fun | 23 => 58 | 25 => 3 | 3 => 3 | 32 => 108 | 22 => 58 | 0 => 0 | 44 => 144 | 46 => 107 | 4 => 4 | 36 => 136 | 35 => 135 | 41 => 141 | 5 => 5 | 9 => 9 | 53 => 146 | 57 => 150 | 63 => 152 | 64 => 153 | n => n, fun | n => n⟩
theorem Try.sortL : SlLaysM.n5 Try.prog Try.sortL_ren :=
  { mixed := by kernel_rfl,
    f5 := ⟨Try.f96.name, by decide, Try.func96.trans (congrArg some (by kernel_rfl))⟩,
    f7 := ⟨Try.f99.name, by decide, Try.func99.trans (congrArg some (by kernel_rfl))⟩,
    f8 := Try.func100.trans (congrArg some (by kernel_rfl)),
    f10 := ⟨Try.f101.name, by decide, Try.func101.trans (congrArg some (by kernel_rfl))⟩,
    f11 := ⟨Try.f102.name, by decide, Try.func102.trans (congrArg some (by kernel_rfl))⟩,
    f12 := ⟨Try.f103.name, by decide, Try.func103.trans (congrArg some (by kernel_rfl))⟩,
    f13 := ⟨Try.f104.name, by decide, Try.func104.trans (congrArg some (by kernel_rfl))⟩,
    f14 := ⟨Try.f105.name, by decide, Try.func105.trans (congrArg some (by kernel_rfl))⟩,
    f15 := ⟨Try.f106.name, by decide, Try.func106.trans (congrArg some (by kernel_rfl))⟩,
    f16 := ⟨Try.f107.name, by decide, Try.func107.trans (congrArg some (by kernel_rfl))⟩,
    f17 := ⟨Try.f108.name, by decide, Try.func108.trans (congrArg some (by kernel_rfl))⟩,
    f18 := ⟨Try.f109.name, by decide, Try.func109.trans (congrArg some (by kernel_rfl))⟩,
    f19 := Try.func110.trans (congrArg some (by kernel_rfl)),
    f20 := Try.func111.trans (congrArg some (by kernel_rfl)),
    f30 := ⟨Try.f112.name, by decide, Try.func112.trans (congrArg some (by kernel_rfl))⟩,
    f31 := Try.func113.trans (congrArg some (by kernel_rfl)),
    f32 := Try.func114.trans (congrArg some (by kernel_rfl)),
    f33 := ⟨Try.f115.name, by decide, Try.func115.trans (congrArg some (by kernel_rfl))⟩,
    f34 := ⟨Try.f116.name, by decide, Try.func116.trans (congrArg some (by kernel_rfl))⟩,
    f35 := ⟨Try.f117.name, by decide, Try.func117.trans (congrArg some (by kernel_rfl))⟩,
    f40 := ⟨Try.f118.name, by decide, Try.func118.trans (congrArg some (by kernel_rfl))⟩,
    t0 := Try.underlying0,
    a0 := Try.isAgg0,
    z0 := Try.sizeOf0,
    v0 := Try.zeroValue0,
    t3 := Try.underlying3,
    a3 := Try.isAgg3,
    z3 := Try.sizeOf3,
    v3 := Try.zeroValue3,
    t4 := Try.underlying4,
    a4 := Try.isAgg4,
    z4 := Try.sizeOf4,
    v4 := Try.zeroValue4,
    t5 := Try.underlying5,
    a5 := Try.isAgg5,
    z5 := Try.sizeOf5,
    v5 := Try.zeroValue5,
    t9 := Try.underlying9,
    a9 := Try.isAgg9,
    z9 := Try.sizeOf9,
    v9 := Try.zeroValue9,
    t22 := Try.underlying58,
    a22 := Try.isAgg58,
    z22 := Try.sizeOf58,
    v22 := Try.zeroValue58,
    t23 := Try.underlying58,
    a23 := Try.isAgg58,
    z23 := Try.sizeOf58,
    v23 := Try.zeroValue58,
    t25 := Try.underlying3,
    a25 := Try.isAgg3,
    z25 := Try.sizeOf3,
    v25 := Try.zeroValue3,
    t32 := Try.underlying108,
    a32 := Try.isAgg108,
    z32 := Try.sizeOf108,
    v32 := Try.zeroValue108,
    t35 := Try.underlying135,
    a35 := Try.isAgg135,
    z35 := Try.sizeOf135,
    v35 := Try.zeroValue135,
    t36 := Try.underlying136,
    a36 := Try.isAgg136,
    z36 := Try.sizeOf136,
    v36 := Try.zeroValue136,
    t41 := Try.underlying141,
    a41 := Try.isAgg141,
    z41 := Try.sizeOf141,
    v41 := Try.zeroValue141,
    t44 := Try.underlying144,
    a44 := Try.isAgg144,
    z44 := Try.sizeOf144,
    v44 := Try.zeroValue144,
    t46 := Try.underlying107,
    a46 := Try.isAgg107,
    z46 := Try.sizeOf107,
    v46 := Try.zeroValue107,
    t53 := Try.underlying146,
    a53 := Try.isAgg146,
    z53 := Try.sizeOf146,
    v53 := Try.zeroValue146,
    t57 := Try.underlying150,
    a57 := Try.isAgg150,
    z57 := Try.sizeOf150,
    v57 := Try.zeroValue150,
    t63 := Try.underlying152,
    a63 := Try.isAgg152,
    z63 := Try.sizeOf152,
    v63 := Try.zeroValue152,
    t64 := Try.underlying153,
    a64 := Try.isAgg153,
    z64 := Try.sizeOf153,
    v64 := Try.zeroValue153 }
end Go.Proofs
end
section
namespace Go.Rill
set_option linter.unusedVariables false
set_option linter.unusedSimpArgs false
open Go.RowKit
section
variable {P : Program}
theorem run_appendZ {ρ : Operand → Value} {o : Oper} {w : World} {t tx e e' : TypeId} {X Y : Operand} {sz bytes n m : Nat} {v x : Value} {xs news : List Value} {args : List Operand} {ts : List TypeId} (ho : o.op = .call { callee := .builtin .append, args := args.toArray, argTypes := ts.toArray }) (ha : args = [X, Y]) (hts : ts = [t, tx]) (hX : ρ X = v) (hY : ρ Y = x)
    (ht : tySlice P t e = true) (htx : tySlice P tx e' = true) (hz : tyZero P e sz = true) (hb : tyBytes' P e bytes = true) (hsz : 0 < sz) (hown : w.ownsRow 0 e sz v n xs) (hs : Src P sz tx x m news w) (hmax : (n + m) * (bytes + 1) ≤ 140737488355328) :
    ∃ v' w', (execOp ρ o).run P w = .ok (.value v') w' ∧ w'.ownsRow 0 e sz v' (n + m) (xs ++ news) ∧ w.grownBy w' v.ownBlock ∧ (∀ g, v'.ownBlock = some g → v.ownBlock = some g ∨ w.heap.size ≤ g) := by
  subst ha hts
  unfold tyZero at hz
  unfold tyBytes' at hb
  cases hi : P.info? e with
  | none => rw [hi] at hz; cases hz
  | some i =>
    rw [hi] at hz hb
    simp only [Bool.and_eq_true, beq_iff_eq] at hz hb
    cases hzz : i.zero with
    | none => rw [hzz] at hz; cases hz.2
    | some z =>
      rw [hzz] at hz
      have hzs : z.cells.size = sz := by simpa using hz.2
      have e1 : (n + m) * (bytes + 1) = (n + m) * bytes + (n + m) := by rw [Nat.mul_add, Nat.mul_one]
      obtain ⟨v', w', h2, h3, h4, h5, _⟩ := run_append_src (P := P) t tx o.type e i z sz bytes (slice_und ht) hi hzz hz.1 hb hzs hsz v n xs hown x m news hs (by simp only [maxLen]; omega) (by omega)
      refine ⟨v', w', ?_, h3, h4, h5⟩
      simp [execOp, ho, resolve, invoke, builtin, hX, hY, h2]
variable {ops : Array Oper} {Q : Exit → Act → World → Prop} {l : List (Nat × Value)} {n : Nat} {a : Act} {w w' w0 : World} {rest : List Oper} {o : Oper} {O : Nat → Prop} {L R : List Ent} {Φ : World → Prop}
/-- A slice of the call's own grows. -/
theorem sappZ {d : Tmp} {i k m sz bytes : Nat} {t tx e e' : TypeId} {X Y : Operand} {v x : Value} {xs news : List Value} {args : List Operand} {ts : List TypeId} (E : Env l n a) (M : Mem w0 O L Φ w) (hL : L[i]? = some (.row e sz v k xs)) (hd : o.dst = some d) (hn : Nat.blt d n = true) (hc : covers l o = true) (hg : guardIn ops l o = true) (hw : wantedL ops l o = true)
    (ho : o.op = .call { callee := .builtin .append, args := args.toArray, argTypes := ts.toArray }) (ha : args = [X, Y]) (hts : ts = [t, tx]) (hX : evL l X = v) (hY : evL l Y = x) (ht : tySlice P t e = true) (htx : tySlice P tx e' = true) (hz : tyZero P e sz = true) (hb : tyBytes' P e bytes = true) (hsz : 0 < sz) (hs : Src P sz tx x m news w) (hmax : (k + m) * (bytes + 1) ≤ 140737488355328)
    (kk : ∀ v' a' w', Mem w0 O (L.set i (.row e sz v' (k + m) (xs ++ news))) Φ w' → Env ((d, v') :: l) n a' → wpList P ops Q rest a' w') : wpList P ops Q (o :: rest) a w := by
  obtain ⟨v', w', h, h3, h4, h5⟩ := run_appendZ (P := P) ho ha hts hX hY ht htx hz hb hsz (M.ent i hL) hs hmax
  refine sv E hd hn hc hg hw h fun a' E' => kk v' a' w' (M.change hL _ ⟨h4.os, h4.tape, h4.output, ⟨h4.size, fun g hg hn => h4.block g hg (fun he => hn (by simp [Ent.row, ← he]))⟩⟩ h3 fun g hg => ?_) E'
  have hg' : v'.ownBlock = some g := by simpa [Ent.row] using hg
  refine ⟨?_, (h5 g hg').imp (fun h => by simp [Ent.row, h]) id⟩
  rcases h3.2 with ⟨rfl, _⟩ | ⟨g2, cap, cur, rfl, _, h6, _⟩
  · simp [Value.ownBlock] at hg'
  · simp [Value.ownBlock] at hg'
    subst hg'
    exact (Array.getElem?_eq_some_iff.1 h6).1

end
/-- .. and apart from these blocks. -/
def FarB (w : World) (F : Nat → Prop) (v : Value) (l : List UInt8) : Prop := (Bytes w v l ∧ ∀ g, v.ownBlock = some g → ¬ F g) ∨ ∃ a, v = .slice (some a) 0 0 ∧ l = []
def FarI (w : World) (F : Nat → Prop) (v : Value) (l : List Int) : Prop := (Reads 1 w v l.length (ic l) ∧ ∀ g, v.ownBlock = some g → ¬ F g) ∨ ∃ a, v = .slice (some a) 0 0 ∧ l = []
theorem FarB.held {w w' : World} {F : Nat → Prop} {v : Value} {l : List UInt8} (h : FarB w F v l) (H : Held F w w') : FarB w' F v l := h.imp (fun q => ⟨Reads.held q.1 H q.2, q.2⟩) id
theorem FarI.held {w w' : World} {F : Nat → Prop} {v : Value} {l : List Int} (h : FarI w F v l) (H : Held F w w') : FarI w' F v l := h.imp (fun q => ⟨Reads.held q.1 H q.2, q.2⟩) id
theorem FarB.less {w : World} {F G : Nat → Prop} {v : Value} {l : List UInt8} (h : FarB w F v l) (hg : ∀ g, G g → F g) : FarB w G v l := h.imp (fun q => ⟨q.1, fun g hv c => q.2 g hv (hg g c)⟩) id
theorem FarI.less {w : World} {F G : Nat → Prop} {v : Value} {l : List Int} (h : FarI w F v l) (hg : ∀ g, G g → F g) : FarI w G v l := h.imp (fun q => ⟨q.1, fun g hv c => q.2 g hv (hg g c)⟩) id
/-- An operation of the laws over a disk: what it is, a record, bytes, numbers. -/
structure OpT where
  k : Int
  n : Int
  m : Int
  r : Rec
  dv : Value
  lv : Value
  dl : List UInt8
  ll : List Int
def OpT.cells (o : OpT) : List Value := [.int .i64 o.k, .int .i64 o.n, .int .i64 o.m] ++ (o.r.cells ++ [o.dv, o.lv])
section
variable {o : OpT}
theorem OpT.len (h : o.r.Ok) : o.cells.length = 141 := by simp [OpT.cells, Rec.len h]
theorem OpT.size (h : o.r.Ok) : o.cells.toArray.size = 141 := by simp [OpT.len h]
theorem OpT.c_k : o.cells.toArray[0]? = some (.int .i64 o.k) := by simp [OpT.cells]
theorem OpT.c_n : o.cells.toArray[1]? = some (.int .i64 o.n) := by simp [OpT.cells]
theorem OpT.c_m : o.cells.toArray[2]? = some (.int .i64 o.m) := by simp [OpT.cells]
theorem OpT.c_r (h : o.r.Ok) : ((o.cells.toArray.toList.drop 3).take 136).toArray = o.r.cells.toArray := by
  show (((o.r.cells ++ [o.dv, o.lv]) : List Value).take 136).toArray = _
  rw [List.take_left' (Rec.len h)]
theorem OpT.c_d (h : o.r.Ok) : o.cells.toArray[139]? = some o.dv := by
  simp only [List.getElem?_toArray, OpT.cells]
  rw [List.getElem?_append_right (by simp), List.getElem?_append_right (by simp [Rec.len h])]
  simp [Rec.len h]
theorem OpT.c_l (h : o.r.Ok) : o.cells.toArray[140]? = some o.lv := by
  simp only [List.getElem?_toArray, OpT.cells]
  rw [List.getElem?_append_right (by simp), List.getElem?_append_right (by simp [Rec.len h])]
  simp [Rec.len h]
end
theorem src_zero {P : Program} {tx e' : TypeId} {a : Addr} {w : World} (htx : tySlice P tx e' = true) : Src P 1 tx (.slice (some a) 0 0) 0 [] w := Src.ofSlice w (slice_und htx) a 0 0 [] rfl (fun j u hu => by cases hu) (fun u hu => by cases hu)
end Go.Rill
end
section
namespace Go.Rill
set_option linter.unusedVariables false
set_option linter.unusedSimpArgs false
open Go.RowKit
def ocs (l : List OpT) : List Value := (l.map OpT.cells).flatten
def OOk (l : List OpT) : Prop := ∀ r ∈ l, r.r.Ok
@[simp] theorem ocs_nil : ocs [] = [] := rfl
theorem ocs_cons (r : OpT) (l : List OpT) : ocs (r :: l) = r.cells ++ ocs l := by simp [ocs]
theorem ocs_append (a b : List OpT) : ocs (a ++ b) = ocs a ++ ocs b := by simp [ocs]
theorem OOk.sub {a b : List OpT} (h : OOk b) (s : ∀ r ∈ a, r ∈ b) : OOk a := fun r hr => h r (s r hr)
theorem OOk.take {l : List OpT} (h : OOk l) (k : Nat) : OOk (l.take k) := fun r hr => h r (List.mem_of_mem_take hr)
theorem OOk.drop {l : List OpT} (h : OOk l) (k : Nat) : OOk (l.drop k) := fun r hr => h r (List.mem_of_mem_drop hr)
theorem OOk.set {l : List OpT} (h : OOk l) {k : Nat} {r : OpT} (hr : r.r.Ok) : OOk (l.set k r) := fun x hx => by
  rcases List.mem_or_eq_of_mem_set hx with h1 | rfl
  · exact h x h1
  · exact hr
theorem OOk.get {l : List OpT} (h : OOk l) {k : Nat} (hk : k < l.length) : (l[k]).r.Ok := h _ (List.getElem_mem hk)
theorem ocs_len {l : List OpT} (h : OOk l) : (ocs l).length = l.length * 141 := by
  induction l with
  | nil => rfl
  | cons r l ih => rw [ocs_cons, List.length_append, OpT.len (h r (List.mem_cons_self ..)), ih fun x hx => h x (List.mem_cons_of_mem _ hx), List.length_cons]; omega
theorem ocs_drop {l : List OpT} (h : OOk l) {k : Nat} (hk : k ≤ l.length) : (ocs l).drop (k * 141) = ocs (l.drop k) := by
  have e : ocs l = ocs (l.take k) ++ ocs (l.drop k) := by rw [← ocs_append, List.take_append_drop]
  rw [e]
  exact List.drop_left' (by rw [ocs_len (h.take k), List.length_take, Nat.min_eq_left hk])
theorem ocs_get {l : List OpT} (h : OOk l) {k : Nat} (hk : k < l.length) : ((ocs l).drop (k * 141)).take 141 = (l[k]).cells := by
  rw [ocs_drop h (Nat.le_of_lt hk), List.drop_eq_getElem_cons hk, ocs_cons]
  exact List.take_left' (OpT.len (h.get hk))
theorem ocs_at {l : List OpT} (h : OOk l) {k j : Nat} (hk : k < l.length) (hj : j < 141) : (ocs l)[k * 141 + j]? = (l[k]).cells[j]? := by
  rw [← ocs_get h hk, List.getElem?_take_of_lt hj, List.getElem?_drop]

theorem ocs_d {l : List OpT} (h : OOk l) {k : Nat} (hk : k < l.length) : (ocs l)[k * 141 + 139]? = some (l[k]).dv := by
  rw [ocs_at h hk (by decide)]
  simpa using OpT.c_d (h.get hk)
theorem ocs_l {l : List OpT} (h : OOk l) {k : Nat} (hk : k < l.length) : (ocs l)[k * 141 + 140]? = some (l[k]).lv := by
  rw [ocs_at h hk (by decide)]
  simpa using OpT.c_l (h.get hk)
/-- A slice of operations, each with its bytes and numbers apart from these blocks. -/
def Ops (w : World) (F : Nat → Prop) (v : Value) (l : List OpT) : Prop := Reads 141 w v l.length (ocs l) ∧ ∀ o ∈ l, FarB w F o.dv o.dl ∧ FarI w F o.lv o.ll
theorem Ops.held {w w' : World} {F : Nat → Prop} {v : Value} {l : List OpT} (h : Ops w F v l) (H : Held F w w') (hv : ∀ g, v.ownBlock = some g → ¬ F g) : Ops w' F v l := ⟨Reads.held h.1 H hv, fun o ho => ⟨(h.2 o ho).1.held H, (h.2 o ho).2.held H⟩⟩
theorem FarB.slice {w : World} {F : Nat → Prop} {v : Value} {l : List UInt8} (h : FarB w F v l) : ∃ b c, v = .slice b l.length c := by
  rcases h with ⟨h, _⟩ | ⟨a, rfl, rfl⟩
  · exact Reads.slice h
  · exact ⟨_, _, rfl⟩
theorem FarI.slice {w : World} {F : Nat → Prop} {v : Value} {l : List Int} (h : FarI w F v l) : ∃ b c, v = .slice b l.length c := by
  rcases h with ⟨h, _⟩ | ⟨a, rfl, rfl⟩
  · exact Reads.slice h
  · exact ⟨_, _, rfl⟩
/-- Bytes out of a pool, apart from another thing. -/
theorem Mem.offPool {w0 w : World} {O : Nat → Prop} {L : List Ent} {Φ : World → Prop} {e : Ent} {i j : Nat} {ps : List (Value × List UInt8)} {v : Value} {l : List UInt8} (M : Mem w0 O L Φ w) (hi : L[i]? = some e) (hj : L[j]? = some (.pool ps)) (hij : Nat.beq i j = false) (hp : (v, l) ∈ ps) : FarB w (fun g => g ∈ e.foot) v l := by
  refine .inl ⟨M.pooled hj hp, fun g hg hc => ?_⟩
  have hne : i ≠ j := fun c => by subst c; rw [Nat.beq_refl] at hij; cases hij
  obtain ⟨hi1, hi2⟩ := List.getElem?_eq_some_iff.1 hi
  obtain ⟨hj1, hj2⟩ := List.getElem?_eq_some_iff.1 hj
  have hpw := List.pairwise_iff_getElem.1 M.apart
  have hg' : g ∈ (L[j]).foot := by rw [hj2]; exact List.mem_filterMap.2 ⟨_, hp, hg⟩
  have hc' : g ∈ (L[i]).foot := by rw [hi2]; exact hc
  rcases Nat.lt_or_gt_of_ne hne with h | h
  · exact hpw i j hi1 hj1 h g hc' hg'
  · exact hpw j i hj1 hi1 h g hg' hc'
/-- What came in is old: apart from all that the call makes. -/
theorem Ops.old {w : World} {v : Value} {l : List OpT} (h : Reads 141 w v l.length (ocs l)) (hi : ∀ o ∈ l, (((Bytes w o.dv o.dl ∧ ∀ g, o.dv.ownBlock = some g → g < w.heap.size) ∨ ∃ a, o.dv = .slice (some a) 0 0 ∧ o.dl = []) ∧ ((Reads 1 w o.lv o.ll.length (ic o.ll) ∧ ∀ g, o.lv.ownBlock = some g → g < w.heap.size) ∨ ∃ a, o.lv = .slice (some a) 0 0 ∧ o.ll = []))) : Ops w (fun g => w.heap.size ≤ g) v l :=
  ⟨h, fun o ho => ⟨(hi o ho).1.imp (fun q => ⟨q.1, fun g hg c => Nat.not_le_of_lt (q.2 g hg) c⟩) id, (hi o ho).2.imp (fun q => ⟨q.1, fun g hg c => Nat.not_le_of_lt (q.2 g hg) c⟩) id⟩⟩
theorem OpT.ones {o : OpT} (hr : o.r.Ok) (hd : ∃ b n c, o.dv = .slice b n c) (hl : ∃ b n c, o.lv = .slice b n c) : ∀ v ∈ o.cells.toArray, v.oneCell' = true := by
  obtain ⟨b1, n1, c1, e1⟩ := hd
  obtain ⟨b2, n2, c2, e2⟩ := hl
  intro v hv
  have hv : v ∈ o.cells := by simpa using hv
  unfold OpT.cells at hv
  simp only [List.mem_append, List.mem_cons, List.not_mem_nil, or_false] at hv
  rcases hv with (rfl | rfl | rfl) | hv | rfl | rfl
  · rfl
  · rfl
  · rfl
  · exact Rec.ones o.r v (by simpa using hv)
  · rw [e1]; rfl
  · rw [e2]; rfl
theorem Mem.poolOff {w0 w : World} {O : Nat → Prop} {L : List Ent} {Φ : World → Prop} {e : Ent} {i j : Nat} {ps : List (Value × List UInt8)} {v : Value} {l : List UInt8} (M : Mem w0 O L Φ w) (hi : L[i]? = some e) (hj : L[j]? = some (.pool ps)) (hij : Nat.beq i j = false) (hp : (v, l) ∈ ps) : ∀ g, v.ownBlock = some g → ¬ g ∈ e.foot := fun g hg => by
  rcases M.offPool hi hj hij hp with ⟨_, h⟩ | ⟨a, h1, h2⟩
  · exact h g hg
  · intro hc
    have hne : i ≠ j := fun c => by subst c; rw [Nat.beq_refl] at hij; cases hij
    obtain ⟨hi1, hi2⟩ := List.getElem?_eq_some_iff.1 hi
    obtain ⟨hj1, hj2⟩ := List.getElem?_eq_some_iff.1 hj
    have hpw := List.pairwise_iff_getElem.1 M.apart
    have hg' : g ∈ (L[j]).foot := by rw [hj2]; exact List.mem_filterMap.2 ⟨_, hp, hg⟩
    have hc' : g ∈ (L[i]).foot := by rw [hi2]; exact hc
    rcases Nat.lt_or_gt_of_ne hne with h | h
    · exact hpw i j hi1 hj1 h g hc' hg'
    · exact hpw j i hj1 hi1 h g hg' hc'
end Go.Rill
end
section
namespace Go.Rill
set_option linter.unusedVariables false
set_option linter.unusedSimpArgs false
open Go.RowKit Go.ChangeShapes Go.WideShapes
section
variable {H : Type} {enc : TypeId × Value → H} {P : Program} {W : World} {base b0 : Nat} {spare : Nat → Bool} {held : Bool} {r : Reach} {t e : TypeId} {v : Value}
end
end Go.Rill
end
section
namespace Go.Rill
set_option linter.unusedVariables false
set_option linter.unusedSimpArgs false
open Go.RowKit Go.ChangeShapes Go.WideShapes
section
variable {H : Type} {enc : TypeId × Value → H} {P : Program} {W : World} {base b0 : Nat} {spare : Nat → Bool} {held : Bool} {r : Reach} {t e : TypeId} {v : Value}
theorem cell_there {w : World} {a : Addr} {v : Value} (h : w.cell? a = some v) : a.spot = none ∧ a.block < w.heap.size := by
  unfold World.cell? at h
  split at h
  · rename_i c _ _ hb
    split at h
    · cases h
    · rename_i hs
      exact ⟨by simpa using hs, (Array.getElem?_eq_some_iff.1 hb).1⟩
  · cases h
theorem nest_bytes {d : DataW H × List MemPlace} {n : Nat} {v : Value} (ht : P.underlying t = some (.slice e)) (he : P.underlying e = some (.int .u8)) (hc : P.cellsOf e = 1) (hf : DataW.trod enc P W base (fun _ => true) held n t [v] = some d) :
    ∃ l : List UInt8, (Bytes W v l ∧ ∀ g, v.ownBlock = some g → g < W.heap.size) ∨ ∃ a, v = .slice (some a) 0 0 ∧ l = [] := by
  rcases open_ints ht he hc hf with ⟨hcs, _⟩ | ⟨x, len, cap, zs, hcs, _, hl, hm, hz, _, hcell, hwz⟩
  · simp at hcs
    subst hcs
    exact ⟨[], .inl ⟨Bytes.nil W, fun g hg => by simp [Value.ownBlock] at hg⟩⟩
  · simp at hcs
    subst hcs
    by_cases h0 : cap = 0
    · subst h0
      obtain rfl : len = 0 := by omega
      exact ⟨[], .inr ⟨x, rfl, rfl⟩⟩
    have hz0 : 0 < zs.length := by have : zs.length = cap := by simpa using hz
                                   omega
    obtain ⟨hs, hg⟩ := cell_there (hcell 0 hz0)
    obtain ⟨g, off, spot⟩ := x
    have hs : spot = none := by simpa [Addr.add] using hs
    subst hs
    have hg : g < W.heap.size := by simpa [Addr.add] using hg
    have hzl : zs.length = cap := by simpa using hz
    have hll : ((zs.take len).map fun n => UInt8.ofNat n.toNat).length = len := by simp; omega
    refine ⟨(zs.take len).map fun n => UInt8.ofNat n.toNat, .inl ⟨⟨by simp, .inr ⟨g, off, cap, by rw [hll], by omega, hm, hg, fun j u hu => ?_⟩⟩, fun g' hg' => by simp [Value.ownBlock] at hg'; omega⟩⟩
    unfold bc at hu
    rw [List.map_map, List.getElem?_map] at hu
    cases hj : (zs.take len)[j]? with
    | none => rw [hj] at hu; cases hu
    | some n =>
      rw [hj] at hu
      simp only [Option.map_some, Function.comp, Option.some.injEq] at hu
      have hjl := (List.getElem?_eq_some_iff.1 hj).1
      have hjz : j < zs.length := by simp at hjl; omega
      have hn : zs[j]? = some n := by
        rw [List.getElem?_take] at hj
        split at hj
        · exact hj
        · cases hj
      have hmem : n ∈ zs := List.mem_of_getElem? hn
      rw [u8_back (hwz n hmem)] at hu
      have := hcell j hjz
      rw [add_plain, List.getD_eq_getElem?_getD, hn] at this
      rw [this, ← hu]
      rfl
theorem nest_ints {d : DataW H × List MemPlace} {n : Nat} {v : Value} (ht : P.underlying t = some (.slice e)) (he : P.underlying e = some (.int .i64)) (hc : P.cellsOf e = 1) (hf : DataW.trod enc P W base (fun _ => true) held n t [v] = some d) :
    ∃ l : List Int, (Reads 1 W v l.length (ic l) ∧ ∀ g, v.ownBlock = some g → g < W.heap.size) ∨ ∃ a, v = .slice (some a) 0 0 ∧ l = [] := by
  rcases open_ints ht he hc hf with ⟨hcs, _⟩ | ⟨x, len, cap, zs, hcs, _, hl, hm, hz, _, hcell, hwz⟩
  · simp at hcs
    subst hcs
    exact ⟨[], .inl ⟨Reads.nil _ _, fun g hg => by simp [Value.ownBlock] at hg⟩⟩
  · simp at hcs
    subst hcs
    by_cases h0 : cap = 0
    · subst h0
      obtain rfl : len = 0 := by omega
      exact ⟨[], .inr ⟨x, rfl, rfl⟩⟩
    have hz0 : 0 < zs.length := by have : zs.length = cap := by simpa using hz
                                   omega
    obtain ⟨hs, hg⟩ := cell_there (hcell 0 hz0)
    obtain ⟨g, off, spot⟩ := x
    have hs : spot = none := by simpa [Addr.add] using hs
    subst hs
    have hg : g < W.heap.size := by simpa [Addr.add] using hg
    have hzl : zs.length = cap := by simpa using hz
    have hll : (zs.take len).length = len := by simp; omega
    refine ⟨zs.take len, .inl ⟨⟨by simp [ic], .inr ⟨g, off, cap, by rw [hll], by omega, hm, hg, fun j u hu => ?_⟩⟩, fun g' hg' => by simp [Value.ownBlock] at hg'; omega⟩⟩
    unfold ic at hu
    rw [List.getElem?_map] at hu
    cases hj : (zs.take len)[j]? with
    | none => rw [hj] at hu; cases hu
    | some n =>
      rw [hj] at hu
      simp only [Option.map_some, Option.some.injEq] at hu
      have hjl := (List.getElem?_eq_some_iff.1 hj).1
      have hjz : j < zs.length := by simp at hjl; omega
      have hn : zs[j]? = some n := by
        rw [List.getElem?_take] at hj
        split at hj
        · exact hj
        · cases hj
      have := hcell j hjz
      rw [add_plain, List.getD_eq_getElem?_getD, hn] at this
      rw [this, ← hu]
      rfl
/-- What is known of an operation that comes in. -/
def OpT.In (W : World) (o : OpT) : Prop := o.r.Ok ∧ ((Bytes W o.dv o.dl ∧ ∀ g, o.dv.ownBlock = some g → g < W.heap.size) ∨ ∃ a, o.dv = .slice (some a) 0 0 ∧ o.dl = []) ∧ ((Reads 1 W o.lv o.ll.length (ic o.ll) ∧ ∀ g, o.lv.ownBlock = some g → g < W.heap.size) ∨ ∃ a, o.lv = .slice (some a) 0 0 ∧ o.ll = [])
theorem op_of {fs : Array Field} {ti tr tb tl eb : TypeId} {fuel : Nat} {cs : List Value} {x : DataW H × List MemPlace} (hu : P.underlying e = some (.struct fs)) (hfs : fs.toList.map (fun f => (f.type, f.offset)) = [(ti, 0), (ti, 1), (ti, 2), (tr, 3), (tb, 139), (tl, 140)])
    (hi : P.underlying ti = some (.int .i64)) (ci : P.cellsOf ti = 1) (hk : flatK P 10000 tr = some ([.i64] ++ [.i64] ++ [.i64] ++ List.replicate 32 .u8 ++ [.i64] ++ List.replicate 32 .u8 ++ [.i64] ++ [.i64] ++ [.i64] ++ [.i64] ++ List.replicate 32 .u8 ++ List.replicate 32 .u8)) (hO : flatO P 10000 tr = true) (cr : P.cellsOf tr = 136)
    (hb : P.underlying tb = some (.slice eb)) (heb : P.underlying eb = some (.int .u8)) (ceb : P.cellsOf eb = 1) (cb : P.cellsOf tb = 1) (hl : P.underlying tl = some (.slice ti)) (cl : P.cellsOf tl = 1) (ce : P.cellsOf e = 141)
    (h : DataW.trod enc P W base (fun _ => true) held fuel e cs = some x) : ∃ o : OpT, o.In W ∧ cs = o.cells := by
  obtain ⟨xs, n, _, _, hlen, hxl, hf⟩ := DataW.trod_struct hu h
  rw [ce] at hlen
  have fld : ∀ (i : Nat) (ty off : Nat), [(ti, 0), (ti, 1), (ti, 2), (tr, 3), (tb, 139), (tl, 140)][i]? = some (ty, off) → ∃ y, DataW.trod enc P W base (fun _ => true) held n ty ((cs.drop off).take (P.cellsOf ty)) = some y := fun i ty off hi => by
    rw [← hfs, List.getElem?_map] at hi
    cases hfi : fs.toList[i]? with
    | none => rw [hfi] at hi; cases hi
    | some f =>
      rw [hfi] at hi
      simp only [Option.map_some, Option.some.injEq, Prod.mk.injEq] at hi
      obtain ⟨rfl, rfl⟩ := hi
      have h1 := hf i f (by simpa using hfi)
      have hil : i < fs.toList.length := (List.getElem?_eq_some_iff.1 hfi).1
      rw [h1]
      exact ⟨_, List.getElem?_eq_getElem (by simpa [hxl] using hil)⟩
  obtain ⟨y0, h0⟩ := fld 0 ti 0 rfl
  obtain ⟨y1, h1⟩ := fld 1 ti 1 rfl
  obtain ⟨y2, h2⟩ := fld 2 ti 2 rfl
  obtain ⟨y3, h3⟩ := fld 3 tr 3 rfl
  obtain ⟨y4, h4⟩ := fld 4 tb 139 rfl
  obtain ⟨y5, h5⟩ := fld 5 tl 140 rfl
  rw [ci] at h0 h1 h2
  rw [cr] at h3
  rw [cb] at h4
  rw [cl] at h5
  obtain ⟨k, e0, _⟩ := DataW.trod_int hi h0
  obtain ⟨nn, e1, _⟩ := DataW.trod_int hi h1
  obtain ⟨m, e2, _⟩ := DataW.trod_int hi h2
  obtain ⟨a1, a2⟩ := trod_flat 10000 tr _ hk hO n _ _ h3
  obtain ⟨r, hr, e3⟩ := rec_of a1 a2
  have one : ∀ off, off < 141 → ∃ u, (cs.drop off).take 1 = [u] := fun off ho => List.length_eq_one_iff.1 (by simp; omega)
  obtain ⟨dv, e4⟩ := one 139 (by decide)
  obtain ⟨lv, e5⟩ := one 140 (by decide)
  rw [e4] at h4
  rw [e5] at h5
  obtain ⟨dl, hd⟩ := nest_bytes hb heb ceb h4
  obtain ⟨ll, hll⟩ := nest_ints hl hi ci h5
  refine ⟨⟨k, nn, m, r, dv, lv, dl, ll⟩, ⟨hr, hd, hll⟩, ?_⟩
  have s0 : cs = (cs.drop 0).take 1 ++ ((cs.drop 1).take 1 ++ ((cs.drop 2).take 1 ++ ((cs.drop 3).take 136 ++ ((cs.drop 139).take 1 ++ (cs.drop 140).take 1)))) := by
    have t : ∀ a b, (cs.drop a) = (cs.drop a).take b ++ cs.drop (a + b) := fun a b => by rw [← List.drop_drop, List.take_append_drop]
    have z : cs.drop 140 = (cs.drop 140).take 1 := (List.take_of_length_le (by simp; omega)).symm
    conv => lhs; rw [show cs = cs.drop 0 from rfl, t 0 1, t 1 1, t 2 1, t 3 136, t 139 1, z]
  rw [s0, e0, e1, e2, e3, e4, e5]
  rfl
/-- Any operations that are handed in. -/
theorem ops_arg {fs : Array Field} {ti tr tb tl eb : TypeId} {d : DataW H} {p : List MemPlace} (ht : P.underlying t = some (.slice e)) (hu : P.underlying e = some (.struct fs)) (hfs : fs.toList.map (fun f => (f.type, f.offset)) = [(ti, 0), (ti, 1), (ti, 2), (tr, 3), (tb, 139), (tl, 140)])
    (hi : P.underlying ti = some (.int .i64)) (ci : P.cellsOf ti = 1) (hk : flatK P 10000 tr = some ([.i64] ++ [.i64] ++ [.i64] ++ List.replicate 32 .u8 ++ [.i64] ++ List.replicate 32 .u8 ++ [.i64] ++ [.i64] ++ [.i64] ++ [.i64] ++ List.replicate 32 .u8 ++ List.replicate 32 .u8)) (hO : flatO P 10000 tr = true) (cr : P.cellsOf tr = 136)
    (hbt : P.underlying tb = some (.slice eb)) (heb : P.underlying eb = some (.int .u8)) (ceb : P.cellsOf eb = 1) (cb : P.cellsOf tb = 1) (hl' : P.underlying tl = some (.slice ti)) (cl : P.cellsOf tl = 1) (ce : P.cellsOf e = 141)
    (hval : Value.okWide P W r b0 t v) (h : DataW.Trod enc P W base (fun _ => true) held t v d p) : ∃ l : List OpT, OOk l ∧ Reads 141 W v l.length (ocs l) ∧ ∀ o ∈ l, o.In W := by
  have hval' := hval
  obtain ⟨a, len, cap, rfl⟩ := okWide_slice ht hval
  obtain ⟨fuel, hf⟩ := h
  rcases DataW.trod_slice ht hf with ⟨hcs, _⟩ | ⟨x, l, c, elems, rest, n, _, hcs, _, hb, hl, hm, hlen, hel, _, _⟩
  · simp [Value.cells] at hcs
    obtain ⟨rfl, rfl, rfl⟩ := hcs
    exact ⟨[], (fun o ho => (by cases ho)), Reads.nil _ _, (fun o ho => (by cases ho))⟩
  · simp [Value.cells] at hcs
    obtain ⟨rfl, rfl, rfl⟩ := hcs
    have hcl : Cell.ok P W r b0 t (.slice (some x) len cap) := by
      unfold Value.okWide at hval'
      rw [ht] at hval'
      simp only at hval'
      unfold Cell.okWide at hval'
      rw [ht] at hval'
      exact hval'
    unfold Cell.ok at hcl
    rw [ht] at hcl
    obtain ⟨_, _, _, hs, row, cells, hsh, _⟩ := hcl
    obtain ⟨g, off, spot⟩ := x
    have hs : spot = none := hs
    subst hs
    have hg : g < W.heap.size := by
      unfold World.shape? at hsh
      cases hh : W.heap[g]? with
      | none => rw [hh] at hsh; cases hsh
      | some o => exact (Array.getElem?_eq_some_iff.1 hh).1
    obtain ⟨L, hL, each⟩ := choose_list (p := fun i (o : OpT) => o.In W ∧ ∀ j u, o.cells[j]? = some u → W.cell? ⟨g, off + (i * 141 + j), none⟩ = some u) len fun i hi' => by
      have h1 := hel i hi'
      rw [List.getElem?_eq_getElem (by omega), Option.bind_eq_some_iff] at h1
      obtain ⟨cs, h2, h3⟩ := h1
      obtain ⟨q, hq, rfl⟩ := op_of hu hfs hi ci hk hO cr hbt heb ceb cb hl' cl ce h3
      obtain ⟨_, h4, h5⟩ := World.cells?_some h2
      refine ⟨q, hq, fun j u hu => ?_⟩
      have hj : j < q.cells.length := (List.getElem?_eq_some_iff.1 hu).1
      have := h5 j (by omega)
      rw [hu, ce, add_plain, add_plain] at this
      rw [← this]
      congr 2
      omega
    have hok : OOk L := fun r hr => by
      obtain ⟨i, hi, rfl⟩ := List.getElem_of_mem hr
      exact (each i hi).1.1
    refine ⟨L, hok, ⟨ocs_len hok, .inr ⟨g, off, cap, by rw [hL], by omega, hm, hg, fun j u hu => ?_⟩⟩, fun r hr => ?_⟩
    · have hj : j < L.length * 141 := by have := (List.getElem?_eq_some_iff.1 hu).1; rwa [ocs_len hok] at this
      have hk : j / 141 < L.length := Nat.div_lt_of_lt_mul (by omega)
      have e1 : j = j / 141 * 141 + j % 141 := by omega
      rw [e1] at hu ⊢
      rw [ocs_at hok hk (Nat.mod_lt _ (by decide))] at hu
      exact (each _ hk).2 _ _ hu
    · obtain ⟨i, hi, rfl⟩ := List.getElem_of_mem hr
      exact (each i hi).1
end
end Go.Rill
end
