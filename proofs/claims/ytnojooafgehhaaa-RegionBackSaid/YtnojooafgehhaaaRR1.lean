/- Slices of records; items of several cells stored into a slice of the call's own; a slice's end cleared. Of whatever program. -/
import Derived.Test.YtnojooafgehhaaaRR
import Derived.WalkKit
import Derived.ChangeSlices
import Derived.OpenShut
import Derived.WideShapes
import Derived.Lib.SmallJoins
section
namespace Go.Rill
set_option linter.unusedVariables false
set_option linter.unusedSimpArgs false
open Go.RowKit
def rcs (l : List Rec) : List Value := (l.map Rec.cells).flatten
def Oks (l : List Rec) : Prop := ∀ r ∈ l, r.Ok
@[simp] theorem rcs_nil : rcs [] = [] := rfl
theorem rcs_cons (r : Rec) (l : List Rec) : rcs (r :: l) = r.cells ++ rcs l := by simp [rcs]
theorem rcs_append (a b : List Rec) : rcs (a ++ b) = rcs a ++ rcs b := by simp [rcs]
theorem Oks.sub {a b : List Rec} (h : Oks b) (s : ∀ r ∈ a, r ∈ b) : Oks a := fun r hr => h r (s r hr)
theorem Oks.take {l : List Rec} (h : Oks l) (k : Nat) : Oks (l.take k) := fun r hr => h r (List.mem_of_mem_take hr)
theorem Oks.drop {l : List Rec} (h : Oks l) (k : Nat) : Oks (l.drop k) := fun r hr => h r (List.mem_of_mem_drop hr)
theorem Oks.set {l : List Rec} (h : Oks l) {k : Nat} {r : Rec} (hr : r.Ok) : Oks (l.set k r) := fun x hx => by
  rcases List.mem_or_eq_of_mem_set hx with h1 | rfl
  · exact h x h1
  · exact hr
theorem Oks.get {l : List Rec} (h : Oks l) {k : Nat} (hk : k < l.length) : (l[k]).Ok := h _ (List.getElem_mem hk)
theorem rcs_len {l : List Rec} (h : Oks l) : (rcs l).length = l.length * 136 := by
  induction l with
  | nil => rfl
  | cons r l ih => rw [rcs_cons, List.length_append, Rec.len (h r (List.mem_cons_self ..)), ih fun x hx => h x (List.mem_cons_of_mem _ hx), List.length_cons]; omega
theorem rcs_take {l : List Rec} (h : Oks l) {k : Nat} (hk : k ≤ l.length) : (rcs l).take (k * 136) = rcs (l.take k) := by
  have e : rcs l = rcs (l.take k) ++ rcs (l.drop k) := by rw [← rcs_append, List.take_append_drop]
  rw [e]
  exact List.take_left' (by rw [rcs_len (h.take k), List.length_take, Nat.min_eq_left hk])
theorem rcs_drop {l : List Rec} (h : Oks l) {k : Nat} (hk : k ≤ l.length) : (rcs l).drop (k * 136) = rcs (l.drop k) := by
  have e : rcs l = rcs (l.take k) ++ rcs (l.drop k) := by rw [← rcs_append, List.take_append_drop]
  rw [e]
  exact List.drop_left' (by rw [rcs_len (h.take k), List.length_take, Nat.min_eq_left hk])
theorem rcs_get {l : List Rec} (h : Oks l) {k : Nat} (hk : k < l.length) : ((rcs l).drop (k * 136)).take 136 = (l[k]).cells := by
  rw [rcs_drop h (Nat.le_of_lt hk), List.drop_eq_getElem_cons hk, rcs_cons]
  exact List.take_left' (Rec.len (h.get hk))
theorem rcs_set {l : List Rec} (h : Oks l) {k : Nat} (hk : k < l.length) (r : Rec) : (rcs l).take (k * 136) ++ r.cells ++ (rcs l).drop (k * 136 + 136) = rcs (l.set k r) := by
  rw [rcs_take h (Nat.le_of_lt hk), show k * 136 + 136 = (k + 1) * 136 by omega, rcs_drop h hk, List.set_eq_take_append_cons_drop, if_pos hk, rcs_append, rcs_cons, List.append_assoc]
/-- What a slice of records reads as. -/
abbrev Recs (w : World) (v : Value) (l : List Rec) : Prop := Reads 136 w v l.length (rcs l)
theorem Recs.held0 {w w' : World} {v : Value} {l : List Rec} (h : Recs w v l) (H : Held (feet []) w w') : Recs w' v l := Reads.held0 h H
theorem Recs.nil (w : World) : Recs w (.slice none 0 0) [] := Reads.nil 136 w
theorem Recs.pre {w : World} {v : Value} {l : List Rec} {k : Nat} (h : Recs w v l) (ho : Oks l) (hk : k ≤ l.length) : Recs w (cutV 136 v 0 k) (l.take k) := by
  have := Reads.cut h (Nat.zero_le k) hk
  simp only [Nat.zero_mul, List.drop_zero, Nat.sub_zero] at this
  rw [rcs_take ho hk] at this
  unfold Recs
  rwa [List.length_take, Nat.min_eq_left hk]
theorem Recs.as {w : World} {v : Value} {l k : List Rec} (h : Recs w v l) (e : l = k) : Recs w v k := e ▸ h
abbrev Ent.recs (e : TypeId) (v : Value) (l : List Rec) : Ent := .row e 136 v l.length (rcs l)
/-- A part of a block, of the call's own, that reads as cells. -/
def Ent.part (sz : Nat) (v : Value) (n : Nat) (xs : List Value) : Ent := ⟨v.ownBlock.toList, fun w => Reads sz w v n xs, fun w w' h k => by
  refine ⟨k.1, ?_⟩
  rcases k.2 with h2 | ⟨g, off, cap, rfl, h3, h4, h5, h6⟩
  · exact .inl h2
  · have hb := h g (by simp [Value.ownBlock])
    refine .inr ⟨g, off, cap, rfl, h3, h4, ?_, fun j u hu => (World.cell?_of_block (w := w) hb).trans (h6 j u hu)⟩
    have h7 : (w.heap[g]?).isSome = true := by simp [h5]
    rw [← hb] at h7
    simpa using h7⟩
abbrev Ent.subr (v : Value) (l : List Rec) : Ent := .part 136 v l.length (rcs l)
/-- .. not held against another. -/
theorem run_neF {P : Program} {ρ : Operand → Value} {o : Oper} {w : World} {t t' : TypeId} {X Y : Operand} {xs ys : List Value} {ks : List IntKind} {b : Bool} (ho : o.op = .binOp .neq t X Y t') (hX : ρ X = .agg xs.toArray) (hY : ρ Y = .agg ys.toArray) (ht : tyFlat P t ks = true) (hx : Fit ks xs) (hy : Fit ks ys) (hb : b = true ↔ xs = ys) :
    (execOp ρ o).run P w = .ok (.value (.bool !b)) w := by
  simp only [tyFlat, Bool.and_eq_true, Bool.not_eq_true', beq_iff_eq] at ht
  obtain ⟨⟨h1, h2⟩, h3⟩ := ht
  obtain ⟨r, hr, hrb⟩ := flat_eq 10000 t ks h1 w xs ys hx hy
  simp only [mkv, h2, Bool.false_eq_true, if_false] at hr
  have e : r = b := by rw [Bool.eq_iff_iff, hrb, hb]
  subst e
  have hg := run_eqGuard_agg (P := P) w .neq t X Y xs.toArray ys.toArray h3
  have he := run_neq_struct (P := P) w t xs.toArray ys.toArray
  rw [hr, Result.andThen_ok] at he
  simp only [execOp, ho, hX, hY, Sem.run_bind, hg, Result.andThen_ok, he]
  rfl
/-- A call of a closure. -/
theorem run_callC {P : Program} {ρ : Operand → Value} {o : Oper} {w : World} {x : Operand} {args : List Operand} {ts : Array TypeId} {f : FuncId} {cs : List Value} (ho : o.op = .call { callee := .value x, args := args.toArray, argTypes := ts }) (hx : ρ x = .func (.func f) #[] cs.toArray) (hf : goFn P f = true) :
    (execOp ρ o).run P w = .ok (.enter f (args.map ρ ++ cs).toArray) w := by
  unfold goFn at hf
  cases h : P.funcs[f]? with
  | none => rw [h] at hf; cases hf
  | some fn =>
    rw [h] at hf
    simp only [Bool.and_eq_true, Bool.not_eq_true'] at hf
    obtain ⟨h1, h2⟩ := hf
    have h3 : ¬ fn.body = none := by cases hb : fn.body <;> simp_all
    have h4 : ¬ fn.name = "runtime.NumGoroutine" := by simpa using h2
    simp [execOp, ho, resolve, hx, Deferred.ofValue, invoke, callFunc, h, h4, h3, program, Sem.run]
section
variable {P : Program} {ops : Array Oper} {Q : Exit → Act → World → Prop} {l : List (Nat × Value)} {n : Nat} {a : Act} {w w' w0 : World} {rest : List Oper} {o : Oper} {O : Nat → Prop} {L R : List Ent} {Φ : World → Prop}
theorem Mem.parts {sz m : Nat} {v : Value} {xs : List Value} (M : Mem w0 O L Φ w) (i : Nat) (h : L[i]? = some (.part sz v m xs)) : Reads sz w v m xs := M.ent i h
theorem Mem.asPart {e : TypeId} {sz m : Nat} {v : Value} {xs : List Value} (M : Mem w0 O L Φ w) (i k : Nat) (h : L[i]? = some (.row e sz v m xs)) (hk : k ≤ m) : Mem w0 O (L.set i (.part sz (cutV sz v 0 k) k (xs.take (k * sz)))) Φ w := by
  refine M.view h _ (fun hr => ?_) fun g hg => ?_
  · have := Reads.cut (ownsRow_reads hr) (Nat.zero_le k) hk
    simp only [Nat.zero_mul, List.drop_zero, Nat.sub_zero] at this
    exact this
  · obtain ⟨b, c, hv⟩ := Reads.slice (M.reads i h)
    simp only [Ent.part] at hg
    rw [cutV_block _ _ _ _ ⟨b, _, c, hv⟩] at hg
    exact hg
theorem Mem.asWhole {e : TypeId} {sz m : Nat} {v : Value} {xs : List Value} (M : Mem w0 O L Φ w) (i : Nat) (h : L[i]? = some (.row e sz v m xs)) : Mem w0 O (L.set i (.part sz v m xs)) Φ w :=
  M.view h _ (fun hr => ownsRow_reads hr) fun g hg => hg
theorem Mem.nilRecs (M : Mem w0 O L Φ w) (e : TypeId) : Mem w0 O (.recs e (.slice none 0 0) [] :: L) Φ w :=
  M.adopt (Ext.refl w) _ (World.ownsRow_nil w 0 e 136) fun g hg => by simp [Ent.row, Value.ownBlock] at hg
theorem run_mkF {ρ : Operand → Value} {x : Operand} {f : FuncId} {v : Value} (ho : o.op = .makeFunc (.func f) #[] #[x]) (hx : ρ x = v) : (execOp ρ o).run P w = .ok (.value (.func (.func f) #[] #[v])) w := by
  simp [execOp, ho, hx, Instr.makeFunc]
theorem rcs_one (l : List Rec) : ∀ u ∈ rcs l, u.oneCell' = true := fun u hu => by
  obtain ⟨c, hc1, hc2⟩ := List.mem_flatten.1 hu
  obtain ⟨r, _, rfl⟩ := List.mem_map.1 hc1
  exact Rec.ones r u hc2
theorem held_at {g : Nat} {x : Obj} (hg : w.heap[g]? = some x) (h : Held (feet []) w w') : w'.heap[g]? = some x := (h.block g (Array.getElem?_eq_some_iff.1 hg).1 feet_nil).trans hg
/-- Several cells are stored into a slice of the call's own. -/
theorem ssetN {i k m sz q : Nat} {t e : TypeId} {A X : Operand} {v : Value} {us : Array Value} {xs xs' : List Value} (E : Env l n a) (M : Mem w0 O L Φ w) (hL : L[i]? = some (.row e sz v m xs)) (hd : o.dst = none) (hc : covers l o = true) (hg : guardIn ops l o = true) (hw : wantedL ops l o = true)
    (ho : o.op = .store t A X) (hA : evL l A = cellAt v k) (hX : evL l X = .agg us) (ht : tySize P t q = true) (hq : us.size = q) (hk : k + q ≤ m * sz) (h0 : 0 < q) (h1 : ∀ u ∈ us.toList, u.oneCell' = true) (hx : xs.take k ++ us.toList ++ xs.drop (k + q) = xs')
    (kk : ∀ a' w', Mem w0 O (L.set i (.row e sz v m xs')) Φ w' → Env l n a' → wpList P ops Q rest a' w') : wpList P ops Q (o :: rest) a w := by
  subst hx hq
  have hr := M.ent i hL
  obtain ⟨hlen, hh⟩ := hr
  rcases hh with ⟨rfl, rfl⟩ | ⟨g, cap, cur, rfl, h0', hgg, hnc, hcm, hcs, htk⟩
  · omega
  · have hA' : evL l A = .pointer (some ⟨g, k, none⟩) := by rw [hA, cellAt, add_plain, Nat.zero_add]
    have hmc : m * sz ≤ cap * sz := Nat.mul_le_mul_right _ hnc
    have hrun := run_storeN (P := P) (w := w) ho hA' hX ht hgg (by omega) h1
    have hl2 : (cur.toList.take k ++ us.toList ++ cur.toList.drop (k + us.size)).length = cap * sz := by
      simp only [List.length_append, List.length_take, List.length_drop, Array.length_toList, hcs]; omega
    have hxl : xs.length = m * sz := hlen
    refine seq_skip E hc hg hw (by rw [hd]; rfl) hrun fun a' E' => kk a' _ (M.change hL _ (Ch.setRow (by simp [Ent.row, Value.ownBlock])) ⟨?_, .inr ⟨g, cap, _, rfl, h0', setRow_heap w g cur _ e _ hgg, hnc, hcm, ?_, ?_⟩⟩ fun k' hk' => ?_) ?_
    · simp only [List.length_append, List.length_take, List.length_drop, Array.length_toList, hxl]; omega
    · rw [List.size_toArray]; exact hl2
    · have e1 : cur.toList = xs ++ cur.toList.drop (m * sz) := by
        rw [← htk, List.take_append_drop]
      show List.take (m * sz) (cur.toList.take k ++ us.toList ++ cur.toList.drop (k + us.size)) = _
      have e2 : cur.toList.take k = xs.take k := by
        rw [e1, List.take_append_of_le_length (by omega)]
      have e3 : cur.toList.drop (k + us.size) = xs.drop (k + us.size) ++ cur.toList.drop (m * sz) := by
        rw [e1, List.drop_append_of_le_length (by omega), ← e1]
      rw [e2, e3, ← List.append_assoc]
      exact List.take_left' (by simp only [List.length_append, List.length_take, List.length_drop, Array.length_toList, hxl]; omega)
    · have := M.lt _ (List.mem_of_getElem? hL) k' (by simpa [Ent.row] using hk')
      exact ⟨by simpa using this, .inl (by simpa [Ent.row] using hk')⟩
    · rw [hd] at E'
      exact E'
/-- A record is stored. -/
theorem ssetRec {i k : Nat} {t e : TypeId} {A X : Operand} {v : Value} {r : Rec} {xs : List Rec} (E : Env l n a) (M : Mem w0 O L Φ w) (hL : L[i]? = some (.recs e v xs)) (hd : o.dst = none) (hc : covers l o = true) (hg : guardIn ops l o = true) (hw : wantedL ops l o = true)
    (ho : o.op = .store t A X) (hA : evL l A = cellAt v (k * 136)) (hX : evL l X = r.val) (ht : tySize P t 136 = true) (hk : k < xs.length) (hr : r.Ok) (hx : Oks xs)
    (kk : ∀ a' w', Mem w0 O (L.set i (.recs e v (xs.set k r))) Φ w' → Env l n a' → wpList P ops Q rest a' w') : wpList P ops Q (o :: rest) a w := by
  refine ssetN (xs' := rcs (xs.set k r)) E M hL hd hc hg hw ho hA hX ht (Rec.size hr) (by omega) (by decide) (fun u hu => Rec.ones _ u hu) (rcs_set hx hk r) fun a' w' M' E' => kk a' w' ?_ E'
  have e : (xs.set k r).length = xs.length := List.length_set ..
  unfold Ent.recs
  rw [e]
  exact M'
/-- Records are put behind. -/
theorem sappRec {d : Tmp} {i bytes : Nat} {t tx e e' : TypeId} {X Y : Operand} {v x : Value} {xs news : List Rec} {args : List Operand} {ts : List TypeId} (E : Env l n a) (M : Mem w0 O L Φ w) (hL : L[i]? = some (.recs e v xs)) (hd : o.dst = some d) (hn : Nat.blt d n = true) (hc : covers l o = true) (hg : guardIn ops l o = true) (hw : wantedL ops l o = true)
    (ho : o.op = .call { callee := .builtin .append, args := args.toArray, argTypes := ts.toArray }) (ha : args = [X, Y]) (hts : ts = [t, tx]) (hX : evL l X = v) (hY : evL l Y = x) (ht : tySlice P t e = true) (htx : tySlice P tx e' = true) (hz : tyZero P e 136 = true) (hb : tyBytes' P e bytes = true) (hr : Recs w x news) (hmax : (xs.length + news.length) * (bytes + 1) ≤ 140737488355328)
    (kk : ∀ v' a' w', Mem w0 O (L.set i (.recs e v' (xs ++ news))) Φ w' → Env ((d, v') :: l) n a' → wpList P ops Q rest a' w') : wpList P ops Q (o :: rest) a w := by
  refine sapp E M hL hd hn hc hg hw ho ha hts hX hY ht htx hz hb (by decide) hr (fun u hu => ?_) hmax fun v' a' w' M' E' => kk v' a' w' (M'.as ?_) E'
  · obtain ⟨c, hc1, hc2⟩ := List.mem_flatten.1 hu
    obtain ⟨r, _, rfl⟩ := List.mem_map.1 hc1
    exact Rec.ones r u (by simpa using hc2)
  · unfold Ent.recs
    rw [rcs_append, List.length_append]
theorem zero_run {P : Program} {w : World} {e : TypeId} {z : Value} (h : zeroOf P e = some z) : (zeroValue e).run P w = .ok z w := by
  unfold zeroOf at h
  cases hi : P.info? e with
  | none => rw [hi] at h; cases h
  | some i =>
    rw [hi] at h
    have h : i.zero = some z := h
    simp [zeroValue, typeInfo, hi, h]
/-- A slice's end is cleared: its begin stays. -/
theorem sclear {i k m sz : Nat} {t e e' : TypeId} {X : Operand} {v z : Value} {xs : List Value} {args : List Operand} {ts : List TypeId} (E : Env l n a) (M : Mem w0 O L Φ w) (hL : L[i]? = some (.row e sz v m xs)) (hd : o.dst = none) (hc : covers l o = true) (hg : guardIn ops l o = true) (hw : wantedL ops l o = true)
    (ho : o.op = .call { callee := .builtin .clear, args := args.toArray, argTypes := ts.toArray }) (ha : args = [X]) (hts : ts = [t]) (hX : evL l X = cutV sz v k m) (hk : k ≤ m) (ht : tySlice P t e' = true) (hz : zeroOf P e' = some z) (hzs : z.cells.size = sz) (h0 : 0 < sz) (h1 : ∀ u ∈ z.cells.toList, u.oneCell' = true)
    (kk : ∀ xs' a' w', xs'.length = m * sz → xs'.take (k * sz) = xs.take (k * sz) → Mem w0 O (L.set i (.row e sz v m xs')) Φ w' → Env l n a' → wpList P ops Q rest a' w') : wpList P ops Q (o :: rest) a w := by
  subst ha hts
  have hr := M.ent i hL
  have hfit : L.set i (.row e sz v m xs) = L := by
    have hi : i < L.length := (List.getElem?_eq_some_iff.1 hL).1
    have : L[i] = .row e sz v m xs := (List.getElem?_eq_some_iff.1 hL).2
    rw [← this, List.set_getElem_self]
  obtain ⟨hlen, hh⟩ := hr
  have hsame : (∃ b c, evL l X = .slice b 0 c) → wpList P ops Q (o :: rest) a w := fun ⟨b, c, e1⟩ => by
    have hrun : (execOp (evL l) o).run P w = .ok (.value (.tuple #[])) w := by
      cases b <;> simp [execOp, ho, resolve, invoke, builtin, e1, Builtin.clear_, run_underlying (slice_und ht)]
    refine seq_val E hc hg hw (by rw [hd]; rfl) hrun fun a' E' => kk xs a' w hlen rfl (hfit.symm ▸ M) ?_
    rw [hd] at E'
    exact E'
  rcases hh with ⟨rfl, rfl⟩ | ⟨g, cap, cur, rfl, h0', hgg, hnc, hcm, hcs, htk⟩
  · obtain rfl : k = 0 := by omega
    exact hsame ⟨_, _, hX⟩
  · by_cases hkm : k = m
    · subst hkm
      refine hsame ⟨if cap = k then some ⟨g, 0, none⟩ else (some (⟨g, 0, none⟩ : Addr)).map (·.add (k * sz)), cap - k, hX.trans ?_⟩
      show Value.slice _ (k - k) _ = _
      rw [Nat.sub_self]
    · have hmc : m * sz ≤ cap * sz := Nat.mul_le_mul_right _ hnc
      have hkz : k * sz ≤ m * sz := Nat.mul_le_mul_right _ hk
      have hX' : evL l X = .slice (some ⟨g, k * sz, none⟩) (m - k) (cap - k) := by
        rw [hX]
        show Value.slice (if cap = k then _ else _) _ _ = _
        rw [if_neg (by omega)]
        simp [add_plain]
      obtain ⟨N, hN⟩ : ∃ N, m - k = N + 1 := ⟨m - k - 1, by omega⟩
      have hlen' : (Builtin.zeroCells z.cells (m - k)).toList.length = (m - k) * sz := by simp [Builtin.zeroCells, hzs]
      have hone : ∀ u ∈ (Builtin.zeroCells z.cells (m - k)).toList, u.oneCell' = true := fun u hu => by
        obtain ⟨j, hj⟩ := List.getElem?_of_mem hu
        have hjl : j < (m - k) * sz := by have := (List.getElem?_eq_some_iff.1 hj).1; rwa [hlen'] at this
        have hm : j % sz < sz := Nat.mod_lt _ h0
        simp only [Builtin.zeroCells, Array.toList_map, List.getElem?_map, Array.toList_range, hzs, List.getElem?_range hjl, Option.map_some, Option.some.injEq] at hj
        rw [getElem!_pos z.cells _ (by omega)] at hj
        rw [← hj]
        exact h1 _ (by simp)
      have hsum : k * sz + (m - k) * sz = m * sz := by rw [← Nat.add_mul]; congr 1; omega
      have hst := run_storeCells_at P g (k * sz) e (Builtin.zeroCells z.cells (m - k)).toList 0 cur w hgg (by rw [hlen']; omega) hone
      rw [Nat.add_zero, hlen', hsum] at hst
      have hrun : (execOp (evL l) o).run P w = .ok (.value (.tuple #[])) (w.setRow g (cur.toList.take (k * sz) ++ (Builtin.zeroCells z.cells (m - k)).toList ++ cur.toList.drop (m * sz)).toArray) := by
        rw [hN] at hX' hst ⊢
        simp [execOp, ho, resolve, invoke, builtin, hX', Builtin.clear_, run_underlying (slice_und ht), zero_run hz, hst]
      have hlc : cur.toList.length = cap * sz := by simpa using hcs
      refine seq_val E hc hg hw (by rw [hd]; rfl) hrun fun a' E' => kk (xs.take (k * sz) ++ (Builtin.zeroCells z.cells (m - k)).toList) a' _ ?_ ?_ (M.change hL _ (Ch.setRow (by simp [Ent.row, Value.ownBlock])) ⟨?_, .inr ⟨g, cap, _, rfl, h0', setRow_heap w g cur _ e _ hgg, hnc, hcm, ?_, ?_⟩⟩ fun k' hk' => ?_) ?_
      · rw [List.length_append, hlen', List.length_take, hlen]; omega
      · rw [List.take_append_of_le_length (by rw [List.length_take, hlen]; omega), List.take_take, Nat.min_self]
      · rw [List.length_append, hlen', List.length_take, hlen]; omega
      · rw [List.size_toArray, List.length_append, List.length_append, hlen', List.length_take, List.length_drop, hlc]; omega
      · show List.take (m * sz) (cur.toList.take (k * sz) ++ (Builtin.zeroCells z.cells (m - k)).toList ++ cur.toList.drop (m * sz)) = _
        have e2 : cur.toList.take (k * sz) = xs.take (k * sz) := by rw [← htk, List.take_take, Nat.min_eq_left hkz]
        rw [e2]
        exact List.take_left' (by rw [List.length_append, hlen', List.length_take, hlen]; omega)
      · have := M.lt _ (List.mem_of_getElem? hL) k' (by simpa [Ent.row] using hk')
        exact ⟨by simpa using this, .inl (by simpa [Ent.row] using hk')⟩
      · rw [hd] at E'
        exact E'
end
end Go.Rill
end
section
namespace Go.Rill
set_option linter.unusedVariables false
set_option linter.unusedSimpArgs false
open Go.RowKit Go.ChangeShapes Go.WideShapes
section
variable {H : Type} {enc : TypeId × Value → H} {P : Program} {W : World} {base b0 : Nat} {spare : Nat → Bool} {held : Bool} {r : Reach} {t e : TypeId} {v : Value}
theorem u8_wf {n : Int} (h : (Lit.int .u8 n).wf = true) : 0 ≤ n ∧ n < 256 := by
  have h : (decide (IntKind.u8.min ≤ n) && decide (n ≤ IntKind.u8.max)) = true := h
  have a : IntKind.min .u8 = 0 := rfl
  have b : IntKind.max .u8 = 255 := rfl
  rw [a, b, Bool.and_eq_true, decide_eq_true_eq, decide_eq_true_eq] at h
  omega
theorem u8_back {n : Int} (h : (Lit.int .u8 n).wf = true) : ((UInt8.ofNat n.toNat).toNat : Int) = n := by
  have := u8_wf h
  simp only [UInt8.toNat_ofNat']
  omega
def AllW (cs : List Value) : Prop := ∀ v ∈ cs, ∃ k n, v = .int k n ∧ (Lit.int k n).wf = true
theorem cells_of_size {k : Nat} (h : tySize P t k = true) : P.cellsOf t = k := by
  obtain ⟨i, hi, hs⟩ := tySize_info h
  simp [Program.cellsOf, hi, hs]
/-- Its numbers have one cell each. -/
def flatO (P : Program) : Nat → TypeId → Bool
  | 0, _ => false
  | D + 1, t => match P.underlying t with
    | some (.int _) => P.cellsOf t == 1
    | some (.struct fs) => fs.toList.all fun f => flatO P D f.type
    | some (.array _ e) => flatO P D e
    | _ => false
/-- Structs and arrays of numbers alone are what their kinds say. -/
theorem trod_flat : ∀ (D : Nat) (t : TypeId) (ks : List IntKind), flatK P D t = some ks → flatO P D t = true → ∀ (fuel : Nat) (cs : List Value) (x : DataW H × List MemPlace), DataW.trod enc P W base spare held fuel t cs = some x → Fit ks cs ∧ AllW cs
  | 0, t, ks, h => by simp [flatK] at h
  | D + 1, t, ks, h => by
    intro hO fuel cs x hx
    have cellsLen : ∀ t ks, flatK P D t = some ks → flatO P D t = true → P.cellsOf t = ks.length := fun t ks hk hO => by
      rcases shape_of hk with ⟨h1, h2⟩ | ⟨h1, h2⟩
      · rw [h2]
        cases D with
        | zero => simp [flatK] at hk
        | succ D' =>
          have hu : ∃ k, P.underlying t = some (.int k) := by
            unfold flatK at hk
            cases hu : P.underlying t with
            | none => rw [hu] at hk; cases hk
            | some dd =>
              rw [hu] at hk
              cases dd with
              | int k => exact ⟨k, rfl⟩
              | struct fs => simp [tyOne, hu] at h1
              | array n e => simp [tyOne, hu] at h1
              | _ => cases hk
          obtain ⟨k, hu⟩ := hu
          unfold flatO at hO
          rw [hu] at hO
          simpa using hO
      · exact cells_of_size (tyAgg_size h2)
    cases fuel with
    | zero => simp [DataW.trod] at hx
    | succ fuel =>
      unfold flatK at h
      unfold flatO at hO
      cases hu : P.underlying t with
      | none => rw [hu] at h; cases h
      | some dd =>
        rw [hu] at h hO
        cases dd with
        | int k =>
          simp only at h
          split at h
          · injection h with h
            subst h
            obtain ⟨n, rfl, _, hw⟩ := DataW.trod_int hu hx
            exact ⟨rfl, fun v hv => by simp at hv; subst hv; exact ⟨_, _, rfl, hw⟩⟩
          · cases h
        | struct fs =>
          simp only at h
          cases hf : flatFs (flatK P D) fs.toList 0 with
          | none => rw [hf] at h; cases h
          | some ks' =>
            rw [hf] at h
            simp only at h
            split at h
            · rename_i hc
              rw [Bool.and_eq_true] at hc
              injection h with h
              subst h
              unfold DataW.trod at hx
              rw [hu] at hx
              simp only at hx
              split at hx
              · rename_i hlen
                rw [cells_of_size (tyAgg_size hc.1)] at hlen
                simp only [Option.map_eq_some_iff] at hx
                obtain ⟨xs, hxs, _⟩ := hx
                have key : ∀ (L : List Field) (off : Nat) (kk : List IntKind), (L.all fun f => flatO P D f.type) = true → flatFs (flatK P D) L off = some kk → ∀ (xs : List (DataW H × List MemPlace)), (L.mapM fun f => DataW.trod enc P W base spare held fuel f.type ((cs.drop f.offset).take (P.cellsOf f.type))) = some xs → off + kk.length ≤ cs.length → Fit kk ((cs.drop off).take kk.length) ∧ AllW ((cs.drop off).take kk.length) := by
                  intro L
                  induction L with
                  | nil =>
                    intro off kk hA h xs hxs hl
                    simp only [flatFs, Option.some.injEq] at h
                    subst h
                    exact ⟨by simp [Fit], fun v hv => by simp at hv⟩
                  | cons f L ih =>
                    intro off kk hA h xs hxs hl
                    simp only [List.all_cons, Bool.and_eq_true] at hA
                    unfold flatFs at h
                    cases hk : flatK P D f.type with
                    | none => rw [hk] at h; cases h
                    | some k1 =>
                      rw [hk] at h
                      simp only at h
                      split at h
                      · rename_i hc
                        simp only [Bool.and_eq_true, Bool.not_eq_true', beq_iff_eq] at hc
                        cases hr : flatFs (flatK P D) L (off + k1.length) with
                        | none => rw [hr] at h; cases h
                        | some k2 =>
                          rw [hr] at h
                          simp only [Option.some.injEq] at h
                          subst h
                          simp only [List.mapM_cons, Option.bind_eq_bind, Option.bind_eq_some_iff] at hxs
                          obtain ⟨y, hy, ys, hys, _⟩ := hxs
                          rw [hc.1, cellsLen _ _ hk hA.1] at hy
                          obtain ⟨a1, a2⟩ := trod_flat D f.type k1 hk hA.1 fuel _ _ hy
                          simp only [List.length_append] at hl
                          obtain ⟨b1, b2⟩ := ih (off + k1.length) k2 hA.2 hr ys hys (by omega)
                          have e : (cs.drop off).take (k1 ++ k2).length = (cs.drop off).take k1.length ++ (cs.drop (off + k1.length)).take k2.length := by
                            rw [List.length_append, List.take_add, List.drop_drop]
                          rw [e]
                          exact ⟨a1.app b1, fun v hv => by
                            rcases List.mem_append.1 hv with hv | hv
                            · exact a2 v hv
                            · exact b2 v hv⟩
                      · cases h
                have := key fs.toList 0 _ hO hf xs hxs (by omega)
                rwa [List.drop_zero, List.take_of_length_le (by omega)] at this
              · cases hx
            · cases h
        | array n e =>
          simp only at h
          cases hf : flatK P D e with
          | none => rw [hf] at h; cases h
          | some ks' =>
            rw [hf] at h
            simp only at h
            split at h
            · rename_i hc
              simp only [Bool.and_eq_true, beq_iff_eq] at hc
              injection h with h
              subst h
              unfold DataW.trod at hx
              rw [hu] at hx
              simp only at hx
              split at hx
              · rename_i hlen
                rw [cells_of_size (tyAgg_size hc.2)] at hlen
                simp only [Option.map_eq_some_iff] at hx
                obtain ⟨xs, hxs, _⟩ := hx
                rw [List.range_eq_range'] at hxs
                have key : ∀ (m s : Nat) (xs : List (DataW H × List MemPlace)), ((List.range' s m).mapM fun i => DataW.trod enc P W base spare held fuel e ((cs.drop (i * P.cellsOf e)).take (P.cellsOf e))) = some xs → (s + m) * ks'.length ≤ cs.length → Fit (List.replicate m ks').flatten ((cs.drop (s * ks'.length)).take (m * ks'.length)) ∧ AllW ((cs.drop (s * ks'.length)).take (m * ks'.length)) := by
                  intro m
                  induction m with
                  | zero =>
                    intro s xs hxs hl
                    rw [Nat.zero_mul, List.take_zero]
                    exact ⟨by simp [Fit], fun v hv => by simp at hv⟩
                  | succ m ih =>
                    intro s xs hxs hl
                    rw [List.range'_succ] at hxs
                    simp only [List.mapM_cons, Option.bind_eq_bind, Option.bind_eq_some_iff] at hxs
                    obtain ⟨y, hy, ys, hys, _⟩ := hxs
                    rw [hc.1.1] at hy
                    obtain ⟨a1, a2⟩ := trod_flat D e ks' hf hO fuel _ _ hy
                    obtain ⟨b1, b2⟩ := ih (s + 1) ys hys (by rw [show s + 1 + m = s + (m + 1) by omega]; exact hl)
                    have e1 : (cs.drop (s * ks'.length)).take ((m + 1) * ks'.length) = (cs.drop (s * ks'.length)).take ks'.length ++ (cs.drop ((s + 1) * ks'.length)).take (m * ks'.length) := by
                      rw [show (m + 1) * ks'.length = ks'.length + m * ks'.length by rw [Nat.add_mul]; omega, List.take_add, List.drop_drop]
                      rw [show s * ks'.length + ks'.length = (s + 1) * ks'.length by rw [Nat.add_mul]; omega]
                    rw [e1, List.replicate_succ, List.flatten_cons]
                    exact ⟨a1.app b1, fun v hv => by
                      rcases List.mem_append.1 hv with hv | hv
                      · exact a2 v hv
                      · exact b2 v hv⟩
                have := key n 0 xs hxs (by rw [Nat.zero_add]; omega)
                rwa [Nat.zero_mul, List.drop_zero, List.take_of_length_le (by omega)] at this
              · cases hx
            · cases h
        | _ => cases h
/-- Cells of these kinds are a record's. -/
theorem rec_of {cs : List Value} (hf : Fit ([.i64] ++ [.i64] ++ [.i64] ++ List.replicate 32 .u8 ++ [.i64] ++ List.replicate 32 .u8 ++ [.i64] ++ [.i64] ++ [.i64] ++ [.i64] ++ List.replicate 32 .u8 ++ List.replicate 32 .u8) cs) (hw : AllW cs) : ∃ r : Rec, r.Ok ∧ cs = r.cells := by
  obtain ⟨c11, d12, rfl, f11, g12⟩ := hf.split
  obtain ⟨c10, d11, rfl, f10, g11⟩ := f11.split
  obtain ⟨c9, d10, rfl, f9, g10⟩ := f10.split
  obtain ⟨c8, d9, rfl, f8, g9⟩ := f9.split
  obtain ⟨c7, d8, rfl, f7, g8⟩ := f8.split
  obtain ⟨c6, d7, rfl, f6, g7⟩ := f7.split
  obtain ⟨c5, d6, rfl, f5, g6⟩ := f6.split
  obtain ⟨c4, d5, rfl, f4, g5⟩ := f5.split
  obtain ⟨c3, d4, rfl, f3, g4⟩ := f4.split
  obtain ⟨c2, d3, rfl, f2, g3⟩ := f3.split
  obtain ⟨d1, d2, rfl, g1, g2⟩ := f2.split
  have one : ∀ {l : List Value}, Fit [.i64] l → ∃ n, l = [iv n] := fun {l} h => by
    obtain ⟨v, rfl⟩ : ∃ v, l = [v] := List.length_eq_one_iff.1 (by rw [h.len]; rfl)
    simp only [Fit, List.map_cons, List.map_nil, List.cons.injEq, and_true] at h
    cases v <;> simp only [kindOf, reduceCtorEq, Option.some.injEq] at h
    subst h
    exact ⟨_, rfl⟩
  have many : ∀ {n : Nat} {l : List Value}, Fit (List.replicate n .u8) l → AllW l → ∃ s : List UInt8, s.length = n ∧ l = bc s := by
    intro n
    induction n with
    | zero => intro l h _; exact ⟨[], rfl, List.eq_nil_of_length_eq_zero (by simpa using h.len)⟩
    | succ n ih =>
      intro l h hw
      cases l with
      | nil => have := h.len; simp at this
      | cons v l =>
        simp only [Fit, List.map_cons, List.replicate_succ, List.cons.injEq] at h
        obtain ⟨h1, h2⟩ := h
        obtain ⟨s, e1, e2⟩ := ih (l := l) h2 fun v hv => hw v (List.mem_cons_of_mem _ hv)
        obtain ⟨k, m, rfl, hm⟩ := hw v (List.mem_cons_self ..)
        simp only [kindOf, Option.some.injEq] at h1
        subst h1
        refine ⟨UInt8.ofNat m.toNat :: s, by simp [e1], ?_⟩
        rw [bc_cons, ← e2, u8_back hm]
  have W := hw
  unfold AllW at W
  obtain ⟨n1, rfl⟩ := one g1
  obtain ⟨n2, rfl⟩ := one g2
  obtain ⟨n3, rfl⟩ := one g3
  obtain ⟨s4, e4, rfl⟩ := many g4 fun v hv => W v (by simp [hv])
  obtain ⟨n5, rfl⟩ := one g5
  obtain ⟨s6, e6, rfl⟩ := many g6 fun v hv => W v (by simp [hv])
  obtain ⟨n7, rfl⟩ := one g7
  obtain ⟨n8, rfl⟩ := one g8
  obtain ⟨n9, rfl⟩ := one g9
  obtain ⟨n10, rfl⟩ := one g10
  obtain ⟨s11, e11, rfl⟩ := many g11 fun v hv => W v (by simp [hv])
  obtain ⟨s12, e12, rfl⟩ := many g12 fun v hv => W v (by simp [hv])
  exact ⟨⟨n1, n2, n3, s4, n5, s6, n7, n8, n9, n10, s11, s12⟩, ⟨e4, e6, e11, e12⟩, by simp [Rec.cells]⟩
/-- Any record that is handed in is one. -/
theorem rec_arg {fs : Array Field} {d : DataW H} {p : List MemPlace} (hu : P.underlying t = some (.struct fs)) (hk : flatK P 10000 t = some ([.i64] ++ [.i64] ++ [.i64] ++ List.replicate 32 .u8 ++ [.i64] ++ List.replicate 32 .u8 ++ [.i64] ++ [.i64] ++ [.i64] ++ [.i64] ++ List.replicate 32 .u8 ++ List.replicate 32 .u8))
    (hO : flatO P 10000 t = true) (hval : Value.okWide P W r b0 t v) (h : DataW.Trod enc P W base spare held t v d p) : ∃ q : Rec, q.Ok ∧ v = q.val := by
  unfold Value.okWide at hval
  rw [hu] at hval
  obtain ⟨cs, rfl, _, _⟩ := hval
  obtain ⟨fuel, hf⟩ := h
  obtain ⟨h1, h2⟩ := trod_flat 10000 t _ hk hO fuel _ _ hf
  obtain ⟨q, hq, e⟩ := rec_of h1 h2
  refine ⟨q, hq, ?_⟩
  unfold Rec.val
  rw [← e]
  simp [Value.cells]
end
end Go.Rill
end
section
namespace Go.Rill
set_option linter.unusedVariables false
set_option linter.unusedSimpArgs false
open Go.RowKit Go.ChangeShapes Go.WideShapes
section
variable {H : Type} {enc : TypeId × Value → H} {P : Program} {W : World} {base b0 : Nat} {spare : Nat → Bool} {held : Bool} {r : Reach} {t e : TypeId} {v : Value}
def StampIn (r : Rec) : Prop := -9223372036854775808 ≤ r.stamp ∧ r.stamp ≤ 9223372036854775807
end
end Go.Rill
end
