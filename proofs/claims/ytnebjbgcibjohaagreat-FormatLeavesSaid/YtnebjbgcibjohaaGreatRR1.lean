/- Slices of records; items of several cells stored into a slice of the call's own; a slice's end cleared. Of whatever program. -/
import Derived.Test.YtnebjbgcibjohaaGreatRR
import Derived.WalkKit
import Derived.ChangeSlices
import Derived.OpenShut
import Derived.WideShapes
import Derived.Lib.SmallJoins
import Derived.Maps.RangeRun
import Derived.Test.YtnebjbgcibjohaaGreatProg
import Derived.Shelf.SlLaysM
import Derived.Shelf.SlLaysZI
section
namespace Go.Rill
set_option linter.unusedVariables false
set_option linter.unusedSimpArgs false
open Go.RowKit
def rcs (l : List Rec) : List Value := (l.map Rec.cells).flatten
def Oks (l : List Rec) : Prop := ∀ r ∈ l, r.Ok
@[simp] theorem rcs_nil : rcs [] = [] := rfl
theorem rcs_cons (r : Rec) (l : List Rec) : rcs (r :: l) = r.cells ++ rcs l := by simp [rcs]
theorem rcs_append (a b : List Rec) : rcs (a ++ b) = rcs a ++ rcs b := by simp [rcs]
theorem Oks.sub {a b : List Rec} (h : Oks b) (s : ∀ r ∈ a, r ∈ b) : Oks a := fun r hr => h r (s r hr)
theorem Oks.take {l : List Rec} (h : Oks l) (k : Nat) : Oks (l.take k) := fun r hr => h r (List.mem_of_mem_take hr)
theorem Oks.drop {l : List Rec} (h : Oks l) (k : Nat) : Oks (l.drop k) := fun r hr => h r (List.mem_of_mem_drop hr)
theorem Oks.set {l : List Rec} (h : Oks l) {k : Nat} {r : Rec} (hr : r.Ok) : Oks (l.set k r) := fun x hx => by
  rcases List.mem_or_eq_of_mem_set hx with h1 | rfl
  · exact h x h1
  · exact hr
theorem Oks.get {l : List Rec} (h : Oks l) {k : Nat} (hk : k < l.length) : (l[k]).Ok := h _ (List.getElem_mem hk)
theorem rcs_len {l : List Rec} (h : Oks l) : (rcs l).length = l.length * 136 := by
  induction l with
  | nil => rfl
  | cons r l ih => rw [rcs_cons, List.length_append, Rec.len (h r (List.mem_cons_self ..)), ih fun x hx => h x (List.mem_cons_of_mem _ hx), List.length_cons]; omega
theorem rcs_take {l : List Rec} (h : Oks l) {k : Nat} (hk : k ≤ l.length) : (rcs l).take (k * 136) = rcs (l.take k) := by
  have e : rcs l = rcs (l.take k) ++ rcs (l.drop k) := by rw [← rcs_append, List.take_append_drop]
  rw [e]
  exact List.take_left' (by rw [rcs_len (h.take k), List.length_take, Nat.min_eq_left hk])
theorem rcs_drop {l : List Rec} (h : Oks l) {k : Nat} (hk : k ≤ l.length) : (rcs l).drop (k * 136) = rcs (l.drop k) := by
  have e : rcs l = rcs (l.take k) ++ rcs (l.drop k) := by rw [← rcs_append, List.take_append_drop]
  rw [e]
  exact List.drop_left' (by rw [rcs_len (h.take k), List.length_take, Nat.min_eq_left hk])
theorem rcs_get {l : List Rec} (h : Oks l) {k : Nat} (hk : k < l.length) : ((rcs l).drop (k * 136)).take 136 = (l[k]).cells := by
  rw [rcs_drop h (Nat.le_of_lt hk), List.drop_eq_getElem_cons hk, rcs_cons]
  exact List.take_left' (Rec.len (h.get hk))
theorem rcs_at {l : List Rec} (h : Oks l) {k j : Nat} (hk : k < l.length) (hj : j < 136) : (rcs l)[k * 136 + j]? = (l[k]).cells[j]? := by
  rw [← rcs_get h hk, List.getElem?_take_of_lt hj, List.getElem?_drop]
theorem rcs_stamp {l : List Rec} (h : Oks l) {k : Nat} (hk : k < l.length) : (rcs l)[k * 136 + 1]? = some (.int .i64 (l[k]).stamp) := by
  rw [rcs_at h hk (by decide)]
  rfl
/-- What a slice of records reads as. -/
abbrev Recs (w : World) (v : Value) (l : List Rec) : Prop := Reads 136 w v l.length (rcs l)
theorem Recs.held0 {w w' : World} {v : Value} {l : List Rec} (h : Recs w v l) (H : Held (feet []) w w') : Recs w' v l := Reads.held0 h H
theorem Recs.nil (w : World) : Recs w (.slice none 0 0) [] := Reads.nil 136 w
theorem Recs.pre {w : World} {v : Value} {l : List Rec} {k : Nat} (h : Recs w v l) (ho : Oks l) (hk : k ≤ l.length) : Recs w (cutV 136 v 0 k) (l.take k) := by
  have := Reads.cut h (Nat.zero_le k) hk
  simp only [Nat.zero_mul, List.drop_zero, Nat.sub_zero] at this
  rw [rcs_take ho hk] at this
  unfold Recs
  rwa [List.length_take, Nat.min_eq_left hk]
theorem Recs.as {w : World} {v : Value} {l k : List Rec} (h : Recs w v l) (e : l = k) : Recs w v k := e ▸ h
abbrev Ent.recs (e : TypeId) (v : Value) (l : List Rec) : Ent := .row e 136 v l.length (rcs l)
/-- A part of a block, of the call's own, that reads as cells. -/
def Ent.part (sz : Nat) (v : Value) (n : Nat) (xs : List Value) : Ent := ⟨v.ownBlock.toList, fun w => Reads sz w v n xs, fun w w' h k => by
  refine ⟨k.1, ?_⟩
  rcases k.2 with h2 | ⟨g, off, cap, rfl, h3, h4, h5, h6⟩
  · exact .inl h2
  · have hb := h g (by simp [Value.ownBlock])
    refine .inr ⟨g, off, cap, rfl, h3, h4, ?_, fun j u hu => (World.cell?_of_block (w := w) hb).trans (h6 j u hu)⟩
    have h7 : (w.heap[g]?).isSome = true := by simp [h5]
    rw [← hb] at h7
    simpa using h7⟩
section
variable {P : Program} {ops : Array Oper} {Q : Exit → Act → World → Prop} {l : List (Nat × Value)} {n : Nat} {a : Act} {w w' w0 : World} {rest : List Oper} {o : Oper} {O : Nat → Prop} {L R : List Ent} {Φ : World → Prop}
theorem Mem.parts {sz m : Nat} {v : Value} {xs : List Value} (M : Mem w0 O L Φ w) (i : Nat) (h : L[i]? = some (.part sz v m xs)) : Reads sz w v m xs := M.ent i h
theorem Mem.nilRecs (M : Mem w0 O L Φ w) (e : TypeId) : Mem w0 O (.recs e (.slice none 0 0) [] :: L) Φ w :=
  M.adopt (Ext.refl w) _ (World.ownsRow_nil w 0 e 136) fun g hg => by simp [Ent.row, Value.ownBlock] at hg
/-- A field of an item of a slice. -/
theorem run_fieldAddrR {ρ : Operand → Value} {A : Operand} {s : TypeId} {f k q m sz : Nat} {v : Value} {xs : List Value} (ho : o.op = .fieldAddr s A f) (h : Reads sz w v m xs) (hA : ρ A = cellAt v q) (hf : tyFld P s f k = true) (hq : q < m * sz) : (execOp ρ o).run P w = .ok (.value (cellAt v (q + k))) w := by
  rcases h.2 with ⟨rfl, rfl⟩ | ⟨g, off, cap, rfl, _⟩
  · simp at hq
  · have hA' : ρ A = .pointer (some ⟨g, off + q, none⟩) := by rw [hA, cellAt, add_plain]
    rw [run_fieldAddr ho hA' hf, cellAt, add_plain, Nat.add_assoc]
theorem held_at {g : Nat} {x : Obj} (hg : w.heap[g]? = some x) (h : Held (feet []) w w') : w'.heap[g]? = some x := (h.block g (Array.getElem?_eq_some_iff.1 hg).1 feet_nil).trans hg
/-- Records are put behind. -/
theorem sappRec {d : Tmp} {i bytes : Nat} {t tx e e' : TypeId} {X Y : Operand} {v x : Value} {xs news : List Rec} {args : List Operand} {ts : List TypeId} (E : Env l n a) (M : Mem w0 O L Φ w) (hL : L[i]? = some (.recs e v xs)) (hd : o.dst = some d) (hn : Nat.blt d n = true) (hc : covers l o = true) (hg : guardIn ops l o = true) (hw : wantedL ops l o = true)
    (ho : o.op = .call { callee := .builtin .append, args := args.toArray, argTypes := ts.toArray }) (ha : args = [X, Y]) (hts : ts = [t, tx]) (hX : evL l X = v) (hY : evL l Y = x) (ht : tySlice P t e = true) (htx : tySlice P tx e' = true) (hz : tyZero P e 136 = true) (hb : tyBytes' P e bytes = true) (hr : Recs w x news) (hmax : (xs.length + news.length) * (bytes + 1) ≤ 140737488355328)
    (kk : ∀ v' a' w', Mem w0 O (L.set i (.recs e v' (xs ++ news))) Φ w' → Env ((d, v') :: l) n a' → wpList P ops Q rest a' w') : wpList P ops Q (o :: rest) a w := by
  refine sapp E M hL hd hn hc hg hw ho ha hts hX hY ht htx hz hb (by decide) hr (fun u hu => ?_) hmax fun v' a' w' M' E' => kk v' a' w' (M'.as ?_) E'
  · obtain ⟨c, hc1, hc2⟩ := List.mem_flatten.1 hu
    obtain ⟨r, _, rfl⟩ := List.mem_map.1 hc1
    exact Rec.ones r u (by simpa using hc2)
  · unfold Ent.recs
    rw [rcs_append, List.length_append]
theorem zero_run {P : Program} {w : World} {e : TypeId} {z : Value} (h : zeroOf P e = some z) : (zeroValue e).run P w = .ok z w := by
  unfold zeroOf at h
  cases hi : P.info? e with
  | none => rw [hi] at h; cases h
  | some i =>
    rw [hi] at h
    have h : i.zero = some z := h
    simp [zeroValue, typeInfo, hi, h]
end
end Go.Rill
end
section
namespace Go.Rill
set_option linter.unusedVariables false
set_option linter.unusedSimpArgs false
open Go.RowKit Go.ChangeShapes Go.WideShapes
section
variable {H : Type} {enc : TypeId × Value → H} {P : Program} {W : World} {base b0 : Nat} {spare : Nat → Bool} {held : Bool} {r : Reach} {t e : TypeId} {v : Value}
theorem u8_wf {n : Int} (h : (Lit.int .u8 n).wf = true) : 0 ≤ n ∧ n < 256 := by
  have h : (decide (IntKind.u8.min ≤ n) && decide (n ≤ IntKind.u8.max)) = true := h
  have a : IntKind.min .u8 = 0 := rfl
  have b : IntKind.max .u8 = 255 := rfl
  rw [a, b, Bool.and_eq_true, decide_eq_true_eq, decide_eq_true_eq] at h
  omega
theorem u8_back {n : Int} (h : (Lit.int .u8 n).wf = true) : ((UInt8.ofNat n.toNat).toNat : Int) = n := by
  have := u8_wf h
  simp only [UInt8.toNat_ofNat']
  omega
/-- Any bytes that are handed in read as bytes. -/
theorem bytes_arg {d : DataW H} {p : List MemPlace} (ht : P.underlying t = some (.slice e)) (he : P.underlying e = some (.int .u8)) (hc : P.cellsOf e = 1) (hval : Value.okWide P W r b0 t v) (h : DataW.Trod enc P W base (fun _ => true) held t v d p) : ∃ l, Bytes W v l := by
  have hval' := hval
  obtain ⟨a, len, cap, rfl⟩ := okWide_slice ht hval
  obtain ⟨fuel, hf⟩ := h
  rcases open_ints ht he hc hf with ⟨hcs, _⟩ | ⟨x, l, c, zs, hcs, _, hl, hm, hz, _, hcell, hwz⟩
  · simp [Value.cells] at hcs
    obtain ⟨rfl, rfl, rfl⟩ := hcs
    exact ⟨[], Bytes.nil W⟩
  · simp [Value.cells] at hcs
    obtain ⟨rfl, rfl, rfl⟩ := hcs
    have hcl : Cell.ok P W r b0 t (.slice (some x) len cap) := by
      unfold Value.okWide at hval'
      rw [ht] at hval'
      simp only at hval'
      unfold Cell.okWide at hval'
      rw [ht] at hval'
      exact hval'
    unfold Cell.ok at hcl
    rw [ht] at hcl
    obtain ⟨_, _, _, hs, row, cells, hsh, _⟩ := hcl
    obtain ⟨g, off, spot⟩ := x
    have hs : spot = none := hs
    subst hs
    have hg : g < W.heap.size := by
      unfold World.shape? at hsh
      cases hh : W.heap[g]? with
      | none => rw [hh] at hsh; cases hsh
      | some o => exact (Array.getElem?_eq_some_iff.1 hh).1
    have hzl : zs.length = cap := by simpa using hz
    have hll : ((zs.take len).map fun n => UInt8.ofNat n.toNat).length = len := by simp; omega
    refine ⟨(zs.take len).map fun n => UInt8.ofNat n.toNat, by simp, .inr ⟨g, off, cap, by rw [hll], by omega, hm, hg, fun j u hu => ?_⟩⟩
    unfold bc at hu
    rw [List.map_map, List.getElem?_map] at hu
    cases hj : (zs.take len)[j]? with
    | none => rw [hj] at hu; cases hu
    | some n =>
      rw [hj] at hu
      simp only [Option.map_some, Function.comp, Option.some.injEq] at hu
      have hjl := (List.getElem?_eq_some_iff.1 hj).1
      have hjz : j < zs.length := by simp at hjl; omega
      have hn : zs[j]? = some n := by
        rw [List.getElem?_take] at hj
        split at hj
        · exact hj
        · cases hj
      have hmem : n ∈ zs := List.mem_of_getElem? hn
      rw [u8_back (hwz n hmem)] at hu
      have := hcell j hjz
      rw [add_plain, List.getD_eq_getElem?_getD, hn] at this
      rw [this, ← hu]
      rfl
end
end Go.Rill
end
section
namespace Go.Rill
set_option linter.unusedVariables false
set_option linter.unusedSimpArgs false
open Go.RowKit Go.ChangeShapes Go.WideShapes
section
variable {H : Type} {enc : TypeId × Value → H} {P : Program} {W : World} {base b0 : Nat} {spare : Nat → Bool} {held : Bool} {r : Reach} {t e : TypeId} {v : Value}
end
end Go.Rill
end
section
namespace Go.Rill
set_option linter.unusedVariables false
set_option linter.unusedSimpArgs false
open Go.RowKit
open Go.ChangeMaps (setBlock)
section
variable {P : Program} {ρ : Operand → Value} {o : Oper} {w : World} {t k e : TypeId} {g gi clock : Nat} {es : List IE} {seen : Array Nat} {X : Operand}
theorem run_min2 {A B : Operand} {q : IntKind} {x y : Int} {args : List Operand} {ts : Array TypeId} (ho : o.op = .call { callee := .builtin .min, args := args.toArray, argTypes := ts }) (ha : args = [A, B]) (hA : ρ A = .int q x) (hB : ρ B = .int q y) :
    (execOp ρ o).run P w = .ok (.value (.int q (if y < x then y else x))) w := by
  subst ha
  have := run_min_int2 (P := P) (w := w) ts o.type q q x y
  simp [execOp, ho, resolve, invoke, builtin, hA, hB, this]
theorem run_makeFunc1 {F : Fn} {v : Value} (ho : o.op = .makeFunc F #[] #[X]) (hX : ρ X = v) : (execOp ρ o).run P w = .ok (.value (.func F #[] #[v])) w := by
  subst hX
  simp [execOp, ho, Instr.makeFunc]
theorem run_rangeI (ho : o.op = .range t X) (hX : ρ X = .map (some g)) (ht : tyMap P t k e = true) (hg : w.heap[g]? = some (.map (imap es) clock)) :
    (execOp ρ o).run P w = .ok (.value (.pointer (some ⟨w.heap.size, 0, none⟩))) (w.alloc (.mapIter (some g) clock #[] clock)) := by
  have := run_range_map w t k e g (imap es) clock (map_und ht).1 hg
  simp [execOp, ho, hX, this]
theorem imap_mem {x : MapEntry} (h : x ∈ (imap es).toList) : ∃ a ∈ es, x = { key := .int .i64 a.key, val := a.val, born := a.born } := by
  simp only [imap, List.mem_map] at h
  obtain ⟨a, h1, h2⟩ := h
  exact ⟨a, h1, h2.symm⟩
theorem imap_has {a : IE} (h : a ∈ es) : ({ key := .int .i64 a.key, val := a.val, born := a.born } : MapEntry) ∈ (imap es).toList := by
  simp only [imap, List.mem_map]
  exact ⟨a, h, rfl⟩
theorem imap_born : (imap es).toList.map (·.born) = es.map (·.born) := by
  simp [imap, Function.comp_def]
theorem run_nextNo (ho : o.op = .next X false) (hX : ρ X = .pointer (some ⟨gi, 0, none⟩)) (hi : w.heap[gi]? = some (.mapIter (some g) clock seen clock)) (hg : w.heap[g]? = some (.map (imap es) clock)) (hold : ∀ a ∈ es, a.born < clock) (h0 : (leftOf (imap es) seen).size = 0) :
    (execOp ρ o).run P w = .ok (.value (.tuple #[.bool false])) w := by
  have h := run_next_at (P := P) w o.type gi g clock clock seen (imap es) clock hi hg (fun x hx => by obtain ⟨a, ha, rfl⟩ := imap_mem hx; exact hold a ha) (Nat.le_refl _)
  rcases h with ⟨_, h⟩ | ⟨x, hx, _⟩
  · simp [execOp, ho, hX, h]
  · have : (leftOf (imap es) seen) = #[] := Array.eq_empty_of_size_eq_zero h0
    rw [this] at hx
    simp at hx
theorem run_entryI {a : IE} (ho : o.op = .entry X) (hX : ρ X = .pointer (some ⟨gi, 0, none⟩)) (hi : w.heap[gi]? = some (.mapIter (some g) clock (seen.push a.born) clock)) (hg : w.heap[g]? = some (.map (imap es) clock)) (ha : a ∈ es) (hn : (es.map (·.born)).Nodup) :
    (execOp ρ o).run P w = .ok (.value (.tuple #[.int .i64 a.key, a.val])) w := by
  have h := run_entry_at (P := P) w gi g clock seen (imap es) clock _ hi hg (imap_has ha) (by rw [imap_born]; exact hn)
  simp [execOp, ho, hX, h]
theorem run_clearI {args : List Operand} {ts : List TypeId} (ho : o.op = .call { callee := .builtin .clear, args := args.toArray, argTypes := ts.toArray }) (ha : args = [X]) (hts : ts = [t]) (hX : ρ X = .map (some g)) (ht : tyMap P t k e = true) (hg : w.heap[g]? = some (.map (imap es) clock)) :
    (execOp ρ o).run P w = .ok (.value (.tuple #[])) { w with heap := w.heap.setIfInBounds g (.map (imap []) clock) } := by
  subst ha hts
  have hgo : (getObj g).run P w = .ok (.map (imap es) clock) w := by simp [getObj, Sem.run, hg]
  have hso : ∀ o', (setObj g o').run P w = .ok () { w with heap := w.heap.setIfInBounds g o' } := fun o' => by simp [setObj, Sem.run, hg]
  have : (Builtin.clear_ #[t] o.type #[.map (some g)]).run P w = .ok (.tuple #[]) { w with heap := w.heap.setIfInBounds g (.map #[] clock) } := by
    simp [Builtin.clear_, run_underlying (map_und ht).1, hgo, hso, Result.andThen]
  simp [execOp, ho, resolve, invoke, builtin, hX, this, imap]
end
section
variable {P : Program} {ops : Array Oper} {Q : Exit → Act → World → Prop} {l : List (Nat × Value)} {n : Nat} {a : Act} {w w' w0 : World} {rest : List Oper} {o : Oper} {O : Nat → Prop} {L R : List Ent} {Φ : World → Prop}
/-- The next of those that are left, whichever it is. -/
theorem snext {i j g gi clock : Nat} {es : List IE} {seen : Array Nat} {X : Operand} {d : Tmp} (E : Env l n a) (M : Mem w0 O L Φ w) (hi : L[i]? = some (.blk gi (.mapIter (some g) clock seen clock))) (hj : L[j]? = some (.blk g (.map (imap es) clock)))
    (hd : o.dst = some d) (hn : Nat.blt d n = true) (hc : covers l o = true) (hg : guardIn ops l o = true) (hw : wantedL ops l o = true)
    (ho : o.op = .next X false) (hX : evL l X = .pointer (some ⟨gi, 0, none⟩)) (hold : ∀ e ∈ es, e.born < clock) (h0 : (leftOf (imap es) seen).size ≠ 0)
    (kk : ∀ e ∈ es, seen.contains e.born = false → (leftOf (imap es) (seen.push e.born)).size < (leftOf (imap es) seen).size → ∀ a' w', Mem w0 O (L.set i (.blk gi (.mapIter (some g) clock (seen.push e.born) clock))) Φ w' → Env ((d, .tuple #[.bool true, .int .i64 e.key, e.val]) :: l) n a' → wpList P ops Q rest a' w') :
    wpList P ops Q (o :: rest) a w := by
  have h := run_next_at (P := P) w o.type gi g clock clock seen (imap es) clock (M.ent i hi) (M.ent j hj) (fun x hx => by obtain ⟨a, ha, rfl⟩ := imap_mem hx; exact hold a ha) (Nat.le_refl _)
  rcases h with ⟨h, _⟩ | ⟨x, hx, w1, hw1, h⟩
  · exact absurd h h0
  · have hl := left_shrinks _ _ x hx
    obtain ⟨hx1, hx2⟩ := mem_left hx
    obtain ⟨b, hb, rfl⟩ := imap_mem hx1
    have M1 : Mem w0 O L Φ w1 := by
      rcases hw1 with rfl | rfl
      · exact M
      · exact M.ext (Ext.drew w)
    exact sv E hd hn hc hg hw (v := .tuple #[.bool true, .int .i64 b.key, b.val]) (w' := setBlock w1 gi (.mapIter (some g) clock (seen.push b.born) clock)) (by simp [execOp, ho, hX, h]) fun a' E' => kk b hb hx2 hl a' _ (M1.setObj hi) E'
/-- clear. -/
theorem smclear {i g clock : Nat} {es : List IE} {t k e : TypeId} {X : Operand} {args : List Operand} {ts : List TypeId} (E : Env l n a) (M : Mem w0 O L Φ w) (hi : L[i]? = some (.blk g (.map (imap es) clock))) (hd : o.dst = none) (hc : covers l o = true) (hg : guardIn ops l o = true) (hw : wantedL ops l o = true)
    (ho : o.op = .call { callee := .builtin .clear, args := args.toArray, argTypes := ts.toArray }) (ha : args = [X]) (hts : ts = [t]) (hX : evL l X = .map (some g)) (ht : tyMap P t k e = true)
    (kk : ∀ a' w', Mem w0 O (L.set i (.blk g (.map (imap []) clock))) Φ w' → Env l n a' → wpList P ops Q rest a' w') : wpList P ops Q (o :: rest) a w := by
  refine seq_val E hc hg hw (by rw [hd]; rfl) (run_clearI ho ha hts hX ht (M.ent i hi)) fun a' E' => kk a' _ (M.setObj hi) ?_
  rw [hd] at E'
  exact E'
end
/-! What a range has written so far. -/
theorem find_congr' {α : Type} {p q : α → Bool} : ∀ {l : List α}, (∀ x ∈ l, p x = q x) → l.find? p = l.find? q
  | [], _ => rfl
  | a :: r, h => by rw [List.find?_cons, List.find?_cons, h a (List.mem_cons_self ..), find_congr' fun x hx => h x (List.mem_cons_of_mem _ hx)]
def syn (es : List IE) (seen : Array Nat) (vs : List Value) : List Value := vs.mapIdx fun j v => match es.find? (fun e => decide (e.key = (j : Int)) && seen.contains e.born) with | some e => e.val | none => v
theorem syn_none (es : List IE) (vs : List Value) : syn es #[] vs = vs := by
  unfold syn
  have : (fun (j : Nat) (v : Value) => match es.find? (fun e => decide (e.key = (j : Int)) && (#[] : Array Nat).contains e.born) with | some e => e.val | none => v) = fun j v => v := by
    funext j v
    have : es.find? (fun e => decide (e.key = (j : Int)) && (#[] : Array Nat).contains e.born) = none := by simp
    rw [this]
  rw [this]
  exact List.ext_getElem (by simp) fun j h1 h2 => by simp
theorem syn_step {es : List IE} {seen : Array Nat} {vs : List Value} {a : IE} (ha : a ∈ es) (hk : (es.map (·.key)).Nodup) (hb : (es.map (·.born)).Nodup) {i : Nat} (hi : a.key = (i : Int)) : (syn es seen vs).set i a.val = syn es (seen.push a.born) vs := by
  apply List.ext_getElem? 
  intro j
  have inj : ∀ (f : IE → Int), (es.map f).Nodup → ∀ x ∈ es, ∀ y ∈ es, f x = f y → x = y := fun f hf x hx y hy h => by
    obtain ⟨m, hm, rfl⟩ := List.getElem_of_mem hx
    obtain ⟨n, hn, rfl⟩ := List.getElem_of_mem hy
    have := (List.getElem_inj (xs := es.map f) (h₀ := by simpa using hm) (h₁ := by simpa using hn) hf).1 (by simpa using h)
    subst this
    rfl
  have injb : ∀ x ∈ es, ∀ y ∈ es, x.born = y.born → x = y := fun x hx y hy h => by
    obtain ⟨m, hm, rfl⟩ := List.getElem_of_mem hx
    obtain ⟨n, hn, rfl⟩ := List.getElem_of_mem hy
    have := (List.getElem_inj (xs := es.map (·.born)) (h₀ := by simpa using hm) (h₁ := by simpa using hn) hb).1 (by simpa using h)
    subst this
    rfl
  unfold syn
  rw [List.getElem?_set]
  simp only [List.getElem?_mapIdx]
  by_cases hj : i = j
  · subst hj
    rw [if_pos rfl]
    cases hv : vs[i]? with
    | none => 
      have : ¬ i < vs.length := by simpa using hv
      simp [this]
    | some v =>
      have hlt : i < vs.length := (List.getElem?_eq_some_iff.1 hv).1
      have : es.find? (fun e => decide (e.key = (i : Int)) && (seen.push a.born).contains e.born) = some a := by
        cases hf : es.find? (fun e => decide (e.key = (i : Int)) && (seen.push a.born).contains e.born) with
        | none =>
          have := List.find?_eq_none.1 hf a ha
          simp [hi] at this
        | some x =>
          have h1 := List.find?_some hf
          simp only [Bool.and_eq_true, decide_eq_true_eq] at h1
          rw [inj (·.key) hk x (List.mem_of_find?_eq_some hf) a ha (h1.1.trans hi.symm)]
      rw [this]
      simp [hlt]
  · rw [if_neg hj]
    congr 1
    funext v
    have : es.find? (fun e => decide (e.key = (j : Int)) && (seen.push a.born).contains e.born) = es.find? (fun e => decide (e.key = (j : Int)) && seen.contains e.born) := by
      refine find_congr' fun x hx => ?_
      by_cases h : x.key = (j : Int)
      · have hne : x.born ≠ a.born := fun c => hj (by have := injb x hx a ha c; subst this; omega)
        rw [contains_push, show (x.born == a.born) = false by simpa using hne, Bool.or_false]
      · simp [h]
    rw [this]
theorem syn_all {es : List IE} {seen : Array Nat} {vs : List Value} (h : ∀ e ∈ es, seen.contains e.born = true) : syn es seen vs = vs.mapIdx fun j v => (iget es (j : Int)).getD v := by
  unfold syn
  congr 1
  funext j v
  have : es.find? (fun e => decide (e.key = (j : Int)) && seen.contains e.born) = es.find? (fun e => decide (e.key = (j : Int))) := find_congr' fun x hx => by rw [h x hx, Bool.and_true]
  rw [this]
  have hg : ∀ (es : List IE) (i : Nat), (iat (j : Int) es i).map (·.2) = (es.find? (fun e => decide (e.key = (j : Int)))).map (·.val) := by
    intro es
    induction es with
    | nil => intro i; rfl
    | cons e r ih =>
      intro i
      unfold iat
      by_cases h : (j : Int) = e.key
      · rw [if_pos h]; simp [h]
      · rw [if_neg h, ih, List.find?_cons, show decide (e.key = (j : Int)) = false by simpa using fun c => h c.symm]
  unfold iget
  rw [hg es 0]
  cases es.find? (fun e => decide (e.key = (j : Int))) <;> rfl
end Go.Rill
end
section
namespace Go.Rill
set_option linter.unusedVariables false
set_option linter.unusedSimpArgs false
open Go.RowKit
def idel (q : Int) : List IE → List IE
  | [] => []
  | e :: r => if q = e.key then r else e :: idel q r
theorem map_erase' {α β : Type} (f : α → β) : ∀ (l : List α) (i : Nat), (l.map f).eraseIdx i = (l.eraseIdx i).map f
  | [], _ => rfl
  | a :: r, 0 => rfl
  | a :: r, i + 1 => by simp [map_erase' f r i]
theorem del_none {q : Int} : ∀ {es : List IE} {n : Nat}, iat q es n = none → idel q es = es
  | [], n, _ => rfl
  | e :: r, n, h => by
    unfold iat at h
    split at h
    · cases h
    · rename_i hne
      rw [idel, if_neg hne, del_none h]
theorem del_some {q : Int} {u : Value} : ∀ {es : List IE} {n i : Nat}, iat q es n = some (i, u) → ∃ j, i = n + j ∧ j < es.length ∧ idel q es = es.eraseIdx j
  | [], n, i, h => by cases h
  | e :: r, n, i, h => by
    unfold iat at h
    split at h
    · rename_i he
      injection h with h
      injection h with h1 h2
      subst h1
      exact ⟨0, rfl, by simp, by rw [idel, if_pos he]; rfl⟩
    · rename_i hne
      obtain ⟨j, h1, h2, h3⟩ := del_some h
      exact ⟨j + 1, by omega, by simpa using h2, by rw [idel, if_neg hne, h3]; rfl⟩
section
variable {P : Program} {ρ : Operand → Value} {o : Oper} {w : World} {t k k' e : TypeId} {g clock : Nat} {es : List IE}
theorem run_deleteI {X Y : Operand} {q : Int} {args : List Operand} {ts : List TypeId} (ho : o.op = .call { callee := .builtin .delete, args := args.toArray, argTypes := ts.toArray }) (ha : args = [X, Y]) (hts : ts = [t, k']) (hX : ρ X = .map (some g)) (hY : ρ Y = .int .i64 q) (ht : tyMap P t k e = true) (hg : w.heap[g]? = some (.map (imap es) clock)) :
    (execOp ρ o).run P w = .ok (.value (.tuple #[])) { w with heap := w.heap.setIfInBounds g (.map (imap (idel q es)) clock) } := by
  subst ha hts
  obtain ⟨h1, h2⟩ := map_und ht
  have hgo : (getObj g).run P w = .ok (.map (imap es) clock) w := by simp [getObj, Sem.run, hg]
  have hso : ∀ o', (setObj g o').run P w = .ok () { w with heap := w.heap.setIfInBounds g o' } := fun o' => by simp [setObj, Sem.run, hg]
  have : (Builtin.delete_ #[t, k'] o.type #[.map (some g), .int .i64 q]).run P w = .ok (.tuple #[]) { w with heap := w.heap.setIfInBounds g (.map (imap (idel q es)) clock) } := by
    cases hf : iat q es 0 with
    | none =>
      rw [del_none hf]
      simp [Builtin.delete_, run_underlying h1, hgo, hso, run_ckey _ q h2, run_find q h2, hf, Result.andThen]
    | some p =>
      obtain ⟨i, u⟩ := p
      obtain ⟨j, hj, hjl, hd⟩ := del_some hf
      rw [Nat.zero_add] at hj
      subst hj
      have e1 : (imap es).eraseIdxIfInBounds i = imap (idel q es) := by
        rw [hd]
        apply Array.toList_inj.1
        unfold Array.eraseIdxIfInBounds
        rw [dif_pos (by simpa [imap] using hjl)]
        simp [imap, map_erase']
      simp [Builtin.delete_, run_underlying h1, hgo, hso, run_ckey _ q h2, run_find q h2, hf, Result.andThen, e1]
  simp [execOp, ho, resolve, invoke, builtin, hX, hY, this]
theorem run_lookup1 {X Y : Operand} {q : Int} {z v : Value} (ho : o.op = .lookup t X Y false) (hX : ρ X = .map (some g)) (hY : ρ Y = .int .i64 q) (ht : tyMap P t k e = true) (hz : zeroOf P e = some z) (hg : w.heap[g]? = some (.map (imap es) clock)) (hr : (iget es q).getD z = v) :
    (execOp ρ o).run P w = .ok (.value v) w := by
  obtain ⟨h1, h2⟩ := map_und ht
  have hzv : (zeroValue e).run P w = .ok z w := by
    unfold zeroOf at hz
    cases hi : P.info? e with
    | none => rw [hi] at hz; cases hz
    | some i => rw [hi] at hz; simp only [Option.bind_some] at hz; simp [zeroValue, typeInfo, hi, hz]
  have hgo : (getObj g).run P w = .ok (.map (imap es) clock) w := by simp [getObj, Sem.run, hg]
  simp only [execOp, ho, hX, hY, Instr.lookup, Sem.run_bind, run_underlying h1, Result.andThen_ok, hgo, Sem.run_pure, run_ckey _ q h2, run_find q h2]
  unfold iget at hr
  cases hf : iat q es 0 with
  | none => rw [hf] at hr; simp only [Option.map_none, Option.getD_none] at hr; subst hr; simp [hzv]
  | some p => rw [hf] at hr; simp only [Option.map_some, Option.getD_some] at hr; subst hr; simp
end
section
variable {P : Program} {ops : Array Oper} {Q : Exit → Act → World → Prop} {l : List (Nat × Value)} {n : Nat} {a : Act} {w w' w0 : World} {rest : List Oper} {o : Oper} {O : Nat → Prop} {L R : List Ent} {Φ : World → Prop}
theorem smdel {i g clock : Nat} {es : List IE} {t k k' e : TypeId} {X Y : Operand} {q : Int} {args : List Operand} {ts : List TypeId} (E : Env l n a) (M : Mem w0 O L Φ w) (hi : L[i]? = some (.blk g (.map (imap es) clock))) (hd : o.dst = none) (hc : covers l o = true) (hg : guardIn ops l o = true) (hw : wantedL ops l o = true)
    (ho : o.op = .call { callee := .builtin .delete, args := args.toArray, argTypes := ts.toArray }) (ha : args = [X, Y]) (hts : ts = [t, k']) (hX : evL l X = .map (some g)) (hY : evL l Y = .int .i64 q) (ht : tyMap P t k e = true)
    (kk : ∀ a' w', Mem w0 O (L.set i (.blk g (.map (imap (idel q es)) clock))) Φ w' → Env l n a' → wpList P ops Q rest a' w') : wpList P ops Q (o :: rest) a w := by
  refine seq_val E hc hg hw (by rw [hd]; rfl) (run_deleteI ho ha hts hX hY ht (M.ent i hi)) fun a' E' => kk a' _ (M.setObj hi) ?_
  rw [hd] at E'
  exact E'
/-- A store into a growing slice, as the last of a drawn region. -/
theorem last_setR {wb : World} {m i k c sz : Nat} {t e : TypeId} {A X : Operand} {v u : Value} {xs xs' : List Value} (E : Env l n a) (M : Mem wb O L Φ w) (ho : ops[m]? = some o) (hL : L[i]? = some (.row e sz v c xs)) (hd : o.dst = none) (hc : covers l o = true) (hg : guardIn ops l o = true) (hw : wantedL ops l o = true)
    (hop : o.op = .store t A X) (hA : evL l A = cellAt v k) (hX : evL l X = u) (ht : tySize P t 1 = true) (hk : k < c * sz) (h1 : u.oneCell' = true) (hx : xs.set k u = xs')
    (kk : ∀ a' w', Mem wb O (L.set i (.row e sz v c xs')) Φ w' → Env l n a' → Q .normal a' w') : lastOp P ops Q m a w := by
  subst hx
  have hr := M.ent i hL
  obtain ⟨hlen, hh⟩ := hr
  rcases hh with ⟨rfl, rfl⟩ | ⟨g, cap, cur, rfl, h0, hgg, hnc, hcm, hcs, htk⟩
  · simp at hk
  · have hA' : evL l A = .pointer (some ⟨g, k, none⟩) := by rw [hA, cellAt, add_plain, Nat.zero_add]
    have hmc : c * sz ≤ cap * sz := Nat.mul_le_mul_right _ hnc
    have hrun := run_store1 (P := P) (w := w) hop hA' hX ht hgg (by omega) h1
    unfold lastOp
    rw [ho]
    simp only
    rw [E.wanted hg, if_pos hw]
    unfold Oper.wp
    rw [E.exec hc, hrun]
    have E2 := E.put (d := o.dst) (by rw [hd]; rfl) undef
    rw [hd] at E2
    rw [Oper.upon_skip, hd]
    refine kk _ _ (M.change hL _ (Ch.setRow (by simp [Ent.row, Value.ownBlock])) ⟨by simpa using hlen, .inr ⟨g, cap, _, rfl, h0, setRow_heap w g cur _ e _ hgg, hnc, hcm, by simpa using hcs, ?_⟩⟩ fun k' hk' => ?_) E2
    · simp only [Array.toList_setIfInBounds]
      rw [List.take_set, htk]
    · have := M.lt _ (List.mem_of_getElem? hL) k' (by simpa [Ent.row] using hk')
      exact ⟨by simpa using this, .inl (by simpa [Ent.row] using hk')⟩
end
end Go.Rill
end
section
namespace Go.Proofs
open Go.Shelf
def Tryz.keysL_ren : Go.Shelf.Ren := ⟨fun | 7 => 63 | 10 => 79 | n => n, fun | 23 => 69 | 26 => 3 | 3 => 36 | 28 => 119 | 0 => 0 | 27 => 118 | 33 => 95 | 4 => 4 | n => n, fun | n => n⟩
theorem Tryz.keysL : SlLaysZI.n7 Tryz.prog Tryz.keysL_ren :=
  { mixed := by kernel_rfl,
    f7 := ⟨Tryz.f63.name, by decide, Tryz.func63.trans (congrArg some (by kernel_rfl))⟩,
    f10 := ⟨Tryz.f79.name, by decide, Tryz.func79.trans (congrArg some (by kernel_rfl))⟩,
    t0 := Tryz.underlying0,
    a0 := Tryz.isAgg0,
    z0 := Tryz.sizeOf0,
    v0 := Tryz.zeroValue0,
    t4 := Tryz.underlying4,
    a4 := Tryz.isAgg4,
    z4 := Tryz.sizeOf4,
    v4 := Tryz.zeroValue4,
    t23 := Tryz.underlying69,
    a23 := Tryz.isAgg69,
    z23 := Tryz.sizeOf69,
    v23 := Tryz.zeroValue69,
    t26 := Tryz.underlying3,
    a26 := Tryz.isAgg3,
    z26 := Tryz.sizeOf3,
    v26 := Tryz.zeroValue3,
    t27 := Tryz.underlying118,
    a27 := Tryz.isAgg118,
    z27 := Tryz.sizeOf118,
    v27 := Tryz.zeroValue118,
    t28 := Tryz.underlying119,
    a28 := Tryz.isAgg119,
    z28 := Tryz.sizeOf119,
    v28 := Tryz.zeroValue119,
    t33 := Tryz.underlying95,
    a33 := Tryz.isAgg95,
    z33 := Tryz.sizeOf95,
    v33 := Tryz.zeroValue95 }
def Tryz.sortedL_ren : Go.Shelf.Ren := ⟨fun | 6 => 62 | 8 => 77 | 9 => 78 | 11 => 90 | 13 => 92 | 12 => 91 | 23 => 107 | 24 => 108 | 14 => 98 | 15 => 99 | 16 => 100 | 17 => 101 | 18 => 102 | 19 => 103 | 20 => 104 | 21 => 105 | 22 => 106 | 25 => 109 | 26 => 110 | 27 => 111 | 28 => 112 | 29 => 113 | 30 => 114 | 31 => 115 | n => n, fun | 26 => 3 | 28 => 119 | 24 => 33 | 0 => 0 | 3 => 3 | 37 => 86 | 48 => 163 | 50 => 148 | 4 => 4 | 40 => 155 | 39 => 154 | 45 => 160 | 5 => 5 | 9 => 9 | 51 => 165 | 55 => 169 | 57 => 171 | 58 => 172 | 33 => 95 | n => n, fun | n => n⟩
theorem Tryz.sortedL : SlLaysZI.n6 Tryz.prog Tryz.sortedL_ren :=
  { mixed := by kernel_rfl,
    f6 := ⟨Tryz.f62.name, by decide, Tryz.func62.trans (congrArg some (by kernel_rfl))⟩,
    f8 := ⟨Tryz.f77.name, by decide, Tryz.func77.trans (congrArg some (by kernel_rfl))⟩,
    f11 := ⟨Tryz.f90.name, by decide, Tryz.func90.trans (congrArg some (by kernel_rfl))⟩,
    t0 := Tryz.underlying0,
    a0 := Tryz.isAgg0,
    z0 := Tryz.sizeOf0,
    v0 := Tryz.zeroValue0,
    t24 := Tryz.underlying33,
    a24 := Tryz.isAgg33,
    z24 := Tryz.sizeOf33,
    v24 := Tryz.zeroValue33,
    t26 := Tryz.underlying3,
    a26 := Tryz.isAgg3,
    z26 := Tryz.sizeOf3,
    v26 := Tryz.zeroValue3,
    t28 := Tryz.underlying119,
    a28 := Tryz.isAgg119,
    z28 := Tryz.sizeOf119,
    v28 := Tryz.zeroValue119,
    i26 := by kernel_rfl }
def Tryz.sortL_ren : Go.Shelf.Ren := ⟨fun | 5 => 78 | 8 => 92 | 7 => 91 | 19 => 107 | 20 => 108 | 10 => 98 | 11 => 99 | 12 => 100 | 13 => 101 | 14 => 102 | 15 => 103 | 16 => 104 | 17 => 105 | 18 => 106 | 30 => 109 | 31 => 110 | 32 => 111 | 33 => 112 | 34 => 113 | 35 => 114 | 40 => 115 | n => n, fun | 23 => 33 | 25 => 3 | 3 => 3 | 32 => 86 | 22 => 33 | 0 => 0 | 44 => 163 | 46 => 148 | 4 => 4 | 36 => 155 | 35 => 154 | 41 => 160 | 5 => 5 | 9 => 9 | 53 => 165 | 57 => 169 | 63 => 171 | 64 => 172 | n => n, fun | n => n⟩
theorem Tryz.sortL : SlLaysM.n5 Tryz.prog Tryz.sortL_ren :=
  { mixed := by kernel_rfl,
    f5 := ⟨Tryz.f78.name, by decide, Tryz.func78.trans (congrArg some (by kernel_rfl))⟩,
    f7 := ⟨Tryz.f91.name, by decide, Tryz.func91.trans (congrArg some (by kernel_rfl))⟩,
    f8 := Tryz.func92.trans (congrArg some (by kernel_rfl)),
    f10 := ⟨Tryz.f98.name, by decide, Tryz.func98.trans (congrArg some (by kernel_rfl))⟩,
    f11 := ⟨Tryz.f99.name, by decide, Tryz.func99.trans (congrArg some (by kernel_rfl))⟩,
    f12 := ⟨Tryz.f100.name, by decide, Tryz.func100.trans (congrArg some (by kernel_rfl))⟩,
    f13 := ⟨Tryz.f101.name, by decide, Tryz.func101.trans (congrArg some (by kernel_rfl))⟩,
    f14 := ⟨Tryz.f102.name, by decide, Tryz.func102.trans (congrArg some (by kernel_rfl))⟩,
    f15 := ⟨Tryz.f103.name, by decide, Tryz.func103.trans (congrArg some (by kernel_rfl))⟩,
    f16 := ⟨Tryz.f104.name, by decide, Tryz.func104.trans (congrArg some (by kernel_rfl))⟩,
    f17 := ⟨Tryz.f105.name, by decide, Tryz.func105.trans (congrArg some (by kernel_rfl))⟩,
    f18 := ⟨Tryz.f106.name, by decide, Tryz.func106.trans (congrArg some (by kernel_rfl))⟩,
    f19 := Tryz.func107.trans (congrArg some (by kernel_rfl)),
    f20 := Tryz.func108.trans (congrArg some (by kernel_rfl)),
    f30 := ⟨Tryz.f109.name, by decide, Tryz.func109.trans (congrArg some (by kernel_rfl))⟩,
    f31 := Tryz.func110.trans (congrArg some (by kernel_rfl)),
    f32 := Tryz.func111.trans (congrArg some (by kernel_rfl)),
    f33 := ⟨Tryz.f112.name, by decide, Tryz.func112.trans (congrArg some (by kernel_rfl))⟩,
    f34 := ⟨Tryz.f113.name, by decide, Tryz.func113.trans (congrArg some (by kernel_rfl))⟩,
    f35 := ⟨Tryz.f114.name, by decide, Tryz.func114.trans (congrArg some (by kernel_rfl))⟩,
    f40 := ⟨Tryz.f115.name, by decide, Tryz.func115.trans (congrArg some (by kernel_rfl))⟩,
    t0 := Tryz.underlying0,
    a0 := Tryz.isAgg0,
    z0 := Tryz.sizeOf0,
    v0 := Tryz.zeroValue0,
    t3 := Tryz.underlying3,
    a3 := Tryz.isAgg3,
    z3 := Tryz.sizeOf3,
    v3 := Tryz.zeroValue3,
    t4 := Tryz.underlying4,
    a4 := Tryz.isAgg4,
    z4 := Tryz.sizeOf4,
    v4 := Tryz.zeroValue4,
    t5 := Tryz.underlying5,
    a5 := Tryz.isAgg5,
    z5 := Tryz.sizeOf5,
    v5 := Tryz.zeroValue5,
    t9 := Tryz.underlying9,
    a9 := Tryz.isAgg9,
    z9 := Tryz.sizeOf9,
    v9 := Tryz.zeroValue9,
    t22 := Tryz.underlying33,
    a22 := Tryz.isAgg33,
    z22 := Tryz.sizeOf33,
    v22 := Tryz.zeroValue33,
    t23 := Tryz.underlying33,
    a23 := Tryz.isAgg33,
    z23 := Tryz.sizeOf33,
    v23 := Tryz.zeroValue33,
    t25 := Tryz.underlying3,
    a25 := Tryz.isAgg3,
    z25 := Tryz.sizeOf3,
    v25 := Tryz.zeroValue3,
    t32 := Tryz.underlying86,
    a32 := Tryz.isAgg86,
    z32 := Tryz.sizeOf86,
    v32 := Tryz.zeroValue86,
    t35 := Tryz.underlying154,
    a35 := Tryz.isAgg154,
    z35 := Tryz.sizeOf154,
    v35 := Tryz.zeroValue154,
    t36 := Tryz.underlying155,
    a36 := Tryz.isAgg155,
    z36 := Tryz.sizeOf155,
    v36 := Tryz.zeroValue155,
    t41 := Tryz.underlying160,
    a41 := Tryz.isAgg160,
    z41 := Tryz.sizeOf160,
    v41 := Tryz.zeroValue160,
    t44 := Tryz.underlying163,
    a44 := Tryz.isAgg163,
    z44 := Tryz.sizeOf163,
    v44 := Tryz.zeroValue163,
    t46 := Tryz.underlying148,
    a46 := Tryz.isAgg148,
    z46 := Tryz.sizeOf148,
    v46 := Tryz.zeroValue148,
    t53 := Tryz.underlying165,
    a53 := Tryz.isAgg165,
    z53 := Tryz.sizeOf165,
    v53 := Tryz.zeroValue165,
    t57 := Tryz.underlying169,
    a57 := Tryz.isAgg169,
    z57 := Tryz.sizeOf169,
    v57 := Tryz.zeroValue169,
    t63 := Tryz.underlying171,
    a63 := Tryz.isAgg171,
    z63 := Tryz.sizeOf171,
    v63 := Tryz.zeroValue171,
    t64 := Tryz.underlying172,
    a64 := Tryz.isAgg172,
    z64 := Tryz.sizeOf172,
    v64 := Tryz.zeroValue172 }
end Go.Proofs
end
section
namespace Go.Rill
set_option linter.unusedVariables false
set_option linter.unusedSimpArgs false
open Go.RowKit
section
variable {P : Program}
theorem run_appendZ {ρ : Operand → Value} {o : Oper} {w : World} {t tx e e' : TypeId} {X Y : Operand} {sz bytes n m : Nat} {v x : Value} {xs news : List Value} {args : List Operand} {ts : List TypeId} (ho : o.op = .call { callee := .builtin .append, args := args.toArray, argTypes := ts.toArray }) (ha : args = [X, Y]) (hts : ts = [t, tx]) (hX : ρ X = v) (hY : ρ Y = x)
    (ht : tySlice P t e = true) (htx : tySlice P tx e' = true) (hz : tyZero P e sz = true) (hb : tyBytes' P e bytes = true) (hsz : 0 < sz) (hown : w.ownsRow 0 e sz v n xs) (hs : Src P sz tx x m news w) (hmax : (n + m) * (bytes + 1) ≤ 140737488355328) :
    ∃ v' w', (execOp ρ o).run P w = .ok (.value v') w' ∧ w'.ownsRow 0 e sz v' (n + m) (xs ++ news) ∧ w.grownBy w' v.ownBlock ∧ (∀ g, v'.ownBlock = some g → v.ownBlock = some g ∨ w.heap.size ≤ g) := by
  subst ha hts
  unfold tyZero at hz
  unfold tyBytes' at hb
  cases hi : P.info? e with
  | none => rw [hi] at hz; cases hz
  | some i =>
    rw [hi] at hz hb
    simp only [Bool.and_eq_true, beq_iff_eq] at hz hb
    cases hzz : i.zero with
    | none => rw [hzz] at hz; cases hz.2
    | some z =>
      rw [hzz] at hz
      have hzs : z.cells.size = sz := by simpa using hz.2
      have e1 : (n + m) * (bytes + 1) = (n + m) * bytes + (n + m) := by rw [Nat.mul_add, Nat.mul_one]
      obtain ⟨v', w', h2, h3, h4, h5, _⟩ := run_append_src (P := P) t tx o.type e i z sz bytes (slice_und ht) hi hzz hz.1 hb hzs hsz v n xs hown x m news hs (by simp only [maxLen]; omega) (by omega)
      refine ⟨v', w', ?_, h3, h4, h5⟩
      simp [execOp, ho, resolve, invoke, builtin, hX, hY, h2]
variable {ops : Array Oper} {Q : Exit → Act → World → Prop} {l : List (Nat × Value)} {n : Nat} {a : Act} {w w' w0 : World} {rest : List Oper} {o : Oper} {O : Nat → Prop} {L R : List Ent} {Φ : World → Prop}
/-- A slice of the call's own grows. -/
theorem sappZ {d : Tmp} {i k m sz bytes : Nat} {t tx e e' : TypeId} {X Y : Operand} {v x : Value} {xs news : List Value} {args : List Operand} {ts : List TypeId} (E : Env l n a) (M : Mem w0 O L Φ w) (hL : L[i]? = some (.row e sz v k xs)) (hd : o.dst = some d) (hn : Nat.blt d n = true) (hc : covers l o = true) (hg : guardIn ops l o = true) (hw : wantedL ops l o = true)
    (ho : o.op = .call { callee := .builtin .append, args := args.toArray, argTypes := ts.toArray }) (ha : args = [X, Y]) (hts : ts = [t, tx]) (hX : evL l X = v) (hY : evL l Y = x) (ht : tySlice P t e = true) (htx : tySlice P tx e' = true) (hz : tyZero P e sz = true) (hb : tyBytes' P e bytes = true) (hsz : 0 < sz) (hs : Src P sz tx x m news w) (hmax : (k + m) * (bytes + 1) ≤ 140737488355328)
    (kk : ∀ v' a' w', Mem w0 O (L.set i (.row e sz v' (k + m) (xs ++ news))) Φ w' → Env ((d, v') :: l) n a' → wpList P ops Q rest a' w') : wpList P ops Q (o :: rest) a w := by
  obtain ⟨v', w', h, h3, h4, h5⟩ := run_appendZ (P := P) ho ha hts hX hY ht htx hz hb hsz (M.ent i hL) hs hmax
  refine sv E hd hn hc hg hw h fun a' E' => kk v' a' w' (M.change hL _ ⟨h4.os, h4.tape, h4.output, ⟨h4.size, fun g hg hn => h4.block g hg (fun he => hn (by simp [Ent.row, ← he]))⟩⟩ h3 fun g hg => ?_) E'
  have hg' : v'.ownBlock = some g := by simpa [Ent.row] using hg
  refine ⟨?_, (h5 g hg').imp (fun h => by simp [Ent.row, h]) id⟩
  rcases h3.2 with ⟨rfl, _⟩ | ⟨g2, cap, cur, rfl, _, h6, _⟩
  · simp [Value.ownBlock] at hg'
  · simp [Value.ownBlock] at hg'
    subst hg'
    exact (Array.getElem?_eq_some_iff.1 h6).1

end
/-- .. and apart from these blocks. -/
def FarB (w : World) (F : Nat → Prop) (v : Value) (l : List UInt8) : Prop := (Bytes w v l ∧ ∀ g, v.ownBlock = some g → ¬ F g) ∨ ∃ a, v = .slice (some a) 0 0 ∧ l = []
def FarI (w : World) (F : Nat → Prop) (v : Value) (l : List Int) : Prop := (Reads 1 w v l.length (ic l) ∧ ∀ g, v.ownBlock = some g → ¬ F g) ∨ ∃ a, v = .slice (some a) 0 0 ∧ l = []
theorem FarB.held {w w' : World} {F : Nat → Prop} {v : Value} {l : List UInt8} (h : FarB w F v l) (H : Held F w w') : FarB w' F v l := h.imp (fun q => ⟨Reads.held q.1 H q.2, q.2⟩) id
theorem FarI.held {w w' : World} {F : Nat → Prop} {v : Value} {l : List Int} (h : FarI w F v l) (H : Held F w w') : FarI w' F v l := h.imp (fun q => ⟨Reads.held q.1 H q.2, q.2⟩) id
/-- An operation of the laws over a disk: what it is, a record, bytes, numbers. -/
structure OpT where
  k : Int
  n : Int
  m : Int
  r : Rec
  dv : Value
  lv : Value
  dl : List UInt8
  ll : List Int
def OpT.cells (o : OpT) : List Value := [.int .i64 o.k, .int .i64 o.n, .int .i64 o.m] ++ (o.r.cells ++ [o.dv, o.lv])
section
variable {o : OpT}
theorem OpT.len (h : o.r.Ok) : o.cells.length = 141 := by simp [OpT.cells, Rec.len h]
theorem OpT.size (h : o.r.Ok) : o.cells.toArray.size = 141 := by simp [OpT.len h]
end
theorem src_zero {P : Program} {tx e' : TypeId} {a : Addr} {w : World} (htx : tySlice P tx e' = true) : Src P 1 tx (.slice (some a) 0 0) 0 [] w := Src.ofSlice w (slice_und htx) a 0 0 [] rfl (fun j u hu => by cases hu) (fun u hu => by cases hu)
end Go.Rill
end
section
namespace Go.Rill
set_option linter.unusedVariables false
set_option linter.unusedSimpArgs false
open Go.RowKit
section
variable {P : Program}
/-- A loop's body, and the loop again. -/
def LoopWp (P : Program) (c : Code) (Q : Exit → Act → World → Prop) (a : Act) (w : World) : Prop :=
  ∀ (b : Frame) (k : List Item) (cs : List Frame), ∃ e a' w', Q e a' w' ∧ Arrives P (lone (b.at a (.code c :: .inLoop c :: k)) cs w) b k cs e a' w'
theorem LoopWp.wp {c : Code} {Q : Exit → Act → World → Prop} {a : Act} {w : World} (h : LoopWp P c Q a w) : (Code.loop c).wp P Q a w := fun b k cs => by
  obtain ⟨e, a', w', hq, harr⟩ := h b k cs
  exact ⟨e, a', w', hq, .of_steps (.one step_loop) harr⟩
theorem LoopWp.step {c : Code} {Q : Exit → Act → World → Prop} {a : Act} {w : World} (h : c.wp P (Exit.then (LoopWp P c Q) Q) a w) : LoopWp P c Q a w := by
  intro b kk cs
  obtain ⟨e, a₁, w₁, hq, harr⟩ := h b (.inLoop c :: kk) cs
  cases e with
  | normal =>
    obtain ⟨e₂, a₂, w₂, hq₂, harr₂⟩ := hq b kk cs
    exact ⟨e₂, a₂, w₂, hq₂, .of_steps (Steps.trans harr (.one step_inLoop)) harr₂⟩
  | exit id => exact ⟨_, a₁, w₁, hq, .pass (x := .inLoop c) rfl (fun _ _ => .inl (by simp)) harr⟩
  | goto l => exact ⟨_, a₁, w₁, hq, .pass (x := .inLoop c) rfl (fun _ _ => .inl (by simp)) harr⟩
  | ret => exact ⟨_, a₁, w₁, hq, .pass (x := .inLoop c) rfl (fun _ _ => .inl (by simp)) harr⟩
  | panic ch => exact ⟨_, a₁, w₁, hq, .pass (x := .inLoop c) rfl (fun _ _ => .inl (by simp)) harr⟩
  | outgrown => exact ⟨_, a₁, w₁, hq, .pass (x := .inLoop c) rfl (fun _ _ => .inl (by simp)) harr⟩
variable {ρ : Operand → Value} {o : Oper} {w : World}
theorem run_makeFuncs {F : Fn} {xs ys : List Operand} {us vs : List Value} (ho : o.op = .makeFunc F xs.toArray ys.toArray) (hx : xs.map ρ = us) (hy : ys.map ρ = vs) : (execOp ρ o).run P w = .ok (.value (.func F us.toArray vs.toArray)) w := by
  subst hx hy
  simp [execOp, ho, Instr.makeFunc]
/-- A function's value is called: what it was bound to first, then the arguments, then what it captured. -/
theorem run_callF {x : Operand} {args : List Operand} {ts : Array TypeId} {f : FuncId} {us cs : List Value} (ho : o.op = .call { callee := .value x, args := args.toArray, argTypes := ts }) (hx : ρ x = .func (.func f) us.toArray cs.toArray) (hf : goFn P f = true) :
    (execOp ρ o).run P w = .ok (.enter f (us ++ args.map ρ ++ cs).toArray) w := by
  unfold goFn at hf
  cases h : P.funcs[f]? with
  | none => rw [h] at hf; cases hf
  | some fn =>
    rw [h] at hf
    simp only [Bool.and_eq_true, Bool.not_eq_true'] at hf
    obtain ⟨h1, h2⟩ := hf
    have h3 : ¬ fn.body = none := by cases hb : fn.body <;> simp_all
    have h4 : ¬ fn.name = "runtime.NumGoroutine" := by simpa using h2
    simp [execOp, ho, resolve, hx, Deferred.ofValue, invoke, callFunc, h, h4, h3, program, Sem.run]
end
end Go.Rill
end
section
namespace Go.Rill
set_option linter.unusedVariables false
set_option linter.unusedSimpArgs false
open Go.Proofs.YtnebjbgcibjohaaGreatW.PrintLast Go.RowKit
def ownRoadW (B : List Nat) (N : Nat) (Fs : Nat → Nat → Prop) (w0 : World) : Road where
  Pre i w := Ch (fun g => ∃ j, j ≠ i ∧ (j < N → waits B j i = false) ∧ Fs j g) w0 w
  R i w w' := Ch (Fs i) w w'
  I b w := Ch (fun g => ∃ j, b j = true ∧ Fs j g) w0 w
section
variable {P : Program} {Q : Exit → Act → World → Prop} {l : List (Nat × Value)} {n N c : Nat} {w w0 : World} {ops : Array Oper} {B : List Nat} {Vs : List Spec} {i : Nat} {Fs : Nat → Nat → Prop} {O : Nat → Prop} {J R0 : List Ent} {Φ : World → Prop}
theorem wideF (h : FStepR P ops B l n Vs (ownRoad Fs w0) Q i) : FStepR P ops B l n Vs (ownRoadW B N Fs w0) Q i :=
  fun x a w hp => h x a w (hp.mono fun g _ ⟨j, h1, _, h2⟩ => ⟨j, h1, h2⟩)
theorem ownRoadW_ok (h : (ownRoad Fs w0).Ok N B Vs w0) : (ownRoadW B N Fs w0).Ok N B Vs w0 where
  begin := h.begin
  pre b i w hb hs _ hI := hI.mono fun g _ ⟨j, h1, h2⟩ => ⟨j, fun e => (by subst e; rw [hb] at h1; cases h1), fun hj => (by
    cases hw : waits B j i with
    | false => rfl
    | true => rw [hs j hj hw] at h1; cases h1), h2⟩
  step := h.step
  keep i j p hij hw hs w w' v hp hr hv := h.keep i j p hij hw hs w w' v (hp.mono fun g _ ⟨j, h1, _, h2⟩ => ⟨j, h1, h2⟩) hr hv
/-- Ahead of the call all is as it was. -/
theorem ahead (M : Mem w0 O (J ++ R0) Φ w) (hc : Nat.blt c N = true) (hw : waits B c i = true) {w' : World} (h : Ch (fun g => ∃ j, j ≠ i ∧ (j < N → waits B j i = false) ∧ oneFs c J j g) w.drew w') : Mem w0 O (J ++ R0) Φ w' := by
  refine M.ext ((Ext.drew w).trans (h.mono fun g _ ⟨j, _, h2, h3, _⟩ => ?_ : Ch none' w.drew w').ext)
  subst h3
  rw [h2 (by simpa using hc)] at hw
  cases hw
theorem fr_valJ {o : Oper} {s : Spec} (ho : ops[i]? = some o) (hs : Vs[i]? = some s) (M : Mem w0 O (J ++ R0) Φ w) (hc : Nat.blt c N = true) (hw : waits B c i = true)
    (h : ∀ (x : Nat → Value) (w' : World), Mem w0 O (J ++ R0) Φ w' → w.heap.size ≤ w'.heap.size → (∀ j, waits B i j = true → knows Vs x w' j) → ∃ v w'', covers (envOf ops B l Vs x i) o = true ∧ guardIn ops (envOf ops B l Vs x i) o = true ∧ wantedL ops (envOf ops B l Vs x i) o = true ∧
      (execOp (evL (envOf ops B l Vs x i)) o).run P w' = .ok (.value v) w'' ∧ Ext w' w'' ∧ s.ok w'' v) : FStepR P ops B l n Vs (ownRoadW B N (oneFs c J) w.drew) Q i := by
  intro x a w' hx hk E
  obtain ⟨v, w'', h1, h2, h3, h4, h5, h6⟩ := h x w' (ahead M hc hw hx) hx.held.size hk
  refine ⟨o, s, ho, hs, fun K hK => ?_⟩
  rw [E.wanted h2, if_pos h3]
  unfold Oper.wp
  rw [E.exec h1, h4, Oper.upon_value]
  exact hK v w'' (Ch.of_ext h5) h6
theorem fr_extJ {o : Oper} {s : Spec} (ho : ops[i]? = some o) (hs : Vs[i]? = some s) (M : Mem w0 O (J ++ R0) Φ w) (hc : Nat.blt c N = true) (hw : waits B c i = true)
    (h : ∀ (x : Nat → Value) (w' : World), Mem w0 O (J ++ R0) Φ w' → w.heap.size ≤ w'.heap.size → (∀ j, waits B i j = true → knows Vs x w' j) → ∃ f args, covers (envOf ops B l Vs x i) o = true ∧ guardIn ops (envOf ops B l Vs x i) o = true ∧ wantedL ops (envOf ops B l Vs x i) o = true ∧
      (execOp (evL (envOf ops B l Vs x i)) o).run P w' = .ok (.enter f args) w' ∧ ExtCall P f args w' s) : FStepR P ops B l n Vs (ownRoadW B N (oneFs c J) w.drew) Q i := by
  intro x a w' hx hk E
  obtain ⟨f, args, h1, h2, h3, h4, h5⟩ := h x w' (ahead M hc hw hx) hx.held.size hk
  refine ⟨o, s, ho, hs, fun K hK => ?_⟩
  rw [E.wanted h2, if_pos h3]
  unfold Oper.wp
  rw [E.exec h1, h4, Oper.upon_enter]
  refine h5.mono ?_
  rintro e w'' ⟨v, rfl, hx2, hv⟩
  exact hK v w'' (Ch.of_ext hx2) hv
end
end Go.Rill
end
section
namespace Go.Rill
set_option linter.unusedVariables false
set_option linter.unusedSimpArgs false
open Go.RowKit Go.ChangeShapes Go.WideShapes
section
variable {H : Type} {enc : TypeId × Value → H} {P : Program} {W : World} {base b0 : Nat} {spare : Nat → Bool} {held : Bool} {r : Reach} {t e : TypeId} {v : Value}
end
end Go.Rill
end
section
namespace Go.Rill
set_option linter.unusedVariables false
set_option linter.unusedSimpArgs false
open Go.RowKit
def ocs (l : List OpT) : List Value := (l.map OpT.cells).flatten
def OOk (l : List OpT) : Prop := ∀ r ∈ l, r.r.Ok
@[simp] theorem ocs_nil : ocs [] = [] := rfl
theorem OOk.sub {a b : List OpT} (h : OOk b) (s : ∀ r ∈ a, r ∈ b) : OOk a := fun r hr => h r (s r hr)
theorem OOk.take {l : List OpT} (h : OOk l) (k : Nat) : OOk (l.take k) := fun r hr => h r (List.mem_of_mem_take hr)
theorem OOk.drop {l : List OpT} (h : OOk l) (k : Nat) : OOk (l.drop k) := fun r hr => h r (List.mem_of_mem_drop hr)
theorem OOk.set {l : List OpT} (h : OOk l) {k : Nat} {r : OpT} (hr : r.r.Ok) : OOk (l.set k r) := fun x hx => by
  rcases List.mem_or_eq_of_mem_set hx with h1 | rfl
  · exact h x h1
  · exact hr
theorem OOk.get {l : List OpT} (h : OOk l) {k : Nat} (hk : k < l.length) : (l[k]).r.Ok := h _ (List.getElem_mem hk)
/-- A slice of operations, each with its bytes and numbers apart from these blocks. -/
def Ops (w : World) (F : Nat → Prop) (v : Value) (l : List OpT) : Prop := Reads 141 w v l.length (ocs l) ∧ ∀ o ∈ l, FarB w F o.dv o.dl ∧ FarI w F o.lv o.ll
theorem Ops.held {w w' : World} {F : Nat → Prop} {v : Value} {l : List OpT} (h : Ops w F v l) (H : Held F w w') (hv : ∀ g, v.ownBlock = some g → ¬ F g) : Ops w' F v l := ⟨Reads.held h.1 H hv, fun o ho => ⟨(h.2 o ho).1.held H, (h.2 o ho).2.held H⟩⟩
theorem FarB.slice {w : World} {F : Nat → Prop} {v : Value} {l : List UInt8} (h : FarB w F v l) : ∃ b c, v = .slice b l.length c := by
  rcases h with ⟨h, _⟩ | ⟨a, rfl, rfl⟩
  · exact Reads.slice h
  · exact ⟨_, _, rfl⟩
theorem FarI.slice {w : World} {F : Nat → Prop} {v : Value} {l : List Int} (h : FarI w F v l) : ∃ b c, v = .slice b l.length c := by
  rcases h with ⟨h, _⟩ | ⟨a, rfl, rfl⟩
  · exact Reads.slice h
  · exact ⟨_, _, rfl⟩
/-- What came in is old: apart from all that the call makes. -/
theorem Ops.old {w : World} {v : Value} {l : List OpT} (h : Reads 141 w v l.length (ocs l)) (hi : ∀ o ∈ l, (((Bytes w o.dv o.dl ∧ ∀ g, o.dv.ownBlock = some g → g < w.heap.size) ∨ ∃ a, o.dv = .slice (some a) 0 0 ∧ o.dl = []) ∧ ((Reads 1 w o.lv o.ll.length (ic o.ll) ∧ ∀ g, o.lv.ownBlock = some g → g < w.heap.size) ∨ ∃ a, o.lv = .slice (some a) 0 0 ∧ o.ll = []))) : Ops w (fun g => w.heap.size ≤ g) v l :=
  ⟨h, fun o ho => ⟨(hi o ho).1.imp (fun q => ⟨q.1, fun g hg c => Nat.not_le_of_lt (q.2 g hg) c⟩) id, (hi o ho).2.imp (fun q => ⟨q.1, fun g hg c => Nat.not_le_of_lt (q.2 g hg) c⟩) id⟩⟩
theorem OpT.ones {o : OpT} (hr : o.r.Ok) (hd : ∃ b n c, o.dv = .slice b n c) (hl : ∃ b n c, o.lv = .slice b n c) : ∀ v ∈ o.cells.toArray, v.oneCell' = true := by
  obtain ⟨b1, n1, c1, e1⟩ := hd
  obtain ⟨b2, n2, c2, e2⟩ := hl
  intro v hv
  have hv : v ∈ o.cells := by simpa using hv
  unfold OpT.cells at hv
  simp only [List.mem_append, List.mem_cons, List.not_mem_nil, or_false] at hv
  rcases hv with (rfl | rfl | rfl) | hv | rfl | rfl
  · rfl
  · rfl
  · rfl
  · exact Rec.ones o.r v (by simpa using hv)
  · rw [e1]; rfl
  · rw [e2]; rfl
end Go.Rill
end
section
namespace Go.Rill
set_option linter.unusedVariables false
set_option linter.unusedSimpArgs false
open Go.RowKit Go.ChangeShapes Go.WideShapes
section
variable {H : Type} {enc : TypeId × Value → H} {P : Program} {W : World} {base b0 : Nat} {spare : Nat → Bool} {held : Bool} {r : Reach} {t e : TypeId} {v : Value}
/-- What is known of an operation that comes in. -/
def OpT.In (W : World) (o : OpT) : Prop := o.r.Ok ∧ ((Bytes W o.dv o.dl ∧ ∀ g, o.dv.ownBlock = some g → g < W.heap.size) ∨ ∃ a, o.dv = .slice (some a) 0 0 ∧ o.dl = []) ∧ ((Reads 1 W o.lv o.ll.length (ic o.ll) ∧ ∀ g, o.lv.ownBlock = some g → g < W.heap.size) ∨ ∃ a, o.lv = .slice (some a) 0 0 ∧ o.ll = [])
end
end Go.Rill
end
section
namespace Go.Rill
set_option linter.unusedVariables false
set_option linter.unusedSimpArgs false
open Go.RowKit Go.ChangeShapes Go.WideShapes
/-- An operation of the laws over a volume's format: what it is, a geometry, numbers, bytes. -/
structure OpF where
  k : Int
  n : Int
  a : Int
  b : Int
  c : Int
  lv : Value
  dv : Value
  ll : List Int
  dl : List UInt8
def OpF.cells (o : OpF) : List Value := [.int .i64 o.k, .int .i64 o.n, .int .i64 o.a, .int .i64 o.b, .int .i64 o.c, o.lv, o.dv]
def fcs (l : List OpF) : List Value := (l.map OpF.cells).flatten
@[simp] theorem fcs_nil : fcs [] = [] := rfl
/-- A slice of operations, each with its bytes and numbers apart from these blocks. -/
def OpsF (w : World) (F : Nat → Prop) (v : Value) (l : List OpF) : Prop := Reads 7 w v l.length (fcs l) ∧ ∀ o ∈ l, FarB w F o.dv o.dl ∧ FarI w F o.lv o.ll
theorem OpsF.held {w w' : World} {F : Nat → Prop} {v : Value} {l : List OpF} (h : OpsF w F v l) (H : Held F w w') (hv : ∀ g, v.ownBlock = some g → ¬ F g) : OpsF w' F v l := ⟨Reads.held h.1 H hv, fun o ho => ⟨(h.2 o ho).1.held H, (h.2 o ho).2.held H⟩⟩
theorem OpsF.old {w : World} {v : Value} {l : List OpF} (h : Reads 7 w v l.length (fcs l)) (hi : ∀ o ∈ l, (((Bytes w o.dv o.dl ∧ ∀ g, o.dv.ownBlock = some g → g < w.heap.size) ∨ ∃ a, o.dv = .slice (some a) 0 0 ∧ o.dl = []) ∧ ((Reads 1 w o.lv o.ll.length (ic o.ll) ∧ ∀ g, o.lv.ownBlock = some g → g < w.heap.size) ∨ ∃ a, o.lv = .slice (some a) 0 0 ∧ o.ll = []))) : OpsF w (fun g => w.heap.size ≤ g) v l :=
  ⟨h, fun o ho => ⟨(hi o ho).1.imp (fun q => ⟨q.1, fun g hg c => Nat.not_le_of_lt (q.2 g hg) c⟩) id, (hi o ho).2.imp (fun q => ⟨q.1, fun g hg c => Nat.not_le_of_lt (q.2 g hg) c⟩) id⟩⟩
theorem OpF.ones {o : OpF} (hd : ∃ b n c, o.dv = .slice b n c) (hl : ∃ b n c, o.lv = .slice b n c) : ∀ v ∈ o.cells.toArray, v.oneCell' = true := by
  obtain ⟨b1, n1, c1, e1⟩ := hd
  obtain ⟨b2, n2, c2, e2⟩ := hl
  intro v hv
  have hv : v ∈ o.cells := by simpa using hv
  unfold OpF.cells at hv
  simp only [List.mem_cons, List.not_mem_nil, or_false] at hv
  rcases hv with rfl | rfl | rfl | rfl | rfl | rfl | rfl
  · rfl
  · rfl
  · rfl
  · rfl
  · rfl
  · rw [e2]; rfl
  · rw [e1]; rfl
section
variable {H : Type} {enc : TypeId × Value → H} {P : Program} {W : World} {base b0 : Nat} {spare : Nat → Bool} {held : Bool} {r : Reach} {t e : TypeId} {v : Value}
/-- What is known of an operation that comes in. -/
def OpF.In (W : World) (o : OpF) : Prop := ((Bytes W o.dv o.dl ∧ ∀ g, o.dv.ownBlock = some g → g < W.heap.size) ∨ ∃ a, o.dv = .slice (some a) 0 0 ∧ o.dl = []) ∧ ((Reads 1 W o.lv o.ll.length (ic o.ll) ∧ ∀ g, o.lv.ownBlock = some g → g < W.heap.size) ∨ ∃ a, o.lv = .slice (some a) 0 0 ∧ o.ll = [])
end
end Go.Rill
end
section
namespace Go.Rill
set_option linter.unusedVariables false
set_option linter.unusedSimpArgs false
open Go.Proofs.YtnebjbgcibjohaaGreatW.PrintLast Go.RowKit
def AllG (B0 : Nat) (Fs : Nat → Nat → Prop) : List Spec → Nat → Prop
  | [], _ => True
  | s :: r, j => LastsR B0 (fun g => ∃ i, i ≠ j ∧ Fs i g) s ∧ AllG B0 Fs r (j + 1)
theorem AllG.get {B0 : Nat} {Fs : Nat → Nat → Prop} : ∀ {Vs : List Spec} {k j : Nat} {s : Spec}, AllG B0 Fs Vs k → Vs[j]? = some s → LastsR B0 (fun g => ∃ i, i ≠ k + j ∧ Fs i g) s
  | [], _, _, _, _, h => by simp at h
  | a :: r, k, 0, s, h, hj => by
    simp only [List.getElem?_cons_zero, Option.some.injEq] at hj
    subst hj
    exact h.1
  | a :: r, k, j + 1, s, h, hj => by
    have := AllG.get (j := j) h.2 (by simpa using hj)
    rwa [show k + 1 + j = k + (j + 1) by omega] at this
section
variable {P : Program} {Q : Exit → Act → World → Prop} {l : List (Nat × Value)} {n N : Nat} {w w0 : World} {ops : Array Oper} {B : List Nat} {Vs : List Spec} {i : Nat} {Fs : Nat → Nat → Prop} {O : Nat → Prop} {I R0 : List Ent} {Φ : World → Prop} {c d e : Nat} {J K : List Ent}
theorem Has.append {A C : List Ent} (a : Has w A) (b : Has w C) (h : ∀ g, feet A g → ¬ feet C g) : Has w (A ++ C) :=
  ⟨fun x hx => (List.mem_append.1 hx).elim (a.ents x) (b.ents x), fun x hx => (List.mem_append.1 hx).elim (a.lt x) (b.lt x), List.pairwise_append.2 ⟨a.apart, b.apart, fun x hx y hy g hg hg' => h g ⟨x, hx, hg⟩ ⟨y, hy, hg'⟩⟩⟩
end
section
variable {P : Program} {l : List (Nat × Value)} {n : Nat} {a : Act} {w : World}
end
end Go.Rill
end
section
namespace Go.Rill
set_option linter.unusedVariables false
set_option linter.unusedSimpArgs false
open Go.Proofs.YtnebjbgcibjohaaGreatW.PrintLast Go.RowKit
def chainI (Q1 Q2 : World → Prop) (w0 w : World) : Bool → Bool → Prop
  | false, false => Ext w0 w
  | true, false => Q1 w
  | true, true => Q2 w
  | false, true => False
def chainRoad (N c1 c2 : Nat) (Q1 Q2 : World → Prop) (w0 : World) : Road where
  Pre i w := (i ≤ c1 → Ext w0 w) ∧ (c1 < i → i ≤ c2 → i < N → Q1 w) ∧ (c2 < i → i < N → Q2 w)
  R i w w' := (i = c1 → Q1 w') ∧ (i = c2 → Q1 w ∧ Q2 w') ∧ (i ≠ c1 → i ≠ c2 → Ext w w')
  I b w := chainI Q1 Q2 w0 w (b c1) (b c2)
/-- What is known of a thing as long as this does not hold. -/
def lateSpec (S : World → Prop) (P : World → Value → Prop) : Spec := .rel fun w v => S w ∨ P w v
/-- The calls wait for all ahead of them, all behind waits for them. -/
def chainOk (B : List Nat) (N c1 c2 : Nat) : Bool := Nat.blt c1 c2 && Nat.blt c2 N && (List.range c1).all (fun i => waits B c1 i) && (List.range c2).all (fun i => waits B c2 i) && (List.range N).all fun i => (!Nat.blt c1 i || waits B i c1) && (!Nat.blt c2 i || waits B i c2)
def AllL (Q1 Q2 : World → Prop) (B : List Nat) (c1 : Nat) : List Spec → Nat → Prop
  | [], _ => True
  | s :: r, j => (match s with
    | .exact _ => True
    | .rel p => (∀ w w' v, Ext w w' → p w v → p w' v) ∧ (∀ w v, Q2 w → p w v) ∧ (waits B j c1 = false → ∀ w v, Q1 w → p w v)) ∧ AllL Q1 Q2 B c1 r (j + 1)
theorem AllL.get {Q1 Q2 : World → Prop} {B : List Nat} {c1 : Nat} : ∀ {Vs : List Spec} {k j : Nat} {p : World → Value → Prop}, AllL Q1 Q2 B c1 Vs k → Vs[j]? = some (.rel p) → (∀ w w' v, Ext w w' → p w v → p w' v) ∧ (∀ w v, Q2 w → p w v) ∧ (waits B (k + j) c1 = false → ∀ w v, Q1 w → p w v)
  | [], _, _, _, _, h => by simp at h
  | a :: r, k, 0, s, h, hj => by
    simp only [List.getElem?_cons_zero, Option.some.injEq] at hj
    subst hj
    exact h.1
  | a :: r, k, j + 1, s, h, hj => by
    have := AllL.get (j := j) h.2 (by simpa using hj)
    rwa [show k + 1 + j = k + (j + 1) by omega] at this
section
variable {P : Program} {Q : Exit → Act → World → Prop} {l : List (Nat × Value)} {n N : Nat} {w w0 wb : World} {ops : Array Oper} {B : List Nat} {Vs : List Spec} {i : Nat} {O : Nat → Prop} {I R0 : List Ent} {Φ : World → Prop} {c1 c2 : Nat} {Q1 Q2 : World → Prop}
theorem chain_ok (hB : chainOk B N c1 c2 = true) (h1 : ∀ w, Ext w0 w → ¬ Q1 w) (e1 : ∀ w w', Ext w w' → Q1 w → Q1 w') (e2 : ∀ w w', Ext w w' → Q2 w → Q2 w') (hN : Nat.ble Vs.length N = true) (h : AllL Q1 Q2 B c1 Vs 0) : (chainRoad N c1 c2 Q1 Q2 w0).Ok N B Vs w0 := by
  simp only [chainOk, Bool.and_eq_true, List.all_eq_true, List.mem_range, Nat.blt_eq] at hB
  obtain ⟨⟨⟨⟨b1, b2⟩, b3⟩, b4⟩, b5⟩ := hB
  have b6 : ∀ i, i < N → c1 < i → waits B i c1 = true := fun i hi h => by
    have := (b5 i hi).1
    simp only [Bool.or_eq_true, Bool.not_eq_true', Nat.blt_eq, ← Bool.not_eq_true] at this
    exact this.resolve_left fun c => c h
  have b7 : ∀ i, i < N → c2 < i → waits B i c2 = true := fun i hi h => by
    have := (b5 i hi).2
    simp only [Bool.or_eq_true, Bool.not_eq_true', Nat.blt_eq, ← Bool.not_eq_true] at this
    exact this.resolve_left fun c => c h
  refine ⟨Ext.refl _, ?_, ?_, ?_⟩
  · intro b i w hb hs hd hI
    have hI : chainI Q1 Q2 w0 w (b c1) (b c2) := hI
    refine ⟨fun hi => ?_, fun hi hi2 hiN => ?_, fun hi hiN => ?_⟩
    · have z1 : b c1 = false := by
        rcases Nat.lt_or_eq_of_le hi with hi | hi
        · exact hs c1 (by omega) (b3 i hi)
        · rw [← hi]; exact hb
      rw [z1, hs c2 b2 (b4 i (by omega))] at hI
      exact hI
    · have z2 : b c2 = false := by
        rcases Nat.lt_or_eq_of_le hi2 with hi | hi
        · exact hs c2 b2 (b4 i hi)
        · rw [← hi]; exact hb
      rw [z2, hd c1 (b6 i hiN hi)] at hI
      exact hI
    · rw [hd c1 (b6 i hiN (by omega)), hd c2 (b7 i hiN hi)] at hI
      exact hI
  · intro b i w w' hb hI hR
    have hI : chainI Q1 Q2 w0 w (b c1) (b c2) := hI
    obtain ⟨r1, r2, r3⟩ := hR
    show chainI Q1 Q2 w0 w' (up b i c1) (up b i c2)
    by_cases i1 : i = c1
    · subst i1
      rw [hb] at hI
      rw [up_self, show up b i c2 = b c2 by unfold up; rw [if_neg (by omega)]]
      cases hc : b c2 with
      | true => rw [hc] at hI; exact hI.elim
      | false => exact r1 rfl
    · have u1 : up b i c1 = b c1 := by unfold up; rw [if_neg (fun c => i1 c.symm)]
      by_cases i2 : i = c2
      · subst i2
        obtain ⟨q1, q2⟩ := r2 rfl
        rw [hb] at hI
        rw [u1, up_self]
        cases hc : b c1 with
        | true => exact q2
        | false => rw [hc] at hI; exact absurd q1 (h1 w hI)
      · have u2 : up b i c2 = b c2 := by unfold up; rw [if_neg (fun c => i2 c.symm)]
        rw [u1, u2]
        have hx := r3 i1 i2
        revert hI
        cases b c1 <;> cases b c2
        · exact fun h => h.trans hx
        · exact fun h => h
        · exact fun h => e1 _ _ hx h
        · exact fun h => e2 _ _ hx h
  · intro i j p hij hw hs w w' v hp hr hv
    obtain ⟨a1, a2, a3⟩ := h.get hs
    rw [Nat.zero_add] at a3
    obtain ⟨r1, r2, r3⟩ := hr
    by_cases i1 : i = c1
    · exact a3 (by rw [← i1]; exact hw (Nat.lt_of_lt_of_le (List.getElem?_eq_some_iff.1 hs).1 (Nat.le_of_ble_eq_true hN))) _ _ (r1 i1)
    · by_cases i2 : i = c2
      · exact a2 _ _ (r2 i2).2
      · exact a1 _ _ _ (r3 i1 i2) hv
/-- In the midst: all but these things is as it was. -/
theorem chain_mid (M : Mem wb O (I ++ R0) Φ w) (k1 : ∀ v, Q1 v → Ch (feet I) w.drew v) (k2 : ∀ v, Q2 v → Ch (feet I) w.drew v) {w' : World} (hi : i < N) (hp : (chainRoad N c1 c2 Q1 Q2 w.drew).Pre i w') : Mem wb O R0 Φ w' := by
  have hc : Ch (feet I) w.drew w' := by
    obtain ⟨p1, p2, p3⟩ := hp
    by_cases h1 : i ≤ c1
    · exact Ch.of_ext (p1 h1)
    · by_cases h2 : i ≤ c2
      · exact k1 _ (p2 (by omega) h2 hi)
      · exact k2 _ (p3 (by omega) hi)
  exact M.call (outs := []) ((Ch.of_ext (Ext.drew w)).trans hc) (Has.nil _) fun g hg => (feet_nil hg).elim
theorem fc_val {o : Oper} {s : Spec} (ho : ops[i]? = some o) (hs : Vs[i]? = some s) (n1 : Nat.beq i c1 = false) (n2 : Nat.beq i c2 = false) (hN : ops.size = N) (M : Mem wb O (I ++ R0) Φ w) (k1 : ∀ v, Q1 v → Ch (feet I) w.drew v) (k2 : ∀ v, Q2 v → Ch (feet I) w.drew v)
    (h : ∀ (x : Nat → Value) (w' : World), Mem wb O R0 Φ w' → (chainRoad N c1 c2 Q1 Q2 w.drew).Pre i w' → (∀ j, waits B i j = true → knows Vs x w' j) → ∃ v, covers (envOf ops B l Vs x i) o = true ∧ guardIn ops (envOf ops B l Vs x i) o = true ∧ wantedL ops (envOf ops B l Vs x i) o = true ∧
      (execOp (evL (envOf ops B l Vs x i)) o).run P w' = .ok (.value v) w' ∧ s.ok w' v) : FStepR P ops B l n Vs (chainRoad N c1 c2 Q1 Q2 w.drew) Q i := by
  intro x a w' hx hk E
  obtain ⟨v, h1, h2, h3, h4, h6⟩ := h x w' (chain_mid M k1 k2 (hN ▸ (Array.getElem?_eq_some_iff.1 ho).1) hx) hx hk
  refine ⟨o, s, ho, hs, fun K hK => ?_⟩
  rw [E.wanted h2, if_pos h3]
  unfold Oper.wp
  rw [E.exec h1, h4]
  exact hK v w' ⟨fun e => absurd e (Nat.ne_of_beq_eq_false n1), fun e => absurd e (Nat.ne_of_beq_eq_false n2), fun _ _ => Ext.refl _⟩ h6
theorem fc_ext {o : Oper} {s : Spec} (ho : ops[i]? = some o) (hs : Vs[i]? = some s) (n1 : Nat.beq i c1 = false) (n2 : Nat.beq i c2 = false) (hN : ops.size = N) (M : Mem wb O (I ++ R0) Φ w) (k1 : ∀ v, Q1 v → Ch (feet I) w.drew v) (k2 : ∀ v, Q2 v → Ch (feet I) w.drew v)
    (h : ∀ (x : Nat → Value) (w' : World), Mem wb O R0 Φ w' → (chainRoad N c1 c2 Q1 Q2 w.drew).Pre i w' → (∀ j, waits B i j = true → knows Vs x w' j) → ∃ f args, covers (envOf ops B l Vs x i) o = true ∧ guardIn ops (envOf ops B l Vs x i) o = true ∧ wantedL ops (envOf ops B l Vs x i) o = true ∧
      (execOp (evL (envOf ops B l Vs x i)) o).run P w' = .ok (.enter f args) w' ∧ ExtCall P f args w' s) : FStepR P ops B l n Vs (chainRoad N c1 c2 Q1 Q2 w.drew) Q i := by
  intro x a w' hx hk E
  obtain ⟨f, args, h1, h2, h3, h4, h5⟩ := h x w' (chain_mid M k1 k2 (hN ▸ (Array.getElem?_eq_some_iff.1 ho).1) hx) hx hk
  refine ⟨o, s, ho, hs, fun K hK => ?_⟩
  rw [E.wanted h2, if_pos h3]
  unfold Oper.wp
  rw [E.exec h1, h4, Oper.upon_enter]
  refine h5.mono ?_
  rintro e w'' ⟨v, rfl, hx2, hv⟩
  exact hK v w'' ⟨fun e => absurd e (Nat.ne_of_beq_eq_false n1), fun e => absurd e (Nat.ne_of_beq_eq_false n2), fun _ _ => hx2⟩ hv
theorem fc_call {o : Oper} {s : Spec} (ho : ops[i]? = some o) (hs : Vs[i]? = some s) (hN : ops.size = N) (M : Mem wb O (I ++ R0) Φ w) (k1 : ∀ v, Q1 v → Ch (feet I) w.drew v) (k2 : ∀ v, Q2 v → Ch (feet I) w.drew v)
    (h : ∀ (x : Nat → Value) (w' : World), Mem wb O R0 Φ w' → (chainRoad N c1 c2 Q1 Q2 w.drew).Pre i w' → (∀ j, waits B i j = true → knows Vs x w' j) → ∃ f args, covers (envOf ops B l Vs x i) o = true ∧ guardIn ops (envOf ops B l Vs x i) o = true ∧ wantedL ops (envOf ops B l Vs x i) o = true ∧
      (execOp (evL (envOf ops B l Vs x i)) o).run P w' = .ok (.enter f args) w' ∧ Calls P f args w' fun e w'' => ∃ v, e = .returned v ∧ (chainRoad N c1 c2 Q1 Q2 w.drew).R i w' w'' ∧ s.ok w'' v) : FStepR P ops B l n Vs (chainRoad N c1 c2 Q1 Q2 w.drew) Q i := by
  intro x a w' hx hk E
  obtain ⟨f, args, h1, h2, h3, h4, h5⟩ := h x w' (chain_mid M k1 k2 (hN ▸ (Array.getElem?_eq_some_iff.1 ho).1) hx) hx hk
  refine ⟨o, s, ho, hs, fun K hK => ?_⟩
  rw [E.wanted h2, if_pos h3]
  unfold Oper.wp
  rw [E.exec h1, h4, Oper.upon_enter]
  refine h5.mono ?_
  rintro e w'' ⟨v, rfl, hx2, hv⟩
  exact hK v w'' hx2 hv
end
end Go.Rill
end
