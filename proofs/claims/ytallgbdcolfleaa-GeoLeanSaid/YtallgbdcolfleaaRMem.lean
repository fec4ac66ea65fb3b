/- What an operation does, one law each, over whatever program: loads, stores, new memory, calls; and what is known of the memory, as a list of blocks. -/
import Derived.Test.YtallgbdcolfleaaRFree
import Derived.WalkKit
import Derived.RowKit3
import Derived.Deep.MidRow
import Derived.Laws.CopyRow
import Derived.Laws.Tables
namespace Go.Rill
set_option linter.unusedVariables false
set_option linter.unusedSimpArgs false
open Go.RowKit

/-! ### What a type's row in the table says -/
def tyOne (P : Program) (t : TypeId) : Bool :=
  match P.underlying t with
  | some (.struct _) | some (.array ..) | none => false
  | _ => true
def tyAgg (P : Program) (t : TypeId) (k : Nat) : Bool :=
  (match P.underlying t with
  | some (.struct _) | some (.array ..) => true
  | _ => false) && (match P.info? t with | some i => i.size == k | none => false)
def tySize (P : Program) (t : TypeId) (k : Nat) : Bool := match P.info? t with | some i => i.size == k | none => false
def tyFld (P : Program) (s : TypeId) (f : Nat) (k : Nat) : Bool :=
  match P.underlying s with
  | some (.struct fs) => match fs[f]? with
    | some fd => fd.offset == k && (match P.info? fd.type with | some i => i.size != 0 | none => false)
    | none => false
  | _ => false
def tySlice (P : Program) (t e : TypeId) : Bool := match P.underlying t with | some (.slice e') => e' == e | _ => false
def tyBytes (P : Program) (t : TypeId) (k : Nat) : Bool := match P.info? t with | some i => i.bytes == k | none => false
def goFn (P : Program) (f : FuncId) : Bool :=
  match P.funcs[f]? with
  | some fn => fn.body.isSome && !(fn.name == "runtime.NumGoroutine")
  | none => false
def zeroOf (P : Program) (t : TypeId) : Option Value := (P.info? t).bind (·.zero)

section
variable {P : Program} {ρ : Operand → Value} {o : Oper} {w : World} {t s T e : TypeId} {A X Y : Operand} {a : Addr} {v u : Value} {g off k : Nat} {cs : Array Value} {fr : Nat × Nat}

theorem add_plain (g off k : Nat) : (⟨g, off, none⟩ : Addr).add k = ⟨g, off + k, none⟩ := by
  unfold Addr.add; split <;> simp_all
theorem cell_of (hg : w.heap[g]? = some (.cells cs T fr)) (hv : cs[off]? = some v) : w.cell? ⟨g, off, none⟩ = some v := by
  simp [World.cell?, hg, hv]
theorem isAgg_one (ht : tyOne P t = true) : (isAgg t).run P w = .ok false w := by
  unfold tyOne at ht
  cases h : P.underlying t with
  | none => rw [h] at ht; cases ht
  | some d => rw [h] at ht; cases d <;> simp_all [isAgg, run_underlying h]
theorem tySize_info (h : tySize P t k = true) : ∃ i, P.info? t = some i ∧ i.size = k := by
  unfold tySize at h
  cases hi : P.info? t with
  | none => rw [hi] at h; cases h
  | some i => rw [hi] at h; exact ⟨i, rfl, by simpa using h⟩
theorem tyAgg_size (h : tyAgg P t k = true) : tySize P t k = true := by
  unfold tyAgg at h; rw [Bool.and_eq_true] at h; exact h.2
theorem tyAgg_und (h : tyAgg P t k = true) : ∃ d, P.underlying t = some d ∧ d.isRow = true := by
  unfold tyAgg at h; rw [Bool.and_eq_true] at h
  cases hu : P.underlying t with
  | none => rw [hu] at h; cases h.1
  | some d => rw [hu] at h; refine ⟨d, rfl, ?_⟩; cases d <;> simp_all [TypeDesc.isRow]
theorem run_size (h : tySize P t k = true) : (sizeOf t).run P w = .ok k w := by
  obtain ⟨i, hi, hs⟩ := tySize_info h
  simp [sizeOf, typeInfo, hi, hs]

theorem run_load1 (ho : o.op = .load t A) (hA : ρ A = .pointer (some a)) (ht : tyOne P t = true) (hc : w.cell? a = some v) : (execOp ρ o).run P w = .ok (.value v) w := by
  have h1 : (isAgg t).run P w = .ok false w := isAgg_one ht
  simp [execOp, ho, hA, Instr.loadAt, Instr.sureAddr, loadVar, h1, hc, go_sem]
theorem run_loadB (ho : o.op = .load t A) (hA : ρ A = .pointer (some ⟨g, off, none⟩)) (ht : tyOne P t = true) (hg : w.heap[g]? = some (.cells cs T fr)) (hv : cs[off]? = some v) : (execOp ρ o).run P w = .ok (.value v) w :=
  run_load1 ho hA ht (cell_of hg hv)
/-- A struct, or an array, of k cells. -/
theorem run_loadN (ho : o.op = .load t A) (hA : ρ A = .pointer (some ⟨g, off, none⟩)) (ht : tyAgg P t k = true) (hg : w.heap[g]? = some (.cells cs T fr)) (hk : off + k ≤ cs.size) :
    (execOp ρ o).run P w = .ok (.value (.agg (cs.extract off (off + k)))) w := by
  obtain ⟨d, hu, hd⟩ := tyAgg_und ht
  obtain ⟨i, hi, hs⟩ := tySize_info (tyAgg_size ht)
  have hl : ((cs.extract off (off + k)).toList).length = k := by simp; omega
  have := run_loadAt_mid (P := P) w g off t (cs.extract off (off + k)).toList d (fun j v hv => cell_of hg (by
    simp [List.getElem?_take, List.getElem?_drop] at hv
    exact hv.2)) hu hd (by rw [hi, hl]; simp [hs])
  rw [Array.toArray_toList] at this
  simp only [execOp, ho, hA, Sem.run_bind, this, Result.andThen_ok]
  rfl
theorem run_loadN' {vs : Array Value} (ho : o.op = .load t A) (hA : ρ A = .pointer (some ⟨g, off, none⟩)) (ht : tyAgg P t k = true) (hg : w.heap[g]? = some (.cells cs T fr)) (hk : Nat.ble (off + k) cs.size = true) (he : ((cs.toList.drop off).take k).toArray = vs) :
    (execOp ρ o).run P w = .ok (.value (.agg vs)) w := by
  subst he
  rw [run_loadN ho hA ht hg (by simpa using hk)]
  congr 3
  apply Array.toList_inj.1
  simp
theorem run_loadAll (ho : o.op = .load t A) (hA : ρ A = .pointer (some ⟨g, 0, none⟩)) (ht : tyAgg P t k = true) (hg : w.heap[g]? = some (.cells cs T fr)) (hk : cs.size = k) :
    (execOp ρ o).run P w = .ok (.value (.agg cs)) w := by
  rw [run_loadN ho hA ht hg (by omega)]
  congr 3
  subst hk
  simp
/-- No wrap. -/
theorem i64_id {x : Int} (h0 : -9223372036854775808 ≤ x) (h1 : x ≤ 9223372036854775807) : IntKind.i64.wrap x = x := by
  have e1 : (2 ^ IntKind.i64.bits : Int) = 18446744073709551616 := rfl
  have e2 : (2 ^ (IntKind.i64.bits - 1) : Int) = 9223372036854775808 := rfl
  have e3 : IntKind.i64.signed = true := rfl
  simp only [IntKind.wrap, e1, e2, e3, Bool.true_and, decide_eq_true_eq]
  split <;> omega
/-- A test that is decided. -/
theorem tst {b b' : Bool} (h : (execOp ρ o).run P w = .ok (.value (.bool b')) w) (hb : b' = b) : (execOp ρ o).run P w = .ok (.value (.bool b)) w := by rw [h, hb]
theorem num {b b' : Int} {kd : IntKind} (h : (execOp ρ o).run P w = .ok (.value (.int kd b')) w) (hb : b' = b) : (execOp ρ o).run P w = .ok (.value (.int kd b)) w := by rw [h, hb]
theorem run_store1 (ho : o.op = .store t A X) (hA : ρ A = .pointer (some ⟨g, off, none⟩)) (hX : ρ X = v) (ht : tySize P t 1 = true) (hg : w.heap[g]? = some (.cells cs T (0, 0))) (hk : off < cs.size) (h1 : v.oneCell' = true) :
    (execOp ρ o).run P w = .ok .skip (w.setRow g (cs.setIfInBounds off v)) := by
  obtain ⟨i, hi, hs⟩ := tySize_info ht
  have h2 := run_storeCells_at P g off T [v] 0 cs w hg (by simp; omega) (by simpa using h1)
  have h3 : (cs.toList.take (off + 0) ++ [v] ++ cs.toList.drop (off + 0 + [v].length)).toArray = cs.setIfInBounds off v := by
    apply Array.toList_inj.1
    simp only [Array.toList_setIfInBounds, Nat.add_zero, List.length_singleton]
    rw [List.set_eq_take_append_cons_drop, if_pos (by simpa using hk)]
    simp
  rw [h3] at h2
  have hv : v.cells = #[v] := by cases v <;> first | rfl | simp [Value.oneCell'] at h1
  simp [execOp, ho, hA, hX, Instr.storeAt, Instr.sureAddr, storeVar, hv, run_size (w := w) ht, h2]
/-- A struct, or an array, of k cells is stored. -/
theorem run_storeN {vs : Array Value} (ho : o.op = .store t A X) (hA : ρ A = .pointer (some ⟨g, off, none⟩)) (hX : ρ X = .agg vs) (ht : tySize P t vs.size = true) (hg : w.heap[g]? = some (.cells cs T (0, 0))) (hk : off + vs.size ≤ cs.size) (h1 : ∀ v ∈ vs.toList, v.oneCell' = true) :
    (execOp ρ o).run P w = .ok .skip (w.setRow g (cs.toList.take off ++ vs.toList ++ cs.toList.drop (off + vs.size)).toArray) := by
  have h2 := run_storeCells_at P g off T vs.toList 0 cs w hg (by simp; omega) h1
  simp only [Nat.add_zero, Array.length_toList] at h2
  simp [execOp, ho, hA, hX, Instr.storeAt, Instr.sureAddr, storeVar, Value.cells, run_size (w := w) ht, h2]
theorem run_store1' {cs' : Array Value} (ho : o.op = .store t A X) (hA : ρ A = .pointer (some ⟨g, off, none⟩)) (hX : ρ X = v) (ht : tySize P t 1 = true) (hg : w.heap[g]? = some (.cells cs T (0, 0))) (hk : Nat.blt off cs.size = true) (h1 : v.oneCell' = true) (he : (cs.toList.set off v).toArray = cs') :
    (execOp ρ o).run P w = .ok .skip (w.setRow g cs') := by
  subst he
  rw [run_store1 ho hA hX ht hg (by simpa using hk) h1]
  congr 2
  apply Array.toList_inj.1
  simp
theorem run_storeN' {vs cs' : Array Value} {m : Nat} (ho : o.op = .store t A X) (hA : ρ A = .pointer (some ⟨g, off, none⟩)) (hX : ρ X = .agg vs) (ht : tySize P t m = true) (hm : vs.size = m) (hg : w.heap[g]? = some (.cells cs T (0, 0))) (hk : Nat.ble (off + m) cs.size = true) (h1 : vs.toList.all (·.oneCell') = true)
    (he : (cs.toList.take off ++ vs.toList ++ cs.toList.drop (off + m)).toArray = cs') :
    (execOp ρ o).run P w = .ok .skip (w.setRow g cs') := by
  subst he
  subst hm
  exact run_storeN ho hA hX ht hg (by simpa using hk) (fun v hv => List.all_eq_true.1 h1 v hv)
theorem run_box (ho : o.op = .box t X) (hX : ρ X = v) : (execOp ρ o).run P w = .ok (.value (.pointer (some ⟨w.heap.size, 0, none⟩))) (w.alloc (.cells v.cells t)) := by
  simp only [execOp, ho, hX]
  rfl
theorem run_boxN (ho : o.op = .box t X) (hX : ρ X = .agg cs) : (execOp ρ o).run P w = .ok (.value (.pointer (some ⟨w.heap.size, 0, none⟩))) (w.alloc (.cells cs t)) := run_box ho hX
theorem run_box1 (ho : o.op = .box t X) (hX : ρ X = v) (h1 : v.oneCell' = true) : (execOp ρ o).run P w = .ok (.value (.pointer (some ⟨w.heap.size, 0, none⟩))) (w.alloc (.cells #[v] t)) := by
  have hv : v.cells = #[v] := by cases v <;> first | rfl | simp [Value.oneCell'] at h1
  have := run_box (P := P) (w := w) ho hX
  rwa [hv] at this
theorem run_alloc (ho : o.op = .alloc t) (hz : zeroOf P t = some v) : (execOp ρ o).run P w = .ok (.value (.pointer (some ⟨w.heap.size, 0, none⟩))) (w.alloc (.cells v.cells t)) := by
  unfold zeroOf at hz
  cases hi : P.info? t with
  | none => rw [hi] at hz; cases hz
  | some i =>
    rw [hi] at hz
    simp only [Option.bind_some] at hz
    have h1 : (zeroValue t).run P w = .ok v w := by simp [zeroValue, typeInfo, hi, hz]
    simp only [execOp, ho, Instr.alloc, Sem.run_bind, h1, Result.andThen_ok]
    rfl
theorem run_allocN (ho : o.op = .alloc t) (hz : zeroOf P t = some (.agg cs)) : (execOp ρ o).run P w = .ok (.value (.pointer (some ⟨w.heap.size, 0, none⟩))) (w.alloc (.cells cs t)) := run_alloc ho hz
theorem run_alloc1 (ho : o.op = .alloc t) (hz : zeroOf P t = some v) (h1 : v.oneCell' = true) : (execOp ρ o).run P w = .ok (.value (.pointer (some ⟨w.heap.size, 0, none⟩))) (w.alloc (.cells #[v] t)) := by
  have hv : v.cells = #[v] := by cases v <;> first | rfl | simp [Value.oneCell'] at h1
  have := run_alloc (P := P) (w := w) (ρ := ρ) ho hz
  rwa [hv] at this
theorem run_fieldAddr {f : Nat} (ho : o.op = .fieldAddr s A f) (hA : ρ A = .pointer (some ⟨g, off, none⟩)) (hf : tyFld P s f k = true) :
    (execOp ρ o).run P w = .ok (.value (.pointer (some ⟨g, off + k, none⟩))) w := by
  unfold tyFld at hf
  cases hu : P.underlying s with
  | none => rw [hu] at hf; cases hf
  | some d =>
    rw [hu] at hf
    cases d with
    | struct fs =>
      simp only at hf
      cases hfd : fs[f]? with
      | none => rw [hfd] at hf; cases hf
      | some fd =>
        rw [hfd] at hf
        simp only [Bool.and_eq_true, beq_iff_eq] at hf
        obtain ⟨h1, h2⟩ := hf
        cases hi : P.info? fd.type with
        | none => rw [hi] at h2; cases h2
        | some i =>
          rw [hi] at h2
          have h3 : i.size ≠ 0 := by simpa using h2
          subst h1
          simp [execOp, ho, hA, Instr.fieldAt, Instr.sureAddr, run_underlying hu, hfd, fieldPlace, sizeOf, typeInfo, hi, h3, add_plain]
    | _ => cases hf
theorem run_len {n c : Nat} {b : Option Addr} {ts : List TypeId} {args : List Operand} (ho : o.op = .call { callee := .builtin .len, args := args.toArray, argTypes := ts.toArray }) (ha : args = [X]) (hts : ts = [t]) (hX : ρ X = .slice b n c) (ht : tySlice P t e = true) :
    (execOp ρ o).run P w = .ok (.value (.int .i64 n)) w := by
  subst ha hts
  unfold tySlice at ht
  cases hu : P.underlying t with
  | none => rw [hu] at ht; cases ht
  | some d =>
    rw [hu] at ht
    cases d with
    | slice e' => simp [execOp, ho, resolve, invoke, builtin, Builtin.len_, hX, run_underlying hu, goInt]
    | _ => cases ht
theorem run_index {n c i : Nat} {kd : IntKind} {x : Int} {sz : Nat} (ho : o.op = .indexAddr t X Y) (hX : ρ X = .slice (some ⟨g, off, none⟩) n c) (hY : ρ Y = .int kd x) (hx : x = i) (hi : i < n) (ht : tySlice P t e = true) (hs : tySize P e sz = true) :
    (execOp ρ o).run P w = .ok (.value (.pointer (some ⟨g, off + i * sz, none⟩))) w := by
  subst hx
  unfold tySlice at ht
  cases hu : P.underlying t with
  | none => rw [hu] at ht; cases ht
  | some d =>
    rw [hu] at ht
    cases d with
    | slice e' =>
      have he : e' = e := by simpa using ht
      subst he
      have h1 : (0 : Int) ≤ (i : Int) ∧ (i : Int) < (n : Int) := by omega
      simp [execOp, ho, hX, hY, Instr.indexAt, asIntOf, run_underlying hu, hi, run_size (w := w) hs, add_plain]
    | _ => cases ht
theorem run_index1 {n c i : Nat} {kd : IntKind} {x : Int} (ho : o.op = .indexAddr t X Y) (hX : ρ X = .slice (some ⟨g, off, none⟩) n c) (hY : ρ Y = .int kd x) (hx : x = i) (hi : i < n) (ht : tySlice P t e = true) (hs : tySize P e 1 = true) :
    (execOp ρ o).run P w = .ok (.value (.pointer (some ⟨g, off + i, none⟩))) w := by
  have := run_index (P := P) (w := w) ho hX hY hx hi ht hs
  rwa [Nat.mul_one] at this
theorem run_call {f : FuncId} {args : List Operand} {ts : Array TypeId} (ho : o.op = .call { callee := .value (.func f), args := args.toArray, argTypes := ts }) (hρ : ρ (.func f) = .func (.func f) #[] #[]) (hf : goFn P f = true) :
    (execOp ρ o).run P w = .ok (.enter f (args.map ρ).toArray) w := by
  unfold goFn at hf
  cases h : P.funcs[f]? with
  | none => rw [h] at hf; cases hf
  | some fn =>
    rw [h] at hf
    simp only [Bool.and_eq_true, Bool.not_eq_true'] at hf
    obtain ⟨h1, h2⟩ := hf
    have h3 : ¬ fn.body = none := by cases hb : fn.body <;> simp_all
    have h4 : ¬ fn.name = "runtime.NumGoroutine" := by simpa using h2
    simp [execOp, ho, resolve, hρ, Deferred.ofValue, invoke, callFunc, h, h4, h3, program, Sem.run]
end

/-! ### Memory: the blocks that a call owns, and what is known of the rest -/
/-- All blocks but these are as they were. -/
structure Held (L : List (Nat × Obj)) (w w' : World) : Prop where
  size : w.heap.size ≤ w'.heap.size
  block : ∀ g, g < w.heap.size → (∀ p ∈ L, p.1 ≠ g) → w'.heap[g]? = w.heap[g]?
structure Mem (w0 : World) (k : Nat) (L : List (Nat × Obj)) (Φ : World → Prop) (w : World) : Prop where
  os : w.os = w0.os
  tape : w.tape = w0.tape
  output : w.output = w0.output
  held : Held L w0 w
  rows : ∀ p ∈ L, w.heap[p.1]? = some p.2
  nd : (L.map (·.1)).Nodup
  fresh : ∀ i p, L[i]? = some p → i + k < L.length → w0.heap.size ≤ p.1
  safe : ∀ w', Held L w w' → Φ w'

section
variable {w0 w w' : World} {k : Nat} {L : List (Nat × Obj)} {Φ Ψ : World → Prop}
theorem Held.refl (L : List (Nat × Obj)) (w : World) : Held L w w := ⟨Nat.le_refl _, fun _ _ _ => rfl⟩
theorem Held.trans {a b c : World} (h : Held L a b) (k : Held L b c) : Held L a c :=
  ⟨Nat.le_trans h.size k.size, fun g hg hL => (k.block g (Nat.lt_of_lt_of_le hg h.size) hL).trans (h.block g hg hL)⟩
theorem Held.of_ext (h : Ext w w') : Held L w w' := ⟨h.size, fun g hg _ => h.block g hg⟩
theorem Mem.fact (M : Mem w0 k L Φ w) : Φ w := M.safe w (Held.refl _ _)
theorem Mem.row (M : Mem w0 k L Φ w) {i g : Nat} {o : Obj} (h : L[i]? = some (g, o)) : w.heap[g]? = some o := M.rows _ (List.mem_of_getElem? h)
theorem Mem.lt (M : Mem w0 k L Φ w) {p : Nat × Obj} (h : p ∈ L) : p.1 < w.heap.size := by
  have := M.rows p h
  exact (Array.getElem?_eq_some_iff.1 this).1
/-- At a call's begin: nothing is owned. -/
theorem Mem.start (h : ∀ w', Held [] w w' → Φ w') : Mem w 0 [] Φ w := ⟨rfl, rfl, rfl, Held.refl _ _, fun _ h => (by cases h), (by simp), fun _ _ h => (by simp at h), h⟩
theorem Mem.ext (M : Mem w0 k L Φ w) (h : Ext w w') : Mem w0 k L Φ w' :=
  ⟨h.os.trans M.os, h.tape.trans M.tape, h.output.trans M.output, M.held.trans (.of_ext h), fun p hp => (h.block p.1 (M.lt hp)).trans (M.rows p hp), M.nd, M.fresh, fun w2 h2 => M.safe w2 ((Held.of_ext h).trans h2)⟩
theorem Mem.alloc (M : Mem w0 k L Φ w) (o : Obj) : Mem w0 k ((w.heap.size, o) :: L) Φ (w.alloc o) := by
  have hx : Ext w (w.alloc o) := Ext.alloc w o
  refine ⟨M.os, M.tape, M.output, ⟨Nat.le_trans M.held.size hx.size, fun g hg hL => ?_⟩, fun p hp => ?_, ?_, ?_, fun w2 h2 => M.safe w2 ⟨Nat.le_trans hx.size h2.size, fun g hg hL => ?_⟩⟩
  · have h1 := M.held.block g hg (fun p hp => hL p (List.mem_cons_of_mem _ hp))
    exact (hx.block g (Nat.lt_of_lt_of_le hg M.held.size)).trans h1
  · rcases List.mem_cons.1 hp with hp | hp
    · subst hp; show (w.heap.push o)[w.heap.size]? = some o; simp
    · exact (hx.block p.1 (M.lt hp)).trans (M.rows p hp)
  · rw [List.map_cons, List.nodup_cons]
    refine ⟨fun hx1 => ?_, M.nd⟩
    obtain ⟨p, hp, he⟩ := List.mem_map.1 hx1
    have := M.lt hp
    simp at he
    omega
  · intro i p hp hi
    cases i with
    | zero => simp at hp; subst hp; exact M.held.size
    | succ i => simp at hp; exact M.fresh i p hp (by simp at hi; omega)
  · rw [h2.block g (Nat.lt_of_lt_of_le hg hx.size) (fun p hp => ?_), hx.block g hg]
    rcases List.mem_cons.1 hp with hp | hp
    · subst hp; simp; omega
    · exact hL p hp
theorem Mem.set (M : Mem w0 k L Φ w) {i g : Nat} {cs cs' : Array Value} {T : TypeId} {fr : Nat × Nat} (h : L[i]? = some (g, .cells cs T fr)) : Mem w0 k (L.set i (g, .cells cs' T fr)) Φ (w.setRow g cs') := by
  have hg := M.row h
  have hi : i < L.length := (List.getElem?_eq_some_iff.1 h).1
  have hLi : L[i] = (g, .cells cs T fr) := (List.getElem?_eq_some_iff.1 h).2
  have hmap : (L.set i (g, .cells cs' T fr)).map (·.1) = L.map (·.1) := by
    rw [List.map_set]
    apply List.ext_getElem?
    intro j
    by_cases e : i = j
    · subst e; simp [hi, hLi]
    · rw [List.getElem?_set_ne e]
  have hne : ∀ (g' : Nat), (∀ p ∈ L.set i (g, .cells cs' T fr), p.1 ≠ g') ↔ ∀ p ∈ L, p.1 ≠ g' := by
    intro g'
    have : ∀ l : List (Nat × Obj), (∀ p ∈ l, p.1 ≠ g') ↔ ∀ x ∈ l.map (·.1), x ≠ g' := fun l => by simp
    rw [this, hmap, ← this]
  have hset : ∀ g', g' ≠ g → (w.setRow g cs').heap[g']? = w.heap[g']? := fun g' hn => setRow_other w g g' cs' hn
  refine ⟨M.os, M.tape, M.output, ⟨by simpa using M.held.size, fun g' hg' hL => ?_⟩, fun p hp => ?_, by rw [hmap]; exact M.nd, fun j p hp hj => ?_, fun w2 h2 => M.safe w2 ⟨by simpa using h2.size, fun g' hg' hL => ?_⟩⟩
  · rw [hne] at hL
    rw [hset g' (fun e => hL _ (List.mem_of_getElem? h) e.symm)]
    exact M.held.block g' hg' hL
  · rcases List.mem_iff_getElem?.1 hp with ⟨j, hj⟩
    by_cases e : i = j
    · subst e
      rw [List.getElem?_set_self hi] at hj
      simp at hj; subst hj
      exact setRow_heap w g cs cs' T fr hg
    · rw [List.getElem?_set_ne e] at hj
      have hpL := List.mem_of_getElem? hj
      have : p.1 ≠ g := by
        intro c
        obtain ⟨hjl, hje⟩ := List.getElem?_eq_some_iff.1 hj
        have hnd := List.pairwise_iff_getElem.1 M.nd
        rcases Nat.lt_or_gt_of_ne e with lt | lt
        · exact hnd i j (by simpa using hi) (by simpa using hjl) lt (by simp [hLi, hje, c])
        · exact hnd j i (by simpa using hjl) (by simpa using hi) lt (by simp [hLi, hje, c])
      rw [hset p.1 this]
      exact M.rows p hpL
  · by_cases e : i = j
    · subst e
      rw [List.getElem?_set_self hi] at hp
      simp at hp; subst hp
      exact M.fresh i (g, .cells cs T fr) h (by simpa using hj)
    · rw [List.getElem?_set_ne e] at hp
      exact M.fresh j p hp (by simpa using hj)
  · rw [h2.block g' (by simpa using hg') ((hne g').2 hL)]
    exact hset g' (fun e => hL _ (List.mem_of_getElem? h) e.symm)
/-- More that is known. -/
theorem Mem.and (M : Mem w0 k L Φ w) (h : ∀ w', Held L w w' → Ψ w') : Mem w0 k L (fun w => Φ w ∧ Ψ w) w :=
  ⟨M.os, M.tape, M.output, M.held, M.rows, M.nd, M.fresh, fun w' h' => ⟨M.safe w' h', h w' h'⟩⟩
theorem Mem.imp (M : Mem w0 k L Φ w) (h : ∀ w', Φ w' → Ψ w') : Mem w0 k L Ψ w :=
  ⟨M.os, M.tape, M.output, M.held, M.rows, M.nd, M.fresh, fun w' h' => h w' (M.safe w' h')⟩
/-- At the end of a call that owns nothing that was there: what was there is as it was. -/
theorem Mem.below (M : Mem w0 0 L Φ w) : Ext w0 w :=
  ⟨M.os, M.tape, M.output, M.held.size, fun g hg => M.held.block g hg (fun p hp e => by
    obtain ⟨i, hi⟩ := List.mem_iff_getElem?.1 hp
    have := M.fresh i p hi (by simpa using (List.getElem?_eq_some_iff.1 hi).1)
    omega)⟩
end

/-- A call that changes nothing of what was there. -/
def ExtCall (P : Program) (f : FuncId) (args : Array Value) (w : World) (s : Spec) : Prop := Calls P f args w fun e w' => ∃ v, e = .returned v ∧ (Ext w w' ∧ s.ok w' v)
theorem ExtCall.of {P : Program} {f : FuncId} {args : Array Value} {w : World} {v : Value} (h : Calls P f args w fun e w' => e = .returned v ∧ Below w.heap.size w w') : ExtCall P f args w (.exact v) :=
  h.mono fun _ _ ⟨he, hb⟩ => ⟨v, he, hb, rfl⟩

section
variable {P : Program} {ops : Array Oper} {Q : Exit → Act → World → Prop} {l : List (Nat × Value)} {n : Nat} {a : Act} {w w' w0 : World} {rest : List Oper} {o : Oper} {v : Value} {k : Nat} {L : List (Nat × Obj)} {Φ : World → Prop}
/-- New memory: its block gets a name. -/
theorem snew {d : Tmp} {ob : Obj} (f : Nat → Value) (E : Env l n a) (M : Mem w0 k L Φ w) (hd : o.dst = some d) (hn : Nat.blt d n = true) (hc : covers l o = true) (hg : guardIn ops l o = true) (hw : wantedL ops l o = true)
    (h : (execOp (evL l) o).run P w = .ok (.value (f w.heap.size)) (w.alloc ob))
    (kk : ∀ g a' w', Mem w0 k ((g, ob) :: L) Φ w' → Env ((d, f g) :: l) n a' → wpList P ops Q rest a' w') : wpList P ops Q (o :: rest) a w :=
  sv E hd hn hc hg hw h fun a' E' => kk _ a' _ (M.alloc ob) E'
/-- A store into a block of the call's own. -/
theorem sset {i g : Nat} {cs cs' : Array Value} {T : TypeId} {fr : Nat × Nat} {L' : List (Nat × Obj)} (E : Env l n a) (M : Mem w0 k L Φ w) (hL : L[i]? = some (g, .cells cs T fr)) (hd : o.dst = none) (hc : covers l o = true) (hg : guardIn ops l o = true) (hw : wantedL ops l o = true)
    (h : (execOp (evL l) o).run P w = .ok .skip (w.setRow g cs')) (hL' : L.set i (g, .cells cs' T fr) = L')
    (kk : ∀ a' w', Mem w0 k L' Φ w' → Env l n a' → wpList P ops Q rest a' w') : wpList P ops Q (o :: rest) a w := by
  subst hL'
  refine seq_skip E hc hg hw (by rw [hd]; rfl) h fun a' E' => kk a' _ (M.set hL) ?_
  rw [hd] at E'
  exact E'
/-- A call that changes nothing of what was there. -/
theorem sext {d : Tmp} {f : FuncId} {args : Array Value} {s : Spec} (E : Env l n a) (M : Mem w0 k L Φ w) (hd : o.dst = some d) (hn : Nat.blt d n = true) (hc : covers l o = true) (hg : guardIn ops l o = true) (hw : wantedL ops l o = true)
    (h : (execOp (evL l) o).run P w = .ok (.enter f args) w) (C : ExtCall P f args w s)
    (kk : ∀ v a' w', s.ok w' v → Ext w w' → Mem w0 k L Φ w' → Env ((d, v) :: l) n a' → wpList P ops Q rest a' w') : wpList P ops Q (o :: rest) a w :=
  seq_call E hc hg hw (by rw [hd]; exact hn) h C fun a' v w'' ⟨hx, hs⟩ E' => kk v a' w'' hs hx (M.ext hx) (by rw [hd] at E'; exact E')
/-- .. that hands on just this value. -/
theorem sextv {d : Tmp} {f : FuncId} {args : Array Value} {v : Value} (E : Env l n a) (M : Mem w0 k L Φ w) (hd : o.dst = some d) (hn : Nat.blt d n = true) (hc : covers l o = true) (hg : guardIn ops l o = true) (hw : wantedL ops l o = true)
    (h : (execOp (evL l) o).run P w = .ok (.enter f args) w) (C : ExtCall P f args w (.exact v))
    (kk : ∀ a' w', Mem w0 k L Φ w' → Env ((d, v) :: l) n a' → wpList P ops Q rest a' w') : wpList P ops Q (o :: rest) a w :=
  sext E M hd hn hc hg hw h C fun u a' w' hs hx M' E' => by
    cases hs
    exact kk a' w' M' E'
end

/-! ### An operation of a region of open order -/
section
variable {P : Program} {Q : Exit → Act → World → Prop} {l : List (Nat × Value)} {n : Nat} {w0 : World} {ops : Array Oper} {B : List Nat} {Vs : List Spec} {i : Nat}
theorem fs_val {o : Oper} {s : Spec} (ho : ops[i]? = some o) (hs : Vs[i]? = some s)
    (h : ∀ (x : Nat → Value) (w : World), Ext w0 w → (∀ j, waits B i j = true → knows Vs x w j) → ∃ v w', covers (envOf ops B l Vs x i) o = true ∧ guardIn ops (envOf ops B l Vs x i) o = true ∧ wantedL ops (envOf ops B l Vs x i) o = true ∧
      (execOp (evL (envOf ops B l Vs x i)) o).run P w = .ok (.value v) w' ∧ Ext w w' ∧ s.ok w' v) : FStep P ops B l n Vs w0 Q i := by
  intro x a w hx hk E
  obtain ⟨v, w', h1, h2, h3, h4, h5, h6⟩ := h x w hx hk
  refine ⟨o, s, ho, hs, fun K hK => ?_⟩
  rw [E.wanted h2, if_pos h3]
  unfold Oper.wp
  rw [E.exec h1, h4]
  exact hK v w' h5 h6
theorem fs_no {o : Oper} (ho : ops[i]? = some o) (hs : Vs[i]? = some (.exact undef))
    (h : ∀ (x : Nat → Value), guardIn ops (envOf ops B l Vs x i) o = true ∧ wantedL ops (envOf ops B l Vs x i) o = false) : FStep P ops B l n Vs w0 Q i := by
  intro x a w hx hk E
  obtain ⟨h2, h3⟩ := h x
  refine ⟨o, .exact undef, ho, hs, fun K hK => ?_⟩
  rw [E.wanted h2, if_neg (by simp [h3])]
  exact hK undef w (Ext.refl _) rfl
theorem fs_ext {o : Oper} {s : Spec} (ho : ops[i]? = some o) (hs : Vs[i]? = some s)
    (h : ∀ (x : Nat → Value) (w : World), Ext w0 w → (∀ j, waits B i j = true → knows Vs x w j) → ∃ f args, covers (envOf ops B l Vs x i) o = true ∧ guardIn ops (envOf ops B l Vs x i) o = true ∧ wantedL ops (envOf ops B l Vs x i) o = true ∧
      (execOp (evL (envOf ops B l Vs x i)) o).run P w = .ok (.enter f args) w ∧ ExtCall P f args w s) : FStep P ops B l n Vs w0 Q i := by
  intro x a w hx hk E
  obtain ⟨f, args, h1, h2, h3, h4, h5⟩ := h x w hx hk
  refine ⟨o, s, ho, hs, fun K hK => ?_⟩
  rw [E.wanted h2, if_pos h3]
  unfold Oper.wp
  rw [E.exec h1, h4, Oper.upon_enter]
  refine h5.mono ?_
  rintro e w'' ⟨v, rfl, hx2, hv⟩
  exact hK v w'' hx2 hv
/-- The steps, one by one. -/
def AllF (p : Nat → Prop) : List Nat → Prop
  | [] => True
  | i :: r => p i ∧ AllF p r
theorem AllF.mem {p : Nat → Prop} : ∀ {is : List Nat}, AllF p is → ∀ i ∈ is, p i
  | [], _, _, h => by cases h
  | j :: r, h, i, hi => by
    rcases List.mem_cons.1 hi with rfl | hi
    · exact h.1
    · exact AllF.mem h.2 i hi
/-- All that is asked of a region's table, at once. -/
def tabOk (ops : Array Oper) (B : List Nat) (n : Nat) : Bool :=
  Go.Proofs.YtallgbdcolfleaaW.PrintLast.waitsOk (Go.Proofs.YtallgbdcolfleaaW.PrintLast.rtab .any ops).2 B && Go.Proofs.YtallgbdcolfleaaW.PrintLast.baseOk (Go.Proofs.YtallgbdcolfleaaW.PrintLast.rtab .any ops).2 (List.range ops.size) && freeOk ops B && (List.range ops.size).all fun i => fits n (dstOf ops i)
theorem free_reg {a0 : Act} {w : World} {id : Nat} {B : List Nat} {Vs : List Spec} (is : List Nat) (E : Env l n a0) (hm : P.follows .mixedOrders = true) (hT : tabOk ops B n = true) (his : is = List.range ops.size) (hl : Lasts Vs)
    (hs : AllF (FStep P ops B l n Vs w.drew Q) is)
    (hend : ∀ (x : Nat → Value) (a : Act) (w' : World), Ext w w' → (∀ j, j < ops.size → knows Vs x w' j) → Env (endEnv ops l Vs x) n a → Q .normal a w') : (Code.region id ops true).wp P Q a0 w := by
  subst his
  simp only [tabOk, Bool.and_eq_true] at hT
  exact free_region _ B Vs E hm rfl hT.1.1.1 hT.1.1.2 hT.1.2 hT.2 hl (AllF.mem hs) hend
end
end Go.Rill
