/- What is known of a frame's slots, as a list; one law an operation. Of whatever program. -/
import Derived.Below
import Derived.Deep.Draws
import Derived.Orders
import Derived.Tactics
import Derived.KernelRfl
import Derived.Test.YtkmfmbdgipbaaaaRWW
import Derived.WalkKit
import Derived.RowKit3
import Derived.Deep.MidRow
import Derived.Laws.CopyRow
import Derived.Laws.Tables
import Derived.Laws.AppendOwn
import Derived.Deep.AppendSrc
import Derived.Laws.StructEq
import Derived.ChangeKeysEq
import Derived.MapKept
import Derived.Laws.Cover3
import Derived.Laws.Cover1
import Derived.Laws.Small
section
namespace Go.Rill
set_option linter.unusedVariables false
set_option linter.unusedSimpArgs false

/-! ### Slots -/
structure Env (l : List (Nat × Value)) (n : Nat) (a : Act) : Prop where
  get : ∀ t v, l.lookup t = some v → a.tmps.getD t undef = v
  size : a.tmps.size = n
  defers : a.defers = []

def evL (l : List (Nat × Value)) : Operand → Value
  | .tmp t => (l.lookup t).getD undef
  | .const v => v
  | .global g => .pointer (some ⟨g, 0, none⟩)
  | .func f => .func (.func f) #[] #[]
def upd (l : List (Nat × Value)) (d : Option Tmp) (v : Value) : List (Nat × Value) :=
  match d with
  | some d => (d, v) :: l
  | none => l
def fits (n : Nat) (d : Option Tmp) : Bool :=
  match d with
  | some d => Nat.blt d n
  | none => true
def slotIn (l : List (Nat × Value)) (t : Nat) : Bool := (l.lookup t).isSome
def guardIn (ops : Array Oper) (l : List (Nat × Value)) (o : Oper) : Bool :=
  match o.guard with
  | none => true
  | some (j, _) => match (ops[j]?).bind (·.dst) with
    | some d => slotIn l d
    | none => true
/-- An operation's operands, as a list. -/
def opList : Op → List Operand
  | .alloc _ | .ready _ | .waits _ => []
  | .move x | .assign x | .box _ x | .load _ x | .nilCheck x | .unOp _ _ x | .convert _ _ x | .sliceToArrayPointer _ x | .makeInterface _ x
  | .makeChan _ x | .fieldAddr _ x _ | .field _ x _ | .range _ x | .next x _ | .entry x | .typeAssert x _ _ _ | .extract x _ | .panic x | .recv _ x _ => [x]
  | .pick c a b => [c, a, b]
  | .build _ ps | .buildSlice _ _ ps => ps.toList.map (·.2)
  | .store _ a v | .binOp _ _ a v _ | .makeSlice _ a v | .indexAddr _ a v | .index _ a v | .lookup _ a v _ | .mapEntry _ a v | .send a v => [a, v]
  | .makeFunc _ first captured => first.toList ++ captured.toList
  | .makeMap _ r => r.toList
  | .slice _ x l h m => x :: (l.toList ++ h.toList ++ m.toList)
  | .mapUpdate _ m k v | .entryStore _ m k v | .insert _ m k v => [m, k, v]
  | .call c | .go c | .defer c => (match c.callee with | .value f => [f] | .invoke r _ => [r] | .builtin _ => []) ++ c.args.toList
  | .select cs _ => []
def yieldedL (ops : Array Oper) (l : List (Nat × Value)) (j : Nat) : Option Bool :=
  match ((ops[j]?).bind (·.dst)).bind (fun d => l.lookup d) with
  | some (.bool b) => some b
  | _ => none
def wantedL (ops : Array Oper) (l : List (Nat × Value)) (o : Oper) : Bool := Region.wanted o (yieldedL ops l)

theorem Env.put {l : List (Nat × Value)} {n : Nat} {a : Act} (E : Env l n a) {d : Option Tmp} (hd : fits n d = true) (v : Value) : Env (upd l d v) n (a.put d v) := by
  cases d with
  | none => exact E
  | some d =>
    have hd' : d < n := by simpa [fits] using hd
    refine ⟨fun t u h => ?_, by simp [Act.put, E.size], E.defers⟩
    simp only [upd, List.lookup_cons] at h
    by_cases ht : t = d
    · subst ht
      simp at h
      subst h
      simp [Act.put, Array.getD_eq_getD_getElem?, E.size, hd']
    · have hb : (t == d) = false := by simpa using ht
      rw [hb] at h
      have := E.get t u h
      simp only [Act.put, Array.getD_eq_getD_getElem?] at this ⊢
      rw [Array.getElem?_setIfInBounds_ne (fun e => ht e.symm)]
      exact this
theorem Env.eval {l : List (Nat × Value)} {n : Nat} {a : Act} (E : Env l n a) {x : Operand} (h : ∀ t, x = .tmp t → slotIn l t = true) : a.eval x = evL l x := by
  cases x with
  | tmp t =>
    have h1 := h t rfl
    simp only [slotIn, Option.isSome_iff_exists] at h1
    obtain ⟨v, hv⟩ := h1
    simp only [Act.eval, evL, hv, Option.getD_some]
    exact E.get t v hv
  | _ => rfl
theorem Env.yields {l : List (Nat × Value)} {n : Nat} {a : Act} (E : Env l n a) {ops : Array Oper} {j : Nat} (h : ∀ d, (ops[j]?).bind (·.dst) = some d → slotIn l d = true) : yielded ops a.tmps j = yieldedL ops l j := by
  unfold yielded yieldedL
  cases hd : (ops[j]?).bind (·.dst) with
  | none => rfl
  | some d =>
    have h1 := h d hd
    simp only [slotIn, Option.isSome_iff_exists] at h1
    obtain ⟨v, hv⟩ := h1
    have hg := E.get d v hv
    simp only [Option.bind_some, hv]
    rw [Array.getD_eq_getD_getElem?] at hg
    cases hx : a.tmps[d]? with
    | some u => rw [hx] at hg; simp at hg; subst hg; rfl
    | none => rw [hx] at hg; simp at hg; subst hg; rfl
theorem Env.wanted {l : List (Nat × Value)} {n : Nat} {a : Act} (E : Env l n a) {ops : Array Oper} {o : Oper} (h : guardIn ops l o = true) : Region.wanted o (yielded ops a.tmps) = wantedL ops l o := by
  unfold wantedL Region.wanted
  cases hg : o.guard with
  | none => rfl
  | some p =>
    obtain ⟨j, want⟩ := p
    simp only
    rw [E.yields (j := j) (fun d hd => by simpa [guardIn, hg, hd] using h)]

/-- A smaller list. -/
theorem Env.of {n : Nat} {a : Act} (hs : a.tmps.size = n) (hd : a.defers = []) : Env [] n a := ⟨fun t v h => by simp at h, hs, hd⟩
theorem Env.add {l l' : List (Nat × Value)} {n : Nat} {a : Act} (E' : Env l' n a) (E : Env l n a) {t : Nat} {v : Value} (h : l.lookup t = some v) : Env ((t, v) :: l') n a := by
  refine ⟨fun s u hu => ?_, E.size, E.defers⟩
  simp only [List.lookup_cons] at hu
  by_cases e : s = t
  · subst e; simp at hu; subst hu; exact E.get _ _ h
  · have hb : (s == t) = false := by simpa using e
    rw [hb] at hu; exact E'.get _ _ hu
theorem Env.nil {l : List (Nat × Value)} {n : Nat} {a : Act} (E : Env l n a) : Env [] n a := Env.of E.size E.defers

/-! ### A region in the order of the text -/
section
variable {P : Program} {ops : Array Oper} {Q : Exit → Act → World → Prop} {l : List (Nat × Value)} {n : Nat} {a : Act} {w w' : World} {rest : List Oper} {o : Oper} {v : Value}

end

/-! ### Code -/
section
variable {P : Program} {Q : Exit → Act → World → Prop} {l : List (Nat × Value)} {n : Nat} {a : Act} {w : World}
end
end Go.Rill
end
section
namespace Go.Rill
set_option linter.unusedVariables false
set_option linter.unusedSimpArgs false
open Go.Proofs.YtkmfmbdgipbaaaaRW.PrintLast Go.RowKit

/-- What was there is as it was: the world has grown, or orders were drawn. -/
def Ext (w w' : World) : Prop := Below w.heap.size w w'
theorem Ext.refl (w : World) : Ext w w := Below.refl _ _
theorem Ext.trans {a b c : World} (h : Ext a b) (k : Ext b c) : Ext a c := Below.trans h (k.mono h.size)
theorem Ext.drew (w : World) : Ext w w.drew := (Below.refl _ _).drew
theorem Ext.alloc (w : World) (o : Obj) : Ext w (w.alloc o) := (Below.refl _ _).alloc (Nat.le_refl _) o

/-- What an operation hands on: just this value; or one of which this is known. -/
inductive Spec where
  | exact (v : Value)
  | rel (p : World → Value → Prop)
def Spec.ok (s : Spec) (w : World) (v : Value) : Prop :=
  match s with
  | .exact u => v = u
  | .rel p => p w v
def valOf (Vs : List Spec) (x : Nat → Value) (j : Nat) : Value :=
  match Vs[j]? with
  | some (.exact v) => v
  | _ => x j
def knows (Vs : List Spec) (x : Nat → Value) (w : World) (j : Nat) : Prop :=
  match Vs[j]? with
  | some (.rel p) => p w (x j)
  | _ => True
def Lasts (Vs : List Spec) : Prop := ∀ (j : Nat) (p : World → Value → Prop), Vs[j]? = some (.rel p) → ∀ w w' v, Ext w w' → p w v → p w' v

def dstOf (ops : Array Oper) (i : Nat) : Option Nat := (ops[i]?).bind (·.dst)
def writes (ops : Array Oper) (t i : Nat) : Bool := dstOf ops i == some t
/-- The slots that an operation looks at. -/
def slotsOf (ops : Array Oper) (i : Nat) : List Nat :=
  match ops[i]? with
  | none => []
  | some o => ((opList o.op).filterMap fun | .tmp t => some t | _ => none) ++ (match o.guard with | some (g, _) => (dstOf ops g).toList | none => [])
def waits (B : List Nat) (i j : Nat) : Bool := (B.getD i 0).testBit j
/-- The last operation listed that fills a slot. -/
def lastW (ops : Array Oper) (b : Nat → Bool) (t : Nat) : Option Nat := (List.range ops.size).reverse.find? fun j => writes ops t j && b j
section
variable {P : Program} {Q : Exit → Act → World → Prop} {l : List (Nat × Value)} {n : Nat} {a : Act} {w : World} {ops : Array Oper} {B : List Nat} {Vs : List Spec} {id : Nat}

/-- The relation over what is listed. -/
structure Inv (ops : Array Oper) (a0 : Act) (n : Nat) (Vs : List Spec) (w0 : World) (b : Nat → Bool) (a : Act) (w : World) : Prop where
  ext : Ext w0 w
  size : a.tmps.size = n
  defers : a.defers = []
  vals : ∃ x : Nat → Value, (∀ j, b j = true → knows Vs x w j) ∧ ∀ t, t < n → a.tmps.getD t undef = match lastW ops b t with
    | some j => valOf Vs x j
    | none => a0.tmps.getD t undef

theorem put_get {a : Act} {d : Option Tmp} {v : Value} {t : Nat} (ht : t < a.tmps.size) : (a.put d v).tmps.getD t undef = if d = some t then v else a.tmps.getD t undef := by
  cases d with
  | none => simp [Act.put]
  | some d =>
    by_cases e : d = t
    · subst e; simp [Act.put, ht]
    · simp [Act.put, e, Array.getD_eq_getD_getElem?, Array.getElem?_setIfInBounds_ne e]

end
end Go.Rill
end
section
namespace Go.Rill
set_option linter.unusedVariables false
set_option linter.unusedSimpArgs false
open Go.RowKit

/-! ### What a type's row in the table says -/
def tyOne (P : Program) (t : TypeId) : Bool :=
  match P.underlying t with
  | some (.struct _) | some (.array ..) | none => false
  | _ => true
def tyAgg (P : Program) (t : TypeId) (k : Nat) : Bool :=
  (match P.underlying t with
  | some (.struct _) | some (.array ..) => true
  | _ => false) && (match P.info? t with | some i => i.size == k | none => false)
def tySize (P : Program) (t : TypeId) (k : Nat) : Bool := match P.info? t with | some i => i.size == k | none => false
def tyFld (P : Program) (s : TypeId) (f : Nat) (k : Nat) : Bool :=
  match P.underlying s with
  | some (.struct fs) => match fs[f]? with
    | some fd => fd.offset == k && (match P.info? fd.type with | some i => i.size != 0 | none => false)
    | none => false
  | _ => false
def tySlice (P : Program) (t e : TypeId) : Bool := match P.underlying t with | some (.slice e') => e' == e | _ => false
def goFn (P : Program) (f : FuncId) : Bool :=
  match P.funcs[f]? with
  | some fn => fn.body.isSome && !(fn.name == "runtime.NumGoroutine")
  | none => false
def zeroOf (P : Program) (t : TypeId) : Option Value := (P.info? t).bind (·.zero)

section
variable {P : Program} {ρ : Operand → Value} {o : Oper} {w : World} {t s T e : TypeId} {A X Y : Operand} {a : Addr} {v u : Value} {g off k : Nat} {cs : Array Value} {fr : Nat × Nat}

theorem add_plain (g off k : Nat) : (⟨g, off, none⟩ : Addr).add k = ⟨g, off + k, none⟩ := by
  unfold Addr.add; split <;> simp_all
theorem cell_of (hg : w.heap[g]? = some (.cells cs T fr)) (hv : cs[off]? = some v) : w.cell? ⟨g, off, none⟩ = some v := by
  simp [World.cell?, hg, hv]
theorem isAgg_one (ht : tyOne P t = true) : (isAgg t).run P w = .ok false w := by
  unfold tyOne at ht
  cases h : P.underlying t with
  | none => rw [h] at ht; cases ht
  | some d => rw [h] at ht; cases d <;> simp_all [isAgg, run_underlying h]
theorem tySize_info (h : tySize P t k = true) : ∃ i, P.info? t = some i ∧ i.size = k := by
  unfold tySize at h
  cases hi : P.info? t with
  | none => rw [hi] at h; cases h
  | some i => rw [hi] at h; exact ⟨i, rfl, by simpa using h⟩
theorem tyAgg_size (h : tyAgg P t k = true) : tySize P t k = true := by
  unfold tyAgg at h; rw [Bool.and_eq_true] at h; exact h.2
theorem tyAgg_und (h : tyAgg P t k = true) : ∃ d, P.underlying t = some d ∧ d.isRow = true := by
  unfold tyAgg at h; rw [Bool.and_eq_true] at h
  cases hu : P.underlying t with
  | none => rw [hu] at h; cases h.1
  | some d => rw [hu] at h; refine ⟨d, rfl, ?_⟩; cases d <;> simp_all [TypeDesc.isRow]
theorem run_size (h : tySize P t k = true) : (sizeOf t).run P w = .ok k w := by
  obtain ⟨i, hi, hs⟩ := tySize_info h
  simp [sizeOf, typeInfo, hi, hs]

theorem run_load1 (ho : o.op = .load t A) (hA : ρ A = .pointer (some a)) (ht : tyOne P t = true) (hc : w.cell? a = some v) : (execOp ρ o).run P w = .ok (.value v) w := by
  have h1 : (isAgg t).run P w = .ok false w := isAgg_one ht
  simp [execOp, ho, hA, Instr.loadAt, Instr.sureAddr, loadVar, h1, hc, go_sem]
theorem run_loadB (ho : o.op = .load t A) (hA : ρ A = .pointer (some ⟨g, off, none⟩)) (ht : tyOne P t = true) (hg : w.heap[g]? = some (.cells cs T fr)) (hv : cs[off]? = some v) : (execOp ρ o).run P w = .ok (.value v) w :=
  run_load1 ho hA ht (cell_of hg hv)
/-- A struct, or an array, of k cells. -/
theorem run_loadN (ho : o.op = .load t A) (hA : ρ A = .pointer (some ⟨g, off, none⟩)) (ht : tyAgg P t k = true) (hg : w.heap[g]? = some (.cells cs T fr)) (hk : off + k ≤ cs.size) :
    (execOp ρ o).run P w = .ok (.value (.agg (cs.extract off (off + k)))) w := by
  obtain ⟨d, hu, hd⟩ := tyAgg_und ht
  obtain ⟨i, hi, hs⟩ := tySize_info (tyAgg_size ht)
  have hl : ((cs.extract off (off + k)).toList).length = k := by simp; omega
  have := run_loadAt_mid (P := P) w g off t (cs.extract off (off + k)).toList d (fun j v hv => cell_of hg (by
    simp [List.getElem?_take, List.getElem?_drop] at hv
    exact hv.2)) hu hd (by rw [hi, hl]; simp [hs])
  rw [Array.toArray_toList] at this
  simp only [execOp, ho, hA, Sem.run_bind, this, Result.andThen_ok]
  rfl
/-- No wrap. -/
theorem i64_id {x : Int} (h0 : -9223372036854775808 ≤ x) (h1 : x ≤ 9223372036854775807) : IntKind.i64.wrap x = x := by
  have e1 : (2 ^ IntKind.i64.bits : Int) = 18446744073709551616 := rfl
  have e2 : (2 ^ (IntKind.i64.bits - 1) : Int) = 9223372036854775808 := rfl
  have e3 : IntKind.i64.signed = true := rfl
  simp only [IntKind.wrap, e1, e2, e3, Bool.true_and, decide_eq_true_eq]
  split <;> omega
theorem run_store1 (ho : o.op = .store t A X) (hA : ρ A = .pointer (some ⟨g, off, none⟩)) (hX : ρ X = v) (ht : tySize P t 1 = true) (hg : w.heap[g]? = some (.cells cs T (0, 0))) (hk : off < cs.size) (h1 : v.oneCell' = true) :
    (execOp ρ o).run P w = .ok .skip (w.setRow g (cs.setIfInBounds off v)) := by
  obtain ⟨i, hi, hs⟩ := tySize_info ht
  have h2 := run_storeCells_at P g off T [v] 0 cs w hg (by simp; omega) (by simpa using h1)
  have h3 : (cs.toList.take (off + 0) ++ [v] ++ cs.toList.drop (off + 0 + [v].length)).toArray = cs.setIfInBounds off v := by
    apply Array.toList_inj.1
    simp only [Array.toList_setIfInBounds, Nat.add_zero, List.length_singleton]
    rw [List.set_eq_take_append_cons_drop, if_pos (by simpa using hk)]
    simp
  rw [h3] at h2
  have hv : v.cells = #[v] := by cases v <;> first | rfl | simp [Value.oneCell'] at h1
  simp [execOp, ho, hA, hX, Instr.storeAt, Instr.sureAddr, storeVar, hv, run_size (w := w) ht, h2]
/-- A struct, or an array, of k cells is stored. -/
theorem run_storeN {vs : Array Value} (ho : o.op = .store t A X) (hA : ρ A = .pointer (some ⟨g, off, none⟩)) (hX : ρ X = .agg vs) (ht : tySize P t vs.size = true) (hg : w.heap[g]? = some (.cells cs T (0, 0))) (hk : off + vs.size ≤ cs.size) (h1 : ∀ v ∈ vs.toList, v.oneCell' = true) :
    (execOp ρ o).run P w = .ok .skip (w.setRow g (cs.toList.take off ++ vs.toList ++ cs.toList.drop (off + vs.size)).toArray) := by
  have h2 := run_storeCells_at P g off T vs.toList 0 cs w hg (by simp; omega) h1
  simp only [Nat.add_zero, Array.length_toList] at h2
  simp [execOp, ho, hA, hX, Instr.storeAt, Instr.sureAddr, storeVar, Value.cells, run_size (w := w) ht, h2]
theorem run_box (ho : o.op = .box t X) (hX : ρ X = v) : (execOp ρ o).run P w = .ok (.value (.pointer (some ⟨w.heap.size, 0, none⟩))) (w.alloc (.cells v.cells t)) := by
  simp only [execOp, ho, hX]
  rfl
theorem run_boxN (ho : o.op = .box t X) (hX : ρ X = .agg cs) : (execOp ρ o).run P w = .ok (.value (.pointer (some ⟨w.heap.size, 0, none⟩))) (w.alloc (.cells cs t)) := run_box ho hX
theorem run_box1 (ho : o.op = .box t X) (hX : ρ X = v) (h1 : v.oneCell' = true) : (execOp ρ o).run P w = .ok (.value (.pointer (some ⟨w.heap.size, 0, none⟩))) (w.alloc (.cells #[v] t)) := by
  have hv : v.cells = #[v] := by cases v <;> first | rfl | simp [Value.oneCell'] at h1
  have := run_box (P := P) (w := w) ho hX
  rwa [hv] at this
theorem run_alloc (ho : o.op = .alloc t) (hz : zeroOf P t = some v) : (execOp ρ o).run P w = .ok (.value (.pointer (some ⟨w.heap.size, 0, none⟩))) (w.alloc (.cells v.cells t)) := by
  unfold zeroOf at hz
  cases hi : P.info? t with
  | none => rw [hi] at hz; cases hz
  | some i =>
    rw [hi] at hz
    simp only [Option.bind_some] at hz
    have h1 : (zeroValue t).run P w = .ok v w := by simp [zeroValue, typeInfo, hi, hz]
    simp only [execOp, ho, Instr.alloc, Sem.run_bind, h1, Result.andThen_ok]
    rfl
theorem run_fieldAddr {f : Nat} (ho : o.op = .fieldAddr s A f) (hA : ρ A = .pointer (some ⟨g, off, none⟩)) (hf : tyFld P s f k = true) :
    (execOp ρ o).run P w = .ok (.value (.pointer (some ⟨g, off + k, none⟩))) w := by
  unfold tyFld at hf
  cases hu : P.underlying s with
  | none => rw [hu] at hf; cases hf
  | some d =>
    rw [hu] at hf
    cases d with
    | struct fs =>
      simp only at hf
      cases hfd : fs[f]? with
      | none => rw [hfd] at hf; cases hf
      | some fd =>
        rw [hfd] at hf
        simp only [Bool.and_eq_true, beq_iff_eq] at hf
        obtain ⟨h1, h2⟩ := hf
        cases hi : P.info? fd.type with
        | none => rw [hi] at h2; cases h2
        | some i =>
          rw [hi] at h2
          have h3 : i.size ≠ 0 := by simpa using h2
          subst h1
          simp [execOp, ho, hA, Instr.fieldAt, Instr.sureAddr, run_underlying hu, hfd, fieldPlace, sizeOf, typeInfo, hi, h3, add_plain]
    | _ => cases hf
theorem run_len {n c : Nat} {b : Option Addr} {ts : List TypeId} {args : List Operand} (ho : o.op = .call { callee := .builtin .len, args := args.toArray, argTypes := ts.toArray }) (ha : args = [X]) (hts : ts = [t]) (hX : ρ X = .slice b n c) (ht : tySlice P t e = true) :
    (execOp ρ o).run P w = .ok (.value (.int .i64 n)) w := by
  subst ha hts
  unfold tySlice at ht
  cases hu : P.underlying t with
  | none => rw [hu] at ht; cases ht
  | some d =>
    rw [hu] at ht
    cases d with
    | slice e' => simp [execOp, ho, resolve, invoke, builtin, Builtin.len_, hX, run_underlying hu, goInt]
    | _ => cases ht
theorem run_index {n c i : Nat} {kd : IntKind} {x : Int} {sz : Nat} (ho : o.op = .indexAddr t X Y) (hX : ρ X = .slice (some ⟨g, off, none⟩) n c) (hY : ρ Y = .int kd x) (hx : x = i) (hi : i < n) (ht : tySlice P t e = true) (hs : tySize P e sz = true) :
    (execOp ρ o).run P w = .ok (.value (.pointer (some ⟨g, off + i * sz, none⟩))) w := by
  subst hx
  unfold tySlice at ht
  cases hu : P.underlying t with
  | none => rw [hu] at ht; cases ht
  | some d =>
    rw [hu] at ht
    cases d with
    | slice e' =>
      have he : e' = e := by simpa using ht
      subst he
      have h1 : (0 : Int) ≤ (i : Int) ∧ (i : Int) < (n : Int) := by omega
      simp [execOp, ho, hX, hY, Instr.indexAt, asIntOf, run_underlying hu, hi, run_size (w := w) hs, add_plain]
    | _ => cases ht
theorem run_call {f : FuncId} {args : List Operand} {ts : Array TypeId} (ho : o.op = .call { callee := .value (.func f), args := args.toArray, argTypes := ts }) (hρ : ρ (.func f) = .func (.func f) #[] #[]) (hf : goFn P f = true) :
    (execOp ρ o).run P w = .ok (.enter f (args.map ρ).toArray) w := by
  unfold goFn at hf
  cases h : P.funcs[f]? with
  | none => rw [h] at hf; cases hf
  | some fn =>
    rw [h] at hf
    simp only [Bool.and_eq_true, Bool.not_eq_true'] at hf
    obtain ⟨h1, h2⟩ := hf
    have h3 : ¬ fn.body = none := by cases hb : fn.body <;> simp_all
    have h4 : ¬ fn.name = "runtime.NumGoroutine" := by simpa using h2
    simp [execOp, ho, resolve, hρ, Deferred.ofValue, invoke, callFunc, h, h4, h3, program, Sem.run]
end

/-! ### Slices of literals, structs of literals -/
section
variable {P : Program} {ρ : Operand → Value} {o : Oper} {w : World} {t e : TypeId} {cs : Array Value}
end
end Go.Rill
end
section
namespace Go.Rill
set_option linter.unusedVariables false
set_option linter.unusedSimpArgs false
open Go.RowKit

/-- A thing in memory: its blocks, and what is so of them. -/
structure Ent where
  foot : List Nat
  ok : World → Prop
  st : ∀ w w' : World, (∀ g ∈ foot, w'.heap[g]? = w.heap[g]?) → ok w → ok w'
/-- One block. -/
def Ent.blk (g : Nat) (o : Obj) : Ent := ⟨[g], fun w => w.heap[g]? = some o, fun w w' h k => (h g (by simp)).trans k⟩
/-- All blocks but these are as they were. -/
structure Held (F : Nat → Prop) (w w' : World) : Prop where
  size : w.heap.size ≤ w'.heap.size
  block : ∀ g, g < w.heap.size → ¬ F g → w'.heap[g]? = w.heap[g]?
def feet (L : List Ent) (g : Nat) : Prop := ∃ e ∈ L, g ∈ e.foot
def none' : Nat → Prop := fun _ => False
/-- The streams are as they were, and all blocks but these. -/
structure Ch (F : Nat → Prop) (w w' : World) : Prop where
  os : w'.os = w.os
  tape : w'.tape = w.tape
  output : w'.output = w.output
  held : Held F w w'
structure Mem (w0 : World) (O : Nat → Prop) (L : List Ent) (Φ : World → Prop) (w : World) : Prop where
  ch : Ch O w0 w
  ents : ∀ e ∈ L, e.ok w
  lt : ∀ e ∈ L, ∀ g ∈ e.foot, g < w.heap.size
  own : ∀ e ∈ L, ∀ g ∈ e.foot, w0.heap.size ≤ g ∨ O g
  apart : L.Pairwise fun e e' => ∀ g ∈ e.foot, g ∉ e'.foot
  safe : ∀ w', Held (feet L) w w' → Φ w'

section
variable {w0 w w' : World} {O F F' : Nat → Prop} {L L' : List Ent} {Φ Ψ : World → Prop} {e : Ent} {i g : Nat}
theorem Held.refl (F : Nat → Prop) (w : World) : Held F w w := ⟨Nat.le_refl _, fun _ _ _ => rfl⟩
theorem Held.trans {a b c : World} (h : Held F a b) (k : Held F b c) : Held F a c :=
  ⟨Nat.le_trans h.size k.size, fun g hg hL => (k.block g (Nat.lt_of_lt_of_le hg h.size) hL).trans (h.block g hg hL)⟩
theorem Held.mono (h : Held F w w') (hF : ∀ g, g < w.heap.size → F g → F' g) : Held F' w w' := ⟨h.size, fun g hg hn => h.block g hg (fun c => hn (hF g hg c))⟩
theorem Held.of_ext (h : Ext w w') : Held F w w' := ⟨h.size, fun g hg _ => h.block g hg⟩
theorem Ch.refl (F : Nat → Prop) (w : World) : Ch F w w := ⟨rfl, rfl, rfl, .refl _ _⟩
theorem Ch.trans {a b c : World} (h : Ch F a b) (k : Ch F b c) : Ch F a c := ⟨k.os.trans h.os, k.tape.trans h.tape, k.output.trans h.output, h.held.trans k.held⟩
theorem Ch.mono (h : Ch F w w') (hF : ∀ g, g < w.heap.size → F g → F' g) : Ch F' w w' := ⟨h.os, h.tape, h.output, h.held.mono hF⟩
theorem Ch.of_ext (h : Ext w w') : Ch F w w' := ⟨h.os, h.tape, h.output, .of_ext h⟩
theorem Ch.ext (h : Ch none' w w') : Ext w w' := ⟨h.os, h.tape, h.output, h.held.size, fun g hg => h.held.block g hg id⟩
theorem Ch.setRow {g : Nat} {cs : Array Value} (hg : F g) : Ch F w (w.setRow g cs) := ⟨rfl, rfl, rfl, by simp, fun k hk hn => setRow_other w g k cs (fun e => hn (e ▸ hg))⟩
theorem Mem.fact (M : Mem w0 O L Φ w) : Φ w := M.safe w (Held.refl _ _)
theorem Mem.ent (M : Mem w0 O L Φ w) {e : Ent} (i : Nat) (h : L[i]? = some e) : e.ok w := M.ents e (List.mem_of_getElem? h)
theorem Mem.row (M : Mem w0 O L Φ w) {i g : Nat} {o : Obj} (h : L[i]? = some (.blk g o)) : w.heap[g]? = some o := M.ent i h
/-- The one law of change. -/
theorem Mem.swap (M : Mem w0 O L Φ w) (hc : Ch (feet L) w w') (h1 : ∀ e ∈ L', e.ok w') (h2 : ∀ e ∈ L', ∀ g ∈ e.foot, g < w'.heap.size) (h3 : ∀ e ∈ L', ∀ g ∈ e.foot, feet L g ∨ w.heap.size ≤ g) (h4 : L'.Pairwise fun e e' => ∀ g ∈ e.foot, g ∉ e'.foot) : Mem w0 O L' Φ w' := by
  refine ⟨⟨hc.os.trans M.ch.os, hc.tape.trans M.ch.tape, hc.output.trans M.ch.output, ⟨Nat.le_trans M.ch.held.size hc.held.size, fun g hg hO => ?_⟩⟩, h1, h2, fun e he g hg => ?_, h4, fun w2 h => M.safe w2 ⟨Nat.le_trans hc.held.size h.size, fun g hg hn => ?_⟩⟩
  · rw [hc.held.block g (Nat.lt_of_lt_of_le hg M.ch.held.size) (fun ⟨e, he, hge⟩ => ?_)]
    · exact M.ch.held.block g hg hO
    · rcases M.own e he g hge with h | h
      · omega
      · exact hO h
  · rcases h3 e he g hg with ⟨e', he', hg'⟩ | h
    · exact M.own e' he' g hg'
    · exact .inl (Nat.le_trans M.ch.held.size h)
  · rw [h.block g (Nat.lt_of_lt_of_le hg hc.held.size) (fun ⟨e, he, hge⟩ => ?_)]
    · exact hc.held.block g hg hn
    · rcases h3 e he g hge with h | h
      · exact hn h
      · omega
theorem Mem.keep (M : Mem w0 O L Φ w) (he : e ∈ L) (h : ∀ g ∈ e.foot, w'.heap[g]? = w.heap[g]?) : e.ok w' := e.st w w' h (M.ents e he)
theorem Mem.ext (M : Mem w0 O L Φ w) (h : Ext w w') : Mem w0 O L Φ w' :=
  M.swap (.of_ext h) (fun e he => M.keep he fun g hg => h.block g (M.lt e he g hg)) (fun e he g hg => Nat.lt_of_lt_of_le (M.lt e he g hg) h.size) (fun e he g hg => .inl ⟨e, he, hg⟩) M.apart
/-- A new thing. -/
theorem Mem.adopt (M : Mem w0 O L Φ w) (h : Ext w w') (e : Ent) (hok : e.ok w') (hf : ∀ g ∈ e.foot, w.heap.size ≤ g ∧ g < w'.heap.size) : Mem w0 O (e :: L) Φ w' := by
  have M' := M.ext h
  refine M.swap (.of_ext h) (fun e' he => ?_) (fun e' he g hg => ?_) (fun e' he g hg => ?_) (List.pairwise_cons.2 ⟨fun e' he g hg hg' => ?_, M.apart⟩)
  · rcases List.mem_cons.1 he with rfl | he
    · exact hok
    · exact M'.ents e' he
  · rcases List.mem_cons.1 he with rfl | he
    · exact (hf g hg).2
    · exact M'.lt e' he g hg
  · rcases List.mem_cons.1 he with rfl | he
    · exact .inr (hf g hg).1
    · exact .inl ⟨e', he, hg⟩
  · have := M.lt e' he g hg'
    have := (hf g hg).1
    omega
theorem Mem.alloc (M : Mem w0 O L Φ w) (o : Obj) : Mem w0 O (.blk w.heap.size o :: L) Φ (w.alloc o) :=
  M.adopt (Ext.alloc w o) _ (by show (w.heap.push o)[w.heap.size]? = some o; simp) (fun g hg => by simp [Ent.blk] at hg; subst hg; simp)
/-- A thing changes, and takes new blocks at most. -/
theorem Mem.change (M : Mem w0 O L Φ w) (hi : L[i]? = some e) (e' : Ent) (hc : Ch (fun g => g ∈ e.foot) w w') (hok : e'.ok w') (hf : ∀ g ∈ e'.foot, g < w'.heap.size ∧ (g ∈ e.foot ∨ w.heap.size ≤ g)) : Mem w0 O (L.set i e') Φ w' := by
  have hL : i < L.length := (List.getElem?_eq_some_iff.1 hi).1
  have hLi : L[i] = e := (List.getElem?_eq_some_iff.1 hi).2
  have he : e ∈ L := List.mem_of_getElem? hi
  have hap : ∀ j (hj : j < L.length), j ≠ i → ∀ g ∈ e.foot, g ∉ L[j].foot := by
    intro j hj hne g hg hg'
    have hp := List.pairwise_iff_getElem.1 M.apart
    rcases Nat.lt_or_gt_of_ne hne with lt | lt
    · exact hp j i hj hL lt g hg' (by rw [hLi]; exact hg)
    · exact hp i j hL hj lt g (by rw [hLi]; exact hg) hg'
  have hold : ∀ j (hj : j < L.length), j ≠ i → L[j].ok w' := fun j hj hne => M.keep (List.getElem_mem hj) fun g hg => hc.held.block g (M.lt _ (List.getElem_mem hj) g hg) (fun hge => hap j hj hne g hge hg)
  have hcase : ∀ x ∈ L.set i e', x = e' ∨ ∃ j, ∃ hj : j < L.length, j ≠ i ∧ x = L[j] := by
    intro x hx
    obtain ⟨j, hj, rfl⟩ := List.getElem_of_mem hx
    by_cases c : i = j
    · subst c; exact .inl (by simp)
    · exact .inr ⟨j, by simpa using hj, fun h => c h.symm, by rw [List.getElem_set_ne c]⟩
  refine M.swap ⟨hc.os, hc.tape, hc.output, hc.held.mono fun g _ h => ⟨e, he, h⟩⟩ (fun x hx => ?_) (fun x hx g hg => ?_) (fun x hx g hg => ?_) ?_
  · rcases hcase x hx with rfl | ⟨j, hj, hne, rfl⟩
    · exact hok
    · exact hold j hj hne
  · rcases hcase x hx with rfl | ⟨j, hj, hne, rfl⟩
    · exact (hf g hg).1
    · exact Nat.lt_of_lt_of_le (M.lt _ (List.getElem_mem hj) g hg) hc.held.size
  · rcases hcase x hx with rfl | ⟨j, hj, hne, rfl⟩
    · rcases (hf g hg).2 with h | h
      · exact .inl ⟨e, he, h⟩
      · exact .inr h
    · exact .inl ⟨_, List.getElem_mem hj, hg⟩
  · rw [List.pairwise_iff_getElem]
    intro a b ha hb hab g hg hg'
    simp only [List.length_set] at ha hb
    by_cases c : i = a
    · subst c
      rw [List.getElem_set_self] at hg
      rw [List.getElem_set_ne (by omega)] at hg'
      rcases (hf g hg).2 with h | h
      · exact hap b hb (by omega) g h hg'
      · have := M.lt _ (List.getElem_mem hb) g hg'; omega
    · rw [List.getElem_set_ne c] at hg
      by_cases d : i = b
      · subst d
        rw [List.getElem_set_self] at hg'
        rcases (hf g hg').2 with h | h
        · exact hap a ha (by omega) g h hg
        · have := M.lt _ (List.getElem_mem ha) g hg; omega
      · rw [List.getElem_set_ne d] at hg'
        exact List.pairwise_iff_getElem.1 M.apart a b ha hb hab g hg hg'
theorem Mem.set (M : Mem w0 O L Φ w) {i g : Nat} {cs cs' : Array Value} {T : TypeId} {fr : Nat × Nat} (h : L[i]? = some (.blk g (.cells cs T fr))) : Mem w0 O (L.set i (.blk g (.cells cs' T fr))) Φ (w.setRow g cs') :=
  M.change h _ (Ch.setRow (by simp [Ent.blk])) (setRow_heap w g cs cs' T fr (M.row h)) (fun k hk => ⟨by simpa using M.lt _ (List.mem_of_getElem? h) k (by simpa [Ent.blk] using hk), .inl (by simpa [Ent.blk] using hk)⟩)
/-- Some of the things alone. -/
theorem Mem.sub (M : Mem w0 O L Φ w) (h : L'.Sublist L) : Mem w0 O L' Φ w :=
  ⟨M.ch, fun e he => M.ents e (h.mem he), fun e he => M.lt e (h.mem he), fun e he => M.own e (h.mem he), M.apart.sublist h, fun w' h' => M.safe w' (h'.mono fun g _ ⟨e, he, hg⟩ => ⟨e, h.mem he, hg⟩)⟩
/-- The same thing, said otherwise. -/
theorem Mem.view (M : Mem w0 O L Φ w) (hi : L[i]? = some e) (e' : Ent) (hok : e.ok w → e'.ok w) (hf : ∀ g ∈ e'.foot, g ∈ e.foot) : Mem w0 O (L.set i e') Φ w :=
  M.change hi e' (.refl _ _) (hok (M.ent i hi)) fun g hg => ⟨M.lt e (List.mem_of_getElem? hi) g (hf g hg), .inl (hf g hg)⟩
/-- More that is known. -/
theorem Mem.and (M : Mem w0 O L Φ w) (h : ∀ w', Held (feet L) w w' → Ψ w') : Mem w0 O L (fun w => Φ w ∧ Ψ w) w := ⟨M.ch, M.ents, M.lt, M.own, M.apart, fun w' h' => ⟨M.safe w' h', h w' h'⟩⟩
theorem Mem.imp (M : Mem w0 O L Φ w) (h : ∀ w', Φ w' → Ψ w') : Mem w0 O L Ψ w := ⟨M.ch, M.ents, M.lt, M.own, M.apart, fun w' h' => h w' (M.safe w' h')⟩
/-- A thing of the caller's, for a call that may change it. -/
theorem Mem.give (e : Ent) (hok : e.ok w) (hlt : ∀ g ∈ e.foot, g < w.heap.size) (hΦ : ∀ w', Held (fun g => g ∈ e.foot) w w' → Φ w') : Mem w (fun g => g ∈ e.foot) [e] Φ w :=
  ⟨.refl _ _, fun x hx => by simp at hx; subst hx; exact hok, fun x hx => by simp at hx; subst hx; exact hlt, fun x hx g hg => by simp at hx; subst hx; exact .inr hg, by simp, fun w' h' => hΦ w' (h'.mono fun g _ ⟨x, hx, hg⟩ => by simp at hx; subst hx; exact hg)⟩
end

/-! ### Slices -/
/-- A slice that may grow: it is the call's own. -/
theorem rowSt (t : TypeId) (sz : Nat) (v : Value) (n : Nat) (xs : List Value) (w w' : World) (h : ∀ g ∈ v.ownBlock.toList, w'.heap[g]? = w.heap[g]?) (k : w.ownsRow 0 t sz v n xs) : w'.ownsRow 0 t sz v n xs := by
  obtain ⟨h1, h2⟩ := k
  refine ⟨h1, ?_⟩
  rcases h2 with h2 | ⟨g, cap, cur, rfl, h3, h4, h5⟩
  · exact .inl h2
  · exact .inr ⟨g, cap, cur, rfl, h3, (h g (by simp [Value.ownBlock])).trans h4, h5⟩
def Ent.row (t : TypeId) (sz : Nat) (v : Value) (n : Nat) (xs : List Value) : Ent := ⟨v.ownBlock.toList, fun w => w.ownsRow 0 t sz v n xs, rowSt t sz v n xs⟩
/-- What a slice reads as. -/
def Reads (sz : Nat) (w : World) (v : Value) (n : Nat) (xs : List Value) : Prop :=
  xs.length = n * sz ∧ ((v = .slice none 0 0 ∧ n = 0) ∨ ∃ g off cap, v = .slice (some ⟨g, off, none⟩) n cap ∧ n ≤ cap ∧ cap ≤ maxLen ∧ g < w.heap.size ∧ ∀ j u, xs[j]? = some u → w.cell? ⟨g, off + j, none⟩ = some u)
section
variable {w w' : World} {t : TypeId} {sz n : Nat} {v : Value} {xs : List Value} {F : Nat → Prop}
theorem ownsRow_reads (h : w.ownsRow 0 t sz v n xs) : Reads sz w v n xs := by
  refine ⟨h.1, ?_⟩
  rcases h.2 with h2 | ⟨g, cap, cur, rfl, h3, h4, h5, h6, h7⟩
  · exact .inl h2
  · refine .inr ⟨g, 0, cap, rfl, h5, h6, (Array.getElem?_eq_some_iff.1 h4).1, fun j u hu => ?_⟩
    have := h.cells (g := g) rfl j u hu
    rwa [add_plain] at this
theorem Mem.reads {w0 : World} {O : Nat → Prop} {L : List Ent} {Φ : World → Prop} (M : Mem w0 O L Φ w) (i : Nat) (h : L[i]? = some (.row t sz v n xs)) : Reads sz w v n xs := ownsRow_reads (M.ent i h)
theorem Reads.held (h : Reads sz w v n xs) (H : Held F w w') (hF : ∀ g, v.ownBlock = some g → ¬ F g) : Reads sz w' v n xs := by
  refine ⟨h.1, ?_⟩
  rcases h.2 with h2 | ⟨g, off, cap, rfl, h3, h4, h5, h6⟩
  · exact .inl h2
  · exact .inr ⟨g, off, cap, rfl, h3, h4, Nat.lt_of_lt_of_le h5 H.size, fun j u hu => (World.cell?_of_block (w := w) (H.block g h5 (hF g rfl))).trans (h6 j u hu)⟩
theorem Reads.ext (h : Reads sz w v n xs) (H : Ext w w') : Reads sz w' v n xs := h.held (F := none') (.of_ext H) fun _ _ => id
theorem Reads.slice (h : Reads sz w v n xs) : ∃ b c, v = .slice b n c := by
  rcases h.2 with ⟨rfl, rfl⟩ | ⟨g, off, cap, rfl, _⟩
  · exact ⟨_, _, rfl⟩
  · exact ⟨_, _, rfl⟩
end
end Go.Rill
end
section
namespace Go.Rill
set_option linter.unusedVariables false
set_option linter.unusedSimpArgs false
open Go.RowKit

/-- These things are there, each with its own blocks. -/
structure Has (w : World) (L : List Ent) : Prop where
  ents : ∀ e ∈ L, e.ok w
  lt : ∀ e ∈ L, ∀ g ∈ e.foot, g < w.heap.size
  apart : L.Pairwise fun e e' => ∀ g ∈ e.foot, g ∉ e'.foot
/-- A call's contract: of the things it is given it makes others; what it hands on; what is known. -/
def Does {α : Type} (P : Program) (f : FuncId) (args : List Value) (w : World) (ins : List Ent) (val : α → Value) (outs : α → List Ent) (p : α → Prop) : Prop :=
  Calls P f args.toArray w fun en w' => ∃ x, en = .returned (val x) ∧ Ch (feet ins) w w' ∧ Has w' (outs x) ∧ (∀ g, feet (outs x) g → feet ins g ∨ w.heap.size ≤ g) ∧ p x
/-- .. of a call that changes nothing, and hands on just this. -/
def Gives (P : Program) (f : FuncId) (args : List Value) (w : World) (v : Value) : Prop := Does P f args w [] (fun _ : Unit => v) (fun _ => []) (fun _ => True)
section
variable {w0 w w' : World} {O : Nat → Prop} {L L' ins rest outs : List Ent} {Φ Ψ : World → Prop} {e : Ent} {i g : Nat}
theorem Mem.has (M : Mem w0 O L Φ w) : Has w L := ⟨M.ents, M.lt, M.apart⟩
theorem Has.nil (w : World) : Has w [] := ⟨fun _ h => (by cases h), fun _ h => (by cases h), .nil⟩
theorem feet_nil {g : Nat} : ¬ feet [] g := fun ⟨_, h, _⟩ => by cases h
theorem feet_app {A B : List Ent} {g : Nat} : feet (A ++ B) g ↔ feet A g ∨ feet B g := by
  constructor
  · rintro ⟨e, he, hg⟩
    rcases List.mem_append.1 he with h | h
    · exact .inl ⟨e, h, hg⟩
    · exact .inr ⟨e, h, hg⟩
  · rintro (⟨e, he, hg⟩ | ⟨e, he, hg⟩)
    · exact ⟨e, List.mem_append_left _ he, hg⟩
    · exact ⟨e, List.mem_append_right _ he, hg⟩
/-- At a call's begin. -/
theorem Mem.begin (h : Has w ins) (hΦ : ∀ w', Held (feet ins) w w' → Φ w') : Mem w (feet ins) ins Φ w := ⟨.refl _ _, h.ents, h.lt, fun e he g hg => .inr ⟨e, he, hg⟩, h.apart, hΦ⟩
theorem Has.sub (h : Has w L) (hs : L'.Sublist L) : Has w L' := ⟨fun e he => h.ents e (hs.mem he), fun e he => h.lt e (hs.mem he), h.apart.sublist hs⟩
/-- At a call's end. -/
theorem Mem.out (M : Mem w0 (feet ins) L Φ w) (hs : outs.Sublist L) : Ch (feet ins) w0 w ∧ Has w outs ∧ (∀ g, feet outs g → feet ins g ∨ w0.heap.size ≤ g) :=
  ⟨M.ch, M.has.sub hs, fun g ⟨e, he, hg⟩ => (M.own e (hs.mem he) g hg).symm⟩
theorem Mem.call (M : Mem w0 O (ins ++ rest) Φ w) (hc : Ch (feet ins) w w') (ho : Has w' outs) (hf : ∀ g, feet outs g → feet ins g ∨ w.heap.size ≤ g) : Mem w0 O (outs ++ rest) Φ w' := by
  have hap := List.pairwise_append.1 M.apart
  have hrest : ∀ e ∈ rest, ∀ g ∈ e.foot, w'.heap[g]? = w.heap[g]? := fun e he g hg => hc.held.block g (M.lt e (List.mem_append_right _ he) g hg) (fun ⟨x, hx, hg'⟩ => hap.2.2 x hx e he g hg' hg)
  refine M.swap (hc.mono fun g _ h => feet_app.2 (.inl h)) (fun e he => ?_) (fun e he g hg => ?_) (fun e he g hg => ?_) (List.pairwise_append.2 ⟨ho.apart, hap.2.1, fun a ha b hb g hg hg' => ?_⟩)
  · rcases List.mem_append.1 he with h | h
    · exact ho.ents e h
    · exact M.keep (List.mem_append_right _ h) (hrest e h)
  · rcases List.mem_append.1 he with h | h
    · exact ho.lt e h g hg
    · exact Nat.lt_of_lt_of_le (M.lt e (List.mem_append_right _ h) g hg) hc.held.size
  · rcases List.mem_append.1 he with h | h
    · exact (hf g ⟨e, h, hg⟩).imp (fun h => feet_app.2 (.inl h)) id
    · exact .inl (feet_app.2 (.inr ⟨e, h, hg⟩))
  · rcases hf g ⟨a, ha, hg⟩ with ⟨x, hx, hgx⟩ | h
    · exact hap.2.2 x hx b hb g hgx hg'
    · have := M.lt b (List.mem_append_right _ hb) g hg'
      omega
theorem Has.ext (h : Has w L) (hx : Ext w w') : Has w' L := ⟨fun e he => e.st w w' (fun g hg => hx.block g (h.lt e he g hg)) (h.ents e he), fun e he g hg => Nat.lt_of_lt_of_le (h.lt e he g hg) hx.size, h.apart⟩
end
/-- What a call of a region of open order hands on. -/
def Came {α : Type} (B : Nat) (val : α → Value) (outs : α → List Ent) (p : α → Prop) : Spec := .rel fun w v => ∃ x, v = val x ∧ Has w (outs x) ∧ (∀ g, feet (outs x) g → B ≤ g) ∧ p x
theorem Came.last {α : Type} {B : Nat} {val : α → Value} {outs : α → List Ent} {p : α → Prop} {q : World → Value → Prop} (h : Came B val outs p = .rel q) : ∀ w w' v, Ext w w' → q w v → q w' v := by
  unfold Came at h
  injection h with h
  subst h
  rintro w w' v hx ⟨x, h1, h2, h3⟩
  exact ⟨x, h1, h2.ext hx, h3⟩
def ExtCall (P : Program) (f : FuncId) (args : Array Value) (w : World) (s : Spec) : Prop := Calls P f args w fun e w' => ∃ v, e = .returned v ∧ (Ext w w' ∧ s.ok w' v)
theorem Does.ext {α : Type} {P : Program} {f : FuncId} {args : List Value} {w : World} {val : α → Value} {outs : α → List Ent} {p : α → Prop} {B : Nat} (h : Does P f args w [] val outs p) (hB : B ≤ w.heap.size) : ExtCall P f args.toArray w (Came B val outs p) :=
  h.mono fun en w' ⟨x, h1, h2, h3, h4, h5⟩ => ⟨_, h1, (h2.mono fun g _ h => (feet_nil h).elim : Ch none' w w').ext, x, rfl, h3, fun g hg => (h4 g hg).elim (fun h => (feet_nil h).elim) fun h => Nat.le_trans hB h, h5⟩
theorem Gives.ext {P : Program} {f : FuncId} {args : List Value} {w : World} {v : Value} (h : Gives P f args w v) : ExtCall P f args.toArray w (.exact v) :=
  h.mono fun en w' ⟨x, h1, h2, h3, h4, h5⟩ => ⟨_, h1, (h2.mono fun g _ h => (feet_nil h).elim : Ch none' w w').ext, rfl⟩

section
variable {P : Program} {ops : Array Oper} {Q : Exit → Act → World → Prop} {l : List (Nat × Value)} {n : Nat} {a : Act} {w w' w0 : World} {rest : List Oper} {o : Oper} {v : Value} {O : Nat → Prop} {L L' ins R : List Ent} {Φ : World → Prop}
end

/-! ### Slices -/
def cutV (sz : Nat) (v : Value) (lo hi : Nat) : Value :=
  match v with
  | .slice b _ c => .slice (if c = lo then b else b.map (·.add (lo * sz))) (hi - lo) (c - lo)
  | _ => undef
section
variable {P : Program} {ρ : Operand → Value} {o : Oper} {w w' : World} {t s T e : TypeId} {A X Y : Operand} {v u : Value} {n sz : Nat} {xs : List Value}
theorem slice_und (h : tySlice P t e = true) : P.underlying t = some (.slice e) := by
  unfold tySlice at h
  cases hu : P.underlying t with
  | none => rw [hu] at h; cases h
  | some d => rw [hu] at h; cases d <;> simp_all
theorem run_sliceBound {k : IntKind} {x : Int} {i y : Nat} {c : BoundsCode} (hx : x = i) (h : i ≤ y) : (Instr.sliceBound (.int k x) y c).run P w = .ok i w := by
  subst hx
  have : (0 : Int) ≤ i ∧ (i : Int) ≤ y := by omega
  simp [Instr.sliceBound, asIntOf, this]
/-- What a bound of a slice is. -/
def bnd (ρ : Operand → Value) (x : Option Operand) (dflt i : Nat) : Prop :=
  match x with
  | none => i = dflt
  | some X => ∃ k x, ρ X = .int k x ∧ x = (i : Int)
theorem Reads.cut {lo hi : Nat} (h : Reads sz w v n xs) (h1 : lo ≤ hi) (h2 : hi ≤ n) : Reads sz w (cutV sz v lo hi) (hi - lo) ((xs.drop (lo * sz)).take ((hi - lo) * sz)) := by
  have hlen : ((xs.drop (lo * sz)).take ((hi - lo) * sz)).length = (hi - lo) * sz := by
    have e1 : hi * sz ≤ n * sz := Nat.mul_le_mul_right _ h2
    rw [List.length_take, List.length_drop, h.1, Nat.sub_mul]
    omega
  refine ⟨hlen, ?_⟩
  rcases h.2 with ⟨rfl, rfl⟩ | ⟨g, off, cap, rfl, h3, h4, h5, h6⟩
  · obtain rfl : hi = 0 := by omega
    obtain rfl : lo = 0 := by omega
    exact .inl ⟨rfl, rfl⟩
  · refine .inr ⟨g, if cap = lo then off else off + lo * sz, cap - lo, ?_, by omega, by omega, h5, fun j u hu => ?_⟩
    · show Value.slice _ _ _ = _
      by_cases c : cap = lo
      · simp [c]
      · simp [c, add_plain]
    · rw [List.getElem?_take] at hu
      split at hu
      · rw [List.getElem?_drop] at hu
        have hne : cap ≠ lo := by
          rintro rfl
          have : hi - cap = 0 := by omega
          simp_all
        rw [if_neg hne]
        have := h6 _ u hu
        rwa [← Nat.add_assoc] at this
      · cases hu
/-- An array in memory, as a slice. -/
def tyArr (P : Program) (t e : TypeId) (m : Nat) : Bool := match P.underlying t with | some (.array m' e') => m' == m && e' == e | _ => false
theorem run_toArray {m g off cap : Nat} (ho : o.op = .sliceToArrayPointer t X) (hX : ρ X = .slice (some ⟨g, off, none⟩) n cap) (ht : tyArr P t e m = true) (hn : m ≤ n) :
    (execOp ρ o).run P w = .ok (.value (.pointer (some ⟨g, off, none⟩))) w := by
  unfold tyArr at ht
  cases hu : P.underlying t with
  | none => rw [hu] at ht; cases ht
  | some d =>
    rw [hu] at ht
    cases d with
    | array m' e' =>
      simp at ht
      obtain ⟨rfl, rfl⟩ := ht
      have : ¬ n < m' := by omega
      simp [execOp, ho, hX, Instr.arrayAt, run_underlying hu, this]
    | _ => cases ht
end

/-! ### Appending -/
section
variable {P : Program}
/-- What is appended. -/
theorem Reads.src {w : World} {sz n : Nat} {x : Value} {xs : List Value} {tx e' : TypeId} (h : Reads sz w x n xs) (hk : P.underlying tx = some (.slice e')) (h1 : ∀ u ∈ xs, u.oneCell' = true) : Src P sz tx x n xs w := by
  rcases h.2 with ⟨rfl, rfl⟩ | ⟨g, off, cap, rfl, _, _, _, hc⟩
  · have := h.1
    rw [Nat.zero_mul, List.length_eq_zero_iff] at this
    subst this
    exact Src.ofNil w hk 0
  · exact Src.ofSlice w hk _ n cap xs h.1 (fun j u hu => by rw [add_plain]; exact hc j u hu) h1
theorem run_append_src {w : World} (t tx ty e : TypeId) (i : TypeInfo) (z : Value) (size bytes : Nat) (ht : P.underlying t = some (.slice e)) (hi : P.info? e = some i) (hz : i.zero = some z)
    (hsize : i.size = size) (hby : i.bytes = bytes) (hzs : z.cells.size = size) (hsz : 0 < size)
    (v : Value) (n : Nat) (xs : List Value) (hown : w.ownsRow 0 e size v n xs)
    (x : Value) (m : Nat) (news : List Value) (hs : Src P size tx x m news w)
    (h63 : n + m ≤ maxLen) (hbytes : (n + m) * bytes ≤ 140737488355328) :
    ∃ v' w', (Builtin.append_ #[t, tx] ty #[v, x]).run P w = .ok v' w' ∧ w'.ownsRow 0 e size v' (n + m) (xs ++ news) ∧ w.grownBy w' v.ownBlock ∧ (∀ g, v'.ownBlock = some g → v.ownBlock = some g ∨ w.heap.size ≤ g) ∧
      (0 < n + m → v'.ownBlock.isSome = true) := by
  subst hsize
  subst hby
  have hsmall : n + m ≤ 9223372036854775807 := by simp only [maxLen] at h63; omega
  have hl := hs.newsLen
  have hlen : (xs ++ news).length = (n + m) * i.size := by rw [List.length_append, hown.1, hl, Nat.add_mul]
  have grown : ∀ (old : Nat), old < n + m → ∀ (row : Option Nat),
      (w.drew.alloc (.cells ((xs ++ news).toArray ++ Builtin.zeroCells z.cells (grownCap w (n + m) old e - (n + m))) e)).ownsRow 0 e i.size
        (.slice (some ⟨w.heap.size, 0, none⟩) (n + m) (grownCap w (n + m) old e)) (n + m) (xs ++ news) ∧
      w.grownBy (w.drew.alloc (.cells ((xs ++ news).toArray ++ Builtin.zeroCells z.cells (grownCap w (n + m) old e - (n + m))) e)) row := by
    intro old ho row
    have hge := grownCap_ge w (n + m) old e
    have hcm : grownCap w (n + m) old e ≤ maxLen := grownCap_le_maxLen w (n + m) old e h63
    refine ⟨⟨hlen, .inr ⟨w.heap.size, _, _, rfl, Nat.zero_le _, heap_alloc_new w.drew _, hge, hcm, ?_, ?_⟩⟩, ⟨rfl, rfl, rfl, by simp, fun k hk _ => Below.heap_alloc w.drew _ k hk⟩⟩
    · simp only [Array.size_append, List.size_toArray, size_zeroCells, hzs, hlen, ← Nat.add_mul]
      congr 1
      omega
    · simp only [Array.toList_append]
      rw [← hlen]
      exact List.take_left
  rcases hown.2 with ⟨rfl, rfl⟩ | ⟨g, cap, cur, rfl, hbg, hg, hnc, hcm, hcs, htake⟩
  · have hx : xs = [] := List.eq_nil_of_length_eq_zero (by simpa using hown.1)
    subst hx
    by_cases hm : m = 0
    · subst hm
      have hn : news = [] := List.eq_nil_of_length_eq_zero (by simpa using hl)
      subst hn
      refine ⟨.slice none 0 0, w, ?_, World.ownsRow_nil w 0 e i.size, ⟨rfl, rfl, rfl, Nat.le_refl _, fun _ _ _ => rfl⟩, fun g h => .inl h, fun h => absurd h (by omega)⟩
      rcases hs.kind with ⟨e', hk⟩ | hk <;> simp [Builtin.append_, run_underlying ht, run_underlying hk, sizeOf, typeInfo, hi, hs.len, hs.cells, storeCells]
    · have hold : (Builtin.firstCells i.size 0 (.slice none 0 0)).run P w.drew = .ok (([] : List Value)).toArray w.drew := by simp [Builtin.firstCells]
      have hr := run_append_grow_src (P := P) w t tx ty e i z ht hi hz none 0 0 [] hold x m news hs (by omega) (by omega) (growslice_fits (by omega) hbytes)
      have hgr := grown 0 (by omega) (Value.ownBlock (.slice none 0 0))
      exact ⟨_, _, hr, hgr.1, hgr.2, fun g h => .inr (by simp [Value.ownBlock] at h; omega), fun _ => rfl⟩
  · by_cases hroom : n + m ≤ cap
    · have hfit : n * i.size + news.length ≤ cur.size := by rw [hl, hcs, ← Nat.add_mul]; exact Nat.mul_le_mul_right _ hroom
      have hst := run_storeCells_at P g (n * i.size) e news 0 cur w hg (by simpa using hfit) hs.one
      simp only [Nat.add_zero] at hst
      have hr : (Builtin.append_ #[t, tx] ty #[.slice (some ⟨g, 0, none⟩) n cap, x]).run P w = .ok (.slice (some ⟨g, 0, none⟩) (n + m) cap) (w.setRow g (cur.toList.take (n * i.size) ++ news ++ cur.toList.drop (n * i.size + news.length)).toArray) := by
        rcases hs.kind with ⟨e', hk⟩ | hk <;> simp [Builtin.append_, run_underlying ht, run_underlying hk, sizeOf, typeInfo, hi, hs.len, hroom, hs.cells, Addr.add_lit, hst]
      refine ⟨_, _, hr, ⟨hlen, .inr ⟨g, cap, _, rfl, hbg, setRow_heap w g cur _ e _ hg, hroom, hcm, ?_, ?_⟩⟩, ⟨rfl, rfl, rfl, by simp, fun k _ hk => setRow_other w g k _ (fun e => hk (by simp [Value.ownBlock, e]))⟩, fun g h => .inl h, fun _ => rfl⟩
      · simp only [List.size_toArray, List.length_append, List.length_take, List.length_drop, Array.length_toList]
        omega
      · rw [htake, ← hlen]
        exact List.take_left
    · have holds : ∀ j u, xs[j]? = some u → w.cell? ((⟨g, 0, none⟩ : Addr).add j) = some u := hown.cells (g := g) rfl
      have hold := run_firstCells_some (P := P) w.drew i.size n ⟨g, 0, none⟩ n cap xs hown.1 (by simpa using holds)
      have hr := run_append_grow_src (P := P) w t tx ty e i z ht hi hz (some ⟨g, 0, none⟩) n cap xs hold x m news hs (by omega) (by omega) (growslice_fits (by omega) hbytes)
      have hgr := grown cap (by omega) (Value.ownBlock (.slice (some ⟨g, 0, none⟩) n cap))
      exact ⟨_, _, hr, hgr.1, hgr.2, fun g h => .inr (by simp [Value.ownBlock] at h; omega), fun _ => rfl⟩
/-- A type's zero has its size. -/
def tyZero (P : Program) (e : TypeId) (sz : Nat) : Bool := match P.info? e with | some i => i.size == sz && (match i.zero with | some z => z.cells.size == sz | none => false) | none => false
def tyBytes' (P : Program) (e : TypeId) (k : Nat) : Bool := match P.info? e with | some i => i.bytes == k | none => false
variable {ops : Array Oper} {Q : Exit → Act → World → Prop} {l : List (Nat × Value)} {n : Nat} {a : Act} {w w' w0 : World} {rest : List Oper} {o : Oper} {O : Nat → Prop} {L R : List Ent} {Φ : World → Prop}
/-- A new slice, as one that may grow. -/
theorem row_of {w : World} {g k c sz : Nat} {e : TypeId} {cs : Array Value} (hg : w.heap[g]? = some (.cells cs e (0, 0))) (hs : cs.size = c * sz) (hk : k ≤ c) (hc : c ≤ maxLen) : w.ownsRow 0 e sz (.slice (some ⟨g, 0, none⟩) k c) k (cs.toList.take (k * sz)) := by
  have : k * sz ≤ c * sz := Nat.mul_le_mul_right _ hk
  exact ⟨by simp; omega, .inr ⟨g, c, cs, rfl, Nat.zero_le _, hg, hk, hc, hs, rfl⟩⟩
theorem run_makeR {ρ : Operand → Value} {o : Oper} {w : World} {t e : TypeId} {X Y : Operand} {kl kc : IntKind} {k c sz bytes : Nat} {x y : Int} (ho : o.op = .makeSlice t X Y) (hX : ρ X = .int kl x) (hY : ρ Y = .int kc y) (hx : x = k) (hy : y = c) (ht : tySlice P t e = true) (hz : tyZero P e sz = true) (hb : tyBytes' P e bytes = true) (hk : k ≤ c) (hmax : c * (bytes + 1) ≤ 140737488355328) :
    ∃ cs, cs.size = c * sz ∧ (execOp ρ o).run P w = .ok (.value (.slice (some ⟨w.heap.size, 0, none⟩) k c)) (w.alloc (.cells cs e)) ∧ ∃ i z, P.info? e = some i ∧ i.zero = some z ∧ cs = madeCells z.cells (c * sz) := by
  subst hx hy
  unfold tyZero at hz
  unfold tyBytes' at hb
  cases hi : P.info? e with
  | none => rw [hi] at hz; cases hz
  | some i =>
    rw [hi] at hz hb
    simp only [Bool.and_eq_true, beq_iff_eq] at hz hb
    cases hzz : i.zero with
    | none => rw [hzz] at hz; cases hz.2
    | some z =>
      have e1 : c * (bytes + 1) = c * bytes + c := by rw [Nat.mul_add, Nat.mul_one]
      have hb' : (i.bytes : Int) * (c : Int) ≤ 281474976710656 := by
        rw [hb, Int.mul_comm]
        have : ((c * bytes : Nat) : Int) ≤ 281474976710656 := by omega
        rwa [Int.natCast_mul] at this
      have hr := run_make (P := P) w t e i z (slice_und ht) hi hzz kl kc k c (by omega) (by omega) hb' (by omega)
      simp only [Int.toNat_natCast, hz.1] at hr
      exact ⟨_, size_madeCells _ _, by simp [execOp, ho, hX, hY, hr], i, z, rfl, hzz, rfl⟩
end
end Go.Rill
end
section
namespace Go.Rill
set_option linter.unusedVariables false
set_option linter.unusedSimpArgs false
open Go.RowKit
/-! ### An operation of a region of open order -/
section
variable {P : Program} {Q : Exit → Act → World → Prop} {l : List (Nat × Value)} {n : Nat} {w0 : World} {ops : Array Oper} {B : List Nat} {Vs : List Spec} {i : Nat}
/-- The steps, one by one. -/
def AllF (p : Nat → Prop) : List Nat → Prop
  | [] => True
  | i :: r => p i ∧ AllF p r
theorem AllF.mem {p : Nat → Prop} : ∀ {is : List Nat}, AllF p is → ∀ i ∈ is, p i
  | [], _, _, h => by cases h
  | j :: r, h, i, hi => by
    rcases List.mem_cons.1 hi with rfl | hi
    · exact h.1
    · exact AllF.mem h.2 i hi
/-- Whether a list of specs lasts: each one by itself. -/
def LastsS : Spec → Prop
  | .exact _ => True
  | .rel p => ∀ w w' v, Ext w w' → p w v → p w' v
theorem Lasts.of {Vs : List Spec} (h : ∀ s ∈ Vs, LastsS s) : Lasts Vs := fun j p hj w w' v hx hp => by
  have := h _ (List.mem_of_getElem? hj)
  exact this w w' v hx hp
theorem LastsS.came {α : Type} {B : Nat} {val : α → Value} {outs : α → List Ent} {p : α → Prop} : LastsS (Came B val outs p) := fun w w' v hx ⟨x, h1, h2, h3⟩ => ⟨x, h1, h2.ext hx, h3⟩
theorem LastsS.exact {v : Value} : LastsS (.exact v) := trivial
def AllS : List Spec → Prop
  | [] => True
  | s :: r => LastsS s ∧ AllS r
theorem AllS.lasts {Vs : List Spec} (h : AllS Vs) : Lasts Vs := Lasts.of (by
  induction Vs with
  | nil => intro s hs; cases hs
  | cons s r ih =>
    intro x hx
    rcases List.mem_cons.1 hx with rfl | hx
    · exact h.1
    · exact ih h.2 x hx)
theorem Has.ent {w : World} {L : List Ent} {e : Ent} (h : Has w L) (i : Nat) (hi : L[i]? = some e) : e.ok w := h.ents e (List.mem_of_getElem? hi)
theorem Has.reads {w : World} {L : List Ent} {t : TypeId} {sz n : Nat} {v : Value} {xs : List Value} (h : Has w L) (i : Nat) (hi : L[i]? = some (.row t sz v n xs)) : Reads sz w v n xs := ownsRow_reads (h.ent i hi)
end
end Go.Rill
end
section
namespace Go.Rill
set_option linter.unusedVariables false
set_option linter.unusedSimpArgs false
open Go.RowKit

/-! ### Structs -/
theorem fold_set (vs : List Value) : ∀ (k : Nat) (off : Nat) (cells : Array Value), off + k + vs.length ≤ cells.size →
    ((vs.zipIdx k).foldl (fun cs (x : Value × Nat) => cs.setIfInBounds (off + x.2) x.1) cells).toList = cells.toList.take (off + k) ++ vs ++ cells.toList.drop (off + k + vs.length) := by
  induction vs with
  | nil => intro k off cells h; simp
  | cons v r ih =>
    intro k off cells h
    simp only [List.length_cons] at h
    rw [List.zipIdx_cons, List.foldl_cons, ih (k + 1) off _ (by simp; omega)]
    simp only [Array.toList_setIfInBounds]
    have hk : off + k < cells.toList.length := by simp; omega
    rw [List.set_eq_take_append_cons_drop, if_pos hk]
    have h1 : (cells.toList.take (off + k)).length = off + k := by simp; omega
    rw [List.take_append, List.drop_append, h1]
    have e1 : off + (k + 1) - (off + k) = 1 := by omega
    have e2 : off + (k + 1) + r.length - (off + k) = r.length + 1 := by omega
    rw [e1, e2]
    rw [List.take_of_length_le (by omega), List.drop_of_length_le (l := cells.toList.take (off + k)) (by omega)]
    simp only [List.take_succ_cons, List.take_zero, List.drop_succ_cons, List.nil_append, List.drop_drop, List.append_assoc, List.length_cons]
    have e3 : off + k + 1 + r.length = off + k + (r.length + 1) := by omega
    rw [e3]
    rfl
theorem run_mapM {α β : Type} {P : Program} {w : World} (g : α → Sem β) (h : α → β) (l : List α) (hl : ∀ x ∈ l, (g x).run P w = .ok (h x) w) : (l.mapM g).run P w = .ok (l.map h) w := by
  induction l with
  | nil => simp
  | cons x r ih =>
    rw [List.mapM_cons, Sem.run_bind, hl x (by simp), Result.andThen_ok, Sem.run_bind, ih fun y hy => hl y (by simp [hy]), Result.andThen_ok, Sem.run_pure]
    rfl
theorem run_buildSlice0 {P : Program} {ρ : Operand → Value} {o : Oper} {w : World} {t e : TypeId} (ho : o.op = .buildSlice t 0 #[]) (ht : tySlice P t e = true) (hs : (P.info? e).isSome = true) : (execOp ρ o).run P w = .ok (.value (.slice (some ⟨w.heap.size, 0, none⟩) 0 0)) (w.alloc (.cells #[] e)) := by
  obtain ⟨i, hi⟩ := Option.isSome_iff_exists.1 hs
  simp [execOp, ho, Instr.buildSlice, run_underlying (slice_und ht), sizeOf, typeInfo, hi, Instr.fill, newRow, Array.range_zero']

/-! ### A slot's value moves on -/
section
variable {P : Program} {o : Oper} {w : World} {l : List (Nat × Value)} {s : Tmp} {v : Value} {x : Operand}
end

section
variable {P : Program} {ρ : Operand → Value} {o : Oper} {w : World} {t s T e : TypeId} {A X : Operand} {v : Value} {n sz g : Nat} {xs : List Value} {cs : Array Value}
theorem Reads.one (h : Reads sz w v n xs) : v.oneCell' = true := by
  obtain ⟨b, c, rfl⟩ := h.slice
  rfl
theorem cells_one (h : v.oneCell' = true) : v.cells = #[v] := by cases v <;> first | rfl | simp [Value.oneCell'] at h
end
section
variable {P : Program} {ρ : Operand → Value} {o : Oper} {w : World} {t t' e : TypeId} {X Y : Operand}
/-- An item of an array in memory. -/
theorem run_indexA {g off m sz i : Nat} {kd : IntKind} {x : Int} (ho : o.op = .indexAddr t X Y) (hX : ρ X = .pointer (some ⟨g, off, none⟩)) (hY : ρ Y = .int kd x) (hx : x = i) (hi : i < m) (ht : tyArr P t e m = true) (hs : tySize P e sz = true) :
    (execOp ρ o).run P w = .ok (.value (.pointer (some ⟨g, off + i * sz, none⟩))) w := by
  subst hx
  unfold tyArr at ht
  cases hu : P.underlying t with
  | none => rw [hu] at ht; cases ht
  | some d =>
    rw [hu] at ht
    cases d with
    | array m' e' =>
      simp at ht
      obtain ⟨rfl, rfl⟩ := ht
      simp [execOp, ho, hX, hY, Instr.indexAt, asIntOf, Instr.sureAddr, run_underlying hu, hi, run_size (w := w) hs, add_plain]
    | _ => cases ht
end
/-! ### Bytes -/
def bc (l : List UInt8) : List Value := l.map fun b => .int .u8 (b.toNat : Int)
@[simp] theorem bc_length (l : List UInt8) : (bc l).length = l.length := by simp [bc]
@[simp] theorem bc_append (a b : List UInt8) : bc (a ++ b) = bc a ++ bc b := by simp [bc]
@[simp] theorem bc_nil : bc [] = [] := rfl
@[simp] theorem bc_cons (b : UInt8) (l : List UInt8) : bc (b :: l) = .int .u8 (b.toNat : Int) :: bc l := rfl
theorem bc_drop (l : List UInt8) (k : Nat) : (bc l).drop k = bc (l.drop k) := by simp [bc]
theorem bc_take (l : List UInt8) (k : Nat) : (bc l).take k = bc (l.take k) := by simp [bc]
theorem bc_one (l : List UInt8) : ∀ u ∈ bc l, u.oneCell' = true := by
  intro u hu
  obtain ⟨b, _, rfl⟩ := List.mem_map.1 hu
  rfl
/-- A slice of bytes. -/
def Bytes (w : World) (v : Value) (l : List UInt8) : Prop := Reads 1 w v l.length (bc l)
theorem Reads.nil (sz : Nat) (w : World) : Reads sz w (.slice none 0 0) 0 [] := ⟨by simp, .inl ⟨rfl, rfl⟩⟩
/-- A slice of ints. -/
def ic (l : List Int) : List Value := l.map fun b => .int .i64 b
@[simp] theorem ic_length (l : List Int) : (ic l).length = l.length := by simp [ic]
/-- A number's eight bytes. -/
def be8 (v : Int) : List UInt8 := [UInt8.ofInt (v / 72057594037927936), UInt8.ofInt (v / 281474976710656), UInt8.ofInt (v / 1099511627776), UInt8.ofInt (v / 4294967296), UInt8.ofInt (v / 16777216), UInt8.ofInt (v / 65536), UInt8.ofInt (v / 256), UInt8.ofInt v]
theorem fd {x k k' : Int} (h : 0 ≤ k) (e : k' = k) : x.fdiv k' = x / k := by rw [e, Int.fdiv_eq_ediv_of_nonneg _ h]
/-- A slice of bytes of the call's own. -/
abbrev Ent.bytes (e : TypeId) (v : Value) (l : List UInt8) : Ent := .row e 1 v l.length (bc l)
theorem Mem.bytes {w0 w : World} {O : Nat → Prop} {L : List Ent} {Φ : World → Prop} {e : TypeId} {v : Value} {l : List UInt8} (M : Mem w0 O L Φ w) (i : Nat) (h : L[i]? = some (.bytes e v l)) : Bytes w v l := M.reads i h
/-- A part of a block, of the call's own, that reads as bytes. -/
def Ent.sub (v : Value) (l : List UInt8) : Ent := ⟨v.ownBlock.toList, fun w => Bytes w v l, fun w w' h k => by
  refine ⟨k.1, ?_⟩
  rcases k.2 with h2 | ⟨g, off, cap, rfl, h3, h4, h5, h6⟩
  · exact .inl h2
  · have hb := h g (by simp [Value.ownBlock])
    refine .inr ⟨g, off, cap, rfl, h3, h4, ?_, fun j u hu => (World.cell?_of_block (w := w) hb).trans (h6 j u hu)⟩
    have h7 : (w.heap[g]?).isSome = true := by simp [h5]
    rw [← hb] at h7
    simpa using h7⟩
theorem cutV_block (sz : Nat) (v : Value) (lo hi : Nat) (h : ∃ b n c, v = .slice b n c) : (cutV sz v lo hi).ownBlock = v.ownBlock := by
  obtain ⟨b, n, c, rfl⟩ := h
  show Value.ownBlock (.slice _ _ _) = _
  cases b with
  | none => split <;> rfl
  | some a => split <;> simp [Value.ownBlock, Addr.add] <;> split <;> rfl
theorem Mem.subs {w0 w : World} {O : Nat → Prop} {L : List Ent} {Φ : World → Prop} {v : Value} {l : List UInt8} (M : Mem w0 O L Φ w) (i : Nat) (h : L[i]? = some (.sub v l)) : Bytes w v l := M.ent i h
theorem Mem.as {w0 w : World} {O : Nat → Prop} {L L' : List Ent} {Φ : World → Prop} (M : Mem w0 O L Φ w) (h : L = L') : Mem w0 O L' Φ w := h ▸ M
theorem Bytes.cut {w : World} {v : Value} {l : List UInt8} (lo hi : Nat) (h : Bytes w v l) (h1 : lo ≤ hi) (h2 : hi ≤ l.length) : Bytes w (cutV 1 v lo hi) ((l.drop lo).take (hi - lo)) := by
  have := Reads.cut h h1 h2
  simp only [Nat.mul_one, bc_drop, bc_take] at this
  unfold Bytes
  rw [List.length_take, List.length_drop]
  rwa [show min (hi - lo) (l.length - lo) = hi - lo by omega]
/-- .. the rest of it. -/
theorem Mem.rest {w0 w : World} {O : Nat → Prop} {L : List Ent} {Φ : World → Prop} {v : Value} {l : List UInt8} (M : Mem w0 O L Φ w) (i k : Nat) (h : L[i]? = some (.sub v l)) (hk : k ≤ l.length) : Mem w0 O (L.set i (.sub (cutV 1 v k l.length) (l.drop k))) Φ w := by
  have hb := M.subs i h
  refine M.view h _ (fun _ => ?_) fun g hg => ?_
  · have := Bytes.cut k l.length hb hk (Nat.le_refl _)
    rwa [List.take_of_length_le (by simp)] at this
  · obtain ⟨b, c, hv⟩ := Reads.slice hb
    simp only [Ent.sub] at hg ⊢
    rwa [cutV_block _ _ _ _ ⟨b, _, c, hv⟩] at hg
theorem Bytes.pre {w : World} {v : Value} {l : List UInt8} {k : Nat} (h : Bytes w v l) (hk : k ≤ l.length) : Bytes w (cutV 1 v 0 k) (l.take k) := by simpa using Bytes.cut 0 k h (Nat.zero_le _) hk
theorem Bytes.nil (w : World) : Bytes w (.slice none 0 0) [] := Reads.nil 1 w
theorem Bytes.ext {w w' : World} {v : Value} {l : List UInt8} (h : Bytes w v l) (H : Ext w w') : Bytes w' v l := Reads.ext h H
section
variable {P : Program} {ops : Array Oper} {Q : Exit → Act → World → Prop} {l : List (Nat × Value)} {n : Nat} {a : Act} {w w' w0 : World} {rest : List Oper} {o : Oper} {O : Nat → Prop} {L R : List Ent} {Φ : World → Prop}
end
end Go.Rill
end
section
namespace Go.Rill
set_option linter.unusedVariables false
set_option linter.unusedSimpArgs false
open Go.RowKit

/-- The kinds of a struct's numbers, where its fields stand one behind the other. -/
def flatFs (K : TypeId → Option (List IntKind)) : List Field → Nat → Option (List IntKind)
  | [], _ => some []
  | f :: fs, off => match K f.type with
    | none => none
    | some ks => if f.offset == off && !(f.name == "_") then (match flatFs K fs (off + ks.length) with | some r => some (ks ++ r) | none => none) else none
/-- The kinds of a type's numbers, where it has numbers alone. -/
def flatK (P : Program) : Nat → TypeId → Option (List IntKind)
  | 0, _ => none
  | d + 1, t => match P.underlying t with
    | some (.int k) => if tyOne P t then some [k] else none
    | some (.struct fs) => match flatFs (flatK P d) fs.toList 0 with
      | some ks => if tyAgg P t ks.length && !P.stoodInHeld t then some ks else none
      | none => none
    | some (.array n e) => match flatK P d e with
      | some ks => if P.cellsOf e == ks.length && (P.info? e).isSome && tyAgg P t (n * ks.length) then some (List.replicate n ks).flatten else none
      | none => none
    | _ => none
def kindOf : Value → Option IntKind
  | .int k _ => some k
  | _ => none
def Fit (ks : List IntKind) (L : List Value) : Prop := L.map kindOf = ks.map some
theorem Fit.len {ks : List IntKind} {L : List Value} (h : Fit ks L) : L.length = ks.length := by
  have := congrArg List.length h
  simpa using this
theorem Fit.split {ks js : List IntKind} {L : List Value} (h : Fit (ks ++ js) L) : ∃ A B, L = A ++ B ∧ Fit ks A ∧ Fit js B := by
  refine ⟨L.take ks.length, L.drop ks.length, (List.take_append_drop _ _).symm, ?_, ?_⟩
  · unfold Fit at *
    rw [List.map_take, h, List.map_append, List.take_left' (by simp)]
  · unfold Fit at *
    rw [List.map_drop, h, List.map_append, List.drop_left' (by simp)]
def mkv (P : Program) (t : TypeId) (L : List Value) : Value := if tyOne P t then L.headD undef else .agg L.toArray
def EqOk (P : Program) (d : Nat) (t : TypeId) (ks : List IntKind) : Prop := ∀ (w : World) (xs ys : List Value), Fit ks xs → Fit ks ys → ∃ r, (Op.equalIn d t (mkv P t xs) (mkv P t ys)).run P w = .ok r w ∧ (r = true ↔ xs = ys)
theorem part_mid {P : Program} {w : World} {t : TypeId} {ks : List IntKind} {pre A post : List Value} {off : Nat} (hs : (tyOne P t = true ∧ ks.length = 1) ∨ (tyOne P t = false ∧ tyAgg P t ks.length = true)) (hp : pre.length = off) (hA : Fit ks A) : (part t (pre ++ A ++ post).toArray off).run P w = .ok (mkv P t A) w := by
  rcases hs with ⟨h1, h2⟩ | ⟨h1, h2⟩
  · obtain ⟨v, rfl⟩ : ∃ v, A = [v] := List.length_eq_one_iff.1 (by rw [hA.len, h2])
    have hi : (isAgg t).run P w = .ok false w := isAgg_one h1
    have hg : (pre ++ [v] ++ post).toArray[off]? = some v := by
      simp [List.getElem?_append, hp]
    simp only [part, Sem.run_bind, hi, Result.andThen_ok, Bool.false_eq_true, if_false, hg, Sem.run_pure, mkv, h1, if_true, List.headD_cons]
  · obtain ⟨dd, hu, hr⟩ := tyAgg_und h2
    have hi : (isAgg t).run P w = .ok true w := by
      cases dd <;> simp_all [isAgg, run_underlying hu, TypeDesc.isRow]
    have he : (pre ++ A ++ post).toArray.extract off (off + ks.length) = A.toArray := by
      apply Array.toList_inj.1
      simp [← hp, ← hA.len]
    simp only [part, Sem.run_bind, hi, Result.andThen_ok, if_true, run_size (w := w) (tyAgg_size h2), he, Sem.run_pure, mkv, h1, Bool.false_eq_true, if_false]
theorem shape_of {P : Program} {d : Nat} {t : TypeId} {ks : List IntKind} (h : flatK P d t = some ks) : (tyOne P t = true ∧ ks.length = 1) ∨ (tyOne P t = false ∧ tyAgg P t ks.length = true) := by
  cases d with
  | zero => simp [flatK] at h
  | succ d =>
    unfold flatK at h
    cases hu : P.underlying t with
    | none => rw [hu] at h; cases h
    | some dd =>
      rw [hu] at h
      cases dd with
      | int k =>
        simp only at h
        split at h
        · rename_i hc
          injection h with h
          subst h
          exact .inl ⟨hc, rfl⟩
        · cases h
      | struct fs =>
        simp only at h
        split at h
        · split at h
          · rename_i hc
            rw [Bool.and_eq_true] at hc
            injection h with h
            subst h
            exact .inr ⟨by simp [tyOne, hu], hc.1⟩
          · cases h
        · cases h
      | array n e =>
        simp only at h
        split at h
        · rename_i ks' _
          split at h
          · rename_i hc
            simp only [Bool.and_eq_true] at hc
            injection h with h
            subst h
            refine .inr ⟨by simp [tyOne, hu], ?_⟩
            have : (List.replicate n ks').flatten.length = n * ks'.length := by simp
            rw [this]
            exact hc.2
          · cases h
        · cases h
      | _ => cases h
theorem eqFields_flat {P : Program} {d : Nat} (K : ∀ t ks, flatK P d t = some ks → EqOk P d t ks) : ∀ (fs : List Field) (off : Nat) (ks : List IntKind), flatFs (flatK P d) fs off = some ks → ∀ (w : World) (p q xs ys : List Value), p.length = off → q.length = off → Fit ks xs → Fit ks ys →
    ∃ r, (Op.eqFields d (p ++ xs).toArray (q ++ ys).toArray fs).run P w = .ok r w ∧ (r = true ↔ xs = ys)
  | [], off, ks, h, w, p, q, xs, ys, hp, hq, hx, hy => by
    simp only [flatFs, Option.some.injEq] at h
    subst h
    have e1 : xs = [] := List.eq_nil_of_length_eq_zero (by simpa using hx.len)
    have e2 : ys = [] := List.eq_nil_of_length_eq_zero (by simpa using hy.len)
    exact ⟨true, by simp [Op.eqFields], by simp [e1, e2]⟩
  | f :: fs, off, ks, h, w, p, q, xs, ys, hp, hq, hx, hy => by
    unfold flatFs at h
    cases hk : flatK P d f.type with
    | none => rw [hk] at h; cases h
    | some k1 =>
      rw [hk] at h
      simp only at h
      split at h
      · rename_i hc
        simp only [Bool.and_eq_true, Bool.not_eq_true', beq_iff_eq] at hc
        obtain ⟨hoff, hn⟩ := hc
        cases hr : flatFs (flatK P d) fs (off + k1.length) with
        | none => rw [hr] at h; cases h
        | some k2 =>
          rw [hr] at h
          simp only [Option.some.injEq] at h
          subst h
          obtain ⟨A, xs', rfl, hA, hx'⟩ := hx.split
          obtain ⟨B, ys', rfl, hB, hy'⟩ := hy.split
          have hn' : f.name ≠ "_" := by simpa using hn
          have s1 := part_mid (P := P) (w := w) (post := xs') (shape_of hk) (hp.trans hoff.symm) hA
          have s2 := part_mid (P := P) (w := w) (post := ys') (shape_of hk) (hq.trans hoff.symm) hB
          obtain ⟨r, hr1, hr2⟩ := K _ _ hk w A B hA hB
          obtain ⟨r', hr3, hr4⟩ := eqFields_flat K fs _ _ hr w (p ++ A) (q ++ B) xs' ys' (by simp [hp, hA.len]) (by simp [hq, hB.len]) hx' hy'
          rw [List.append_assoc] at s1 s2 hr3
          rw [List.append_assoc] at hr3
          unfold Op.eqFields
          simp only [if_pos hn', Sem.run_bind, s1, s2, hr1, Result.andThen_ok]
          cases r with
          | false => exact ⟨false, by simp, by simp; intro e; have := List.append_inj_left e (by rw [hA.len, hB.len]); exact absurd (hr2.2 this) (by simp)⟩
          | true =>
            have hAB := hr2.1 rfl
            refine ⟨r', by simpa using hr3, ?_⟩
            rw [hr4, hAB]
            simp
      · cases h
theorem fit_rep {ks : List IntKind} : ∀ {n : Nat} {xs : List Value}, Fit (List.replicate (n + 1) ks).flatten xs → ∃ A B, xs = A ++ B ∧ Fit ks A ∧ Fit (List.replicate n ks).flatten B := by
  intro n xs h
  rw [List.replicate_succ, List.flatten_cons] at h
  exact h.split
theorem eqItems_flat {P : Program} {d : Nat} {e : TypeId} {ks : List IntKind} (hk : flatK P d e = some ks) (K : EqOk P d e ks) : ∀ (n s : Nat) (w : World) (p q xs ys : List Value), p.length = s * ks.length → q.length = s * ks.length → Fit (List.replicate n ks).flatten xs → Fit (List.replicate n ks).flatten ys →
    ∃ r, (Op.eqItems d e ks.length (p ++ xs).toArray (q ++ ys).toArray (List.range' s n)).run P w = .ok r w ∧ (r = true ↔ xs = ys)
  | 0, s, w, p, q, xs, ys, hp, hq, hx, hy => by
    have e1 : xs = [] := List.eq_nil_of_length_eq_zero (by simpa using hx.len)
    have e2 : ys = [] := List.eq_nil_of_length_eq_zero (by simpa using hy.len)
    exact ⟨true, by simp [Op.eqItems], by simp [e1, e2]⟩
  | n + 1, s, w, p, q, xs, ys, hp, hq, hx, hy => by
    obtain ⟨A, xs', rfl, hA, hx'⟩ := fit_rep hx
    obtain ⟨B, ys', rfl, hB, hy'⟩ := fit_rep hy
    have s1 := part_mid (P := P) (w := w) (post := xs') (shape_of hk) hp hA
    have s2 := part_mid (P := P) (w := w) (post := ys') (shape_of hk) hq hB
    obtain ⟨r, hr1, hr2⟩ := K w A B hA hB
    obtain ⟨r', hr3, hr4⟩ := eqItems_flat hk K n (s + 1) w (p ++ A) (q ++ B) xs' ys' (by simp [hp, hA.len, Nat.add_mul]) (by simp [hq, hB.len, Nat.add_mul]) hx' hy'
    rw [List.append_assoc] at s1 s2 hr3
    rw [List.append_assoc] at hr3
    rw [List.range'_succ]
    unfold Op.eqItems
    simp only [Sem.run_bind, s1, s2, hr1, Result.andThen_ok]
    cases r with
    | false => exact ⟨false, by simp, by simp; intro e; have := List.append_inj_left e (by rw [hA.len, hB.len]); exact absurd (hr2.2 this) (by simp)⟩
    | true =>
      have hAB := hr2.1 rfl
      refine ⟨r', by simpa using hr3, ?_⟩
      rw [hr4, hAB]
      simp
theorem flat_eq {P : Program} : ∀ (d : Nat) (t : TypeId) (ks : List IntKind), flatK P d t = some ks → EqOk P d t ks
  | 0, t, ks, h => by simp [flatK] at h
  | d + 1, t, ks, h => by
    have hsh := shape_of h
    unfold flatK at h
    intro w xs ys hx hy
    cases hu : P.underlying t with
    | none => rw [hu] at h; cases h
    | some dd =>
      rw [hu] at h
      cases dd with
      | int k =>
        simp only at h
        split at h
        · rename_i hc
          injection h with h
          subst h
          obtain ⟨x, rfl⟩ : ∃ v, xs = [v] := List.length_eq_one_iff.1 (by rw [hx.len]; rfl)
          obtain ⟨y, rfl⟩ : ∃ v, ys = [v] := List.length_eq_one_iff.1 (by rw [hy.len]; rfl)
          simp only [Fit, List.map_cons, List.map_nil, List.cons.injEq, and_true] at hx hy
          cases x <;> simp only [kindOf, reduceCtorEq] at hx
          cases y <;> simp only [kindOf, reduceCtorEq] at hy
          simp only [Option.some.injEq] at hx hy
          subst hx hy
          rename_i a _ b
          refine ⟨a == b, ?_, by simp⟩
          simp only [mkv, hc, if_true, List.headD_cons]
          exact run_equalIn_int w d t _ _ a b hu
        · cases h
      | struct fs =>
        simp only at h
        cases hf : flatFs (flatK P d) fs.toList 0 with
        | none => rw [hf] at h; cases h
        | some ks' =>
          rw [hf] at h
          simp only at h
          split at h
          · rename_i hc
            simp only [Bool.and_eq_true, Bool.not_eq_true'] at hc
            injection h with h
            subst h
            have ho : tyOne P t = false := by simp [tyOne, hu]
            have hfo : P.fieldsOf t = fs := by simp [Program.fieldsOf, hu]
            simp only [mkv, ho, Bool.false_eq_true, if_false]
            rw [run_equalIn_struct (P := P) w d t _ _ (by rw [hfo]; exact hu) hc.2, hfo]
            have := eqFields_flat (fun t ks h => flat_eq d t ks h) fs.toList 0 _ hf w [] [] xs ys rfl rfl hx hy
            simpa using this
          · cases h
      | array n e =>
        simp only at h
        cases hf : flatK P d e with
        | none => rw [hf] at h; cases h
        | some ks' =>
          rw [hf] at h
          simp only at h
          split at h
          · rename_i hc
            simp only [Bool.and_eq_true, beq_iff_eq] at hc
            injection h with h
            subst h
            obtain ⟨i, hi⟩ := Option.isSome_iff_exists.1 hc.1.2
            have ho : tyOne P t = false := by simp [tyOne, hu]
            simp only [mkv, ho, Bool.false_eq_true, if_false]
            rw [run_equalIn_array (P := P) w d _ _ hu hi, hc.1.1, List.range_eq_range']
            have := eqItems_flat hf (flat_eq d e _ hf) n 0 w [] [] xs ys (by simp) (by simp) hx hy
            simpa using this
          · cases h
      | _ => cases h
/-- A struct, or an array, held against another. -/
def tyFlat (P : Program) (t : TypeId) (ks : List IntKind) : Bool := flatK P 10000 t == some ks && !tyOne P t && !P.eqGuardType P.depth t
theorem Fit.app {ks js : List IntKind} {A B : List Value} (h : Fit ks A) (k : Fit js B) : Fit (ks ++ js) (A ++ B) := by
  unfold Fit at *
  rw [List.map_append, h, k, List.map_append]
end Go.Rill
end
section
namespace Go.Rill
set_option linter.unusedVariables false
set_option linter.unusedSimpArgs false
open Go.RowKit
structure Rec where
  gen : Int
  stamp : Int
  epoch : Int
  super : List UInt8
  rat : Int
  rsum : List UInt8
  bseg : Int
  bslot : Int
  tseg : Int
  tslot : Int
  bsum : List UInt8
  tsum : List UInt8
def iv (n : Int) : Value := .int .i64 n
/-- Digests have 32 bytes. -/
structure Rec.Ok (r : Rec) : Prop where
  super : r.super.length = 32
  rsum : r.rsum.length = 32
  bsum : r.bsum.length = 32
  tsum : r.tsum.length = 32
def Rec.cells (r : Rec) : List Value := iv r.gen :: iv r.stamp :: iv r.epoch :: (bc r.super ++ (iv r.rat :: (bc r.rsum ++ (iv r.bseg :: iv r.bslot :: iv r.tseg :: iv r.tslot :: (bc r.bsum ++ bc r.tsum)))))
def Rec.val (r : Rec) : Value := .agg r.cells.toArray
section
variable {r : Rec} (h : r.Ok)
include h
theorem Rec.len : r.cells.length = 136 := by simp [Rec.cells, h.super, h.rsum, h.bsum, h.tsum]
theorem Rec.size : r.cells.toArray.size = 136 := by simp [Rec.len h]
end
theorem Rec.ones (r : Rec) : ∀ v ∈ r.cells, v.oneCell' = true := by
  intro v hv
  simp only [Rec.cells, iv, List.mem_cons, List.mem_append] at hv
  rcases hv with rfl | rfl | rfl | hv | rfl | hv | rfl | rfl | rfl | rfl | hv | hv
  all_goals first | rfl | exact bc_one _ v hv
section
variable {r : Rec} (h : r.Ok)
include h
end
section
variable {r : Rec} (h : r.Ok)
include h
end
def Rec.zero : Rec := ⟨0, 0, 0, List.replicate 32 0, 0, List.replicate 32 0, 0, 0, 0, 0, List.replicate 32 0, List.replicate 32 0⟩
/-- What may be a record. -/
def RPl (s q : Int) : Prop := (0 ≤ s ∧ s ≤ 31) ∧ (0 ≤ q ∧ q ≤ 63)
instance (s q : Int) : Decidable (RPl s q) := by unfold RPl; infer_instance
def RNum (n : Int) : Prop := 1 ≤ n ∧ n ≤ 1099511627776
instance (n : Int) : Decidable (RNum n) := by unfold RNum; infer_instance
def Rec.Root (r : Rec) : Prop := (r.rat = 0 ∧ r.rsum = List.replicate 32 0) ∨ (3 ≤ r.rat ∧ r.rat ≤ 4095)
instance (r : Rec) : Decidable r.Root := by unfold Rec.Root; infer_instance
def Rec.May (r : Rec) : Prop := (RNum r.gen ∧ RNum r.stamp ∧ RNum r.epoch) ∧ r.Root ∧ RPl r.bseg r.bslot ∧ RPl r.tseg r.tslot
instance (r : Rec) : Decidable r.May := by unfold Rec.May; infer_instance
def Rec.bytes (r : Rec) : List UInt8 := be8 r.gen ++ be8 r.stamp ++ be8 r.epoch ++ r.super ++ be8 r.rat ++ r.rsum ++ be8 r.bseg ++ be8 r.bslot ++ be8 r.tseg ++ be8 r.tslot ++ r.bsum ++ r.tsum
end Go.Rill
end
section
namespace Go.Rill
set_option linter.unusedVariables false
set_option linter.unusedSimpArgs false
open Go.RowKit
/-- A map's entries, with numbers as keys. -/
structure IE where
  key : Int
  val : Value
  born : Nat
/-- Where a key is. -/
def iat (k : Int) : List IE → Nat → Option (Nat × Value)
  | [], _ => none
  | e :: r, i => if k = e.key then some (i, e.val) else iat k r (i + 1)
def iput (k : Int) (v : Value) (clock : Nat) : List IE → List IE × Nat
  | [] => ([⟨k, v, clock⟩], clock + 1)
  | e :: r => if k = e.key then (⟨k, v, e.born⟩ :: r, clock) else (e :: (iput k v clock r).1, (iput k v clock r).2)
section
variable {P : Program} {ρ : Operand → Value} {o : Oper} {w : World} {t k e : TypeId} {g clock : Nat} {es : List IE}
theorem put_some {q : Int} {v u : Value} {c : Nat} : ∀ {es : List IE} {n i : Nat}, iat q es n = some (i, u) → ∃ j, i = n + j ∧ (∃ x, es[j]? = some x ∧ x.key = q) ∧ iput q v c es = (es.modify j fun x => ⟨q, v, x.born⟩, c)
  | [], n, i, h => by cases h
  | e :: r, n, i, h => by
    unfold iat at h
    split at h
    · rename_i he
      injection h with h
      injection h with h1 h2
      subst h1
      exact ⟨0, rfl, ⟨e, rfl, he.symm⟩, by rw [iput, if_pos he]; rfl⟩
    · rename_i hne
      obtain ⟨j, h1, ⟨x, hx, hxk⟩, h2⟩ := put_some (v := v) (c := c) h
      exact ⟨j + 1, by omega, ⟨x, by simpa using hx, hxk⟩, by rw [iput, if_neg hne, h2]; rfl⟩
end
section
variable {P : Program} {ops : Array Oper} {Q : Exit → Act → World → Prop} {l : List (Nat × Value)} {n : Nat} {a : Act} {w w' w0 : World} {rest : List Oper} {o : Oper} {O : Nat → Prop} {L R : List Ent} {Φ : World → Prop}
theorem Mem.setObj (M : Mem w0 O L Φ w) {i g : Nat} {o o' : Obj} (h : L[i]? = some (.blk g o)) : Mem w0 O (L.set i (.blk g o')) Φ { w with heap := w.heap.setIfInBounds g o' } := by
  have hg : g < w.heap.size := M.lt _ (List.mem_of_getElem? h) g (by simp [Ent.blk])
  refine M.change h _ ⟨rfl, rfl, rfl, by simp, fun k hk hn => ?_⟩ (by show (w.heap.setIfInBounds g o')[g]? = some o'; simp [hg]) (fun k hk => ?_)
  · show (w.heap.setIfInBounds g o')[k]? = _
    rw [Array.getElem?_setIfInBounds_ne (fun c => hn (by simp [Ent.blk, c]))]
  · have e : k = g := by simpa [Ent.blk] using hk
    subst e
    exact ⟨by simpa using hg, .inl (by simp [Ent.blk])⟩
end
section
variable {P : Program} {Q : Exit → Act → World → Prop} {l : List (Nat × Value)} {n : Nat} {ops : Array Oper}
end
section
variable {w w0 : World} {O : Nat → Prop} {L : List Ent} {Φ : World → Prop} {ps ps' : List (Value × List UInt8)} {e : TypeId} {v : Value} {l : List UInt8}
end
section
variable {P : Program} {ρ : Operand → Value} {o : Oper} {w : World} {t t' e : TypeId} {X Y : Operand}
theorem run_min3 {A B C : Operand} {k : IntKind} {x y z : Int} {args : List Operand} {ts : Array TypeId} (ho : o.op = .call { callee := .builtin .min, args := args.toArray, argTypes := ts }) (ha : args = [A, B, C]) (hA : ρ A = .int k x) (hB : ρ B = .int k y) (hC : ρ C = .int k z) :
    (execOp ρ o).run P w = .ok (.value (.int k (if z < (if y < x then y else x) then z else (if y < x then y else x)))) w := by
  subst ha
  have := run_min_int3 (P := P) w ts o.type k k k x y z
  simp [execOp, ho, resolve, invoke, builtin, hA, hB, hC, this]
theorem run_max2 {A B : Operand} {k : IntKind} {x y : Int} {args : List Operand} {ts : Array TypeId} (ho : o.op = .call { callee := .builtin .max, args := args.toArray, argTypes := ts }) (ha : args = [A, B]) (hA : ρ A = .int k x) (hB : ρ B = .int k y) :
    (execOp ρ o).run P w = .ok (.value (.int k (if y > x then y else x))) w := by
  subst ha
  have := run_max_int2 (P := P) w ts o.type k k x y
  simp [execOp, ho, resolve, invoke, builtin, hA, hB, this]
end
end Go.Rill
end
section
namespace Go.Rill
set_option linter.unusedVariables false
set_option linter.unusedSimpArgs false
open Go.RowKit

def argL : List Value → Nat → List (Nat × Value)
  | [], _ => []
  | v :: r, i => (i, v) :: argL r (i + 1)
theorem argL_lookup {as : List Value} {i t : Nat} {v : Value} (h : (argL as i).lookup t = some v) : i ≤ t ∧ as[t - i]? = some v := by
  induction as generalizing i with
  | nil => simp [argL] at h
  | cons u r ih =>
    simp only [argL, List.lookup_cons] at h
    by_cases e : t = i
    · subst e; simp at h; subst h; simp
    · have hb : (t == i) = false := by simpa using e
      rw [hb] at h
      obtain ⟨h1, h2⟩ := ih h
      refine ⟨by omega, ?_⟩
      have : t - i = (t - (i + 1)) + 1 := by omega
      rw [this]; simpa using h2

section
variable {P : Program} {Q : Exit → Act → World → Prop} {l : List (Nat × Value)} {n : Nat} {a : Act} {w w0 : World} {Φ : World → Prop}
theorem enter {f : FuncId} {fn : Func} {c : Code} {as : List Value} {R : Ending → World → Prop} (hf : P.funcs[f]? = some fn) (hb : fn.body = some c) (hn : fn.ntmps = n) (ha : Nat.ble as.length n = true)
    (h : ∀ a, Env (argL as 0) n a → c.wp P (bodyPost P fn R) a w) : Calls P f as.toArray w R := by
  have ha' : as.length ≤ n := by simpa using ha
  refine calls_of_wp hf hb (h _ ⟨fun t v ht => ?_, by simp [hn]; omega, rfl⟩)
  obtain ⟨_, h2⟩ := argL_lookup ht
  have hlt : t < as.length := by simpa using (List.getElem?_eq_some_iff.1 h2).1
  simp only [Array.getD_eq_getD_getElem?]
  rw [Array.getElem?_append_left (by simpa using hlt)]
  simp at h2
  simp [h2]
theorem block_exit {id : Nat} (h : Q .normal a w) : Exit.inBlock id Q (.exit id) a w := by simpa [Exit.inBlock] using h
theorem block_other {id id' : Nat} (hne : (id' == id) = false) (h : Q (.exit id') a w) : Exit.inBlock id Q (.exit id') a w := by
  have : ¬ id' = id := by simpa using hne
  simpa [Exit.inBlock, this] using h
end
/-! ### Ends of contracts -/
section
variable {α : Type} {P : Program} {val : α → Value} {outs : α → List Ent} {p : α → Prop} {ins L : List Ent} {Φ : World → Prop} {w0 w : World}
theorem _root_.Go.Rill.Mem.fin {outs : List Ent} {p : Prop} (M : Mem w0 (feet ins) L Φ w) (hs : outs.Sublist L) (hp : p) : Ch (feet ins) w0 w ∧ Has w outs ∧ (∀ g, feet outs g → feet ins g ∨ w0.heap.size ≤ g) ∧ p :=
  ⟨(M.out hs).1, (M.out hs).2.1, (M.out hs).2.2, hp⟩
/-- .. of a call that hands on just this. -/
theorem given {v : Value} (M : Mem w0 (feet []) L Φ w) : ∃ y : Unit, Ending.returned v = .returned ((fun _ : Unit => v) y) ∧ Ch (feet []) w0 w ∧ Has w ((fun _ : Unit => []) y) ∧ (∀ g, feet ((fun _ : Unit => []) y) g → feet [] g ∨ w0.heap.size ≤ g) ∧ True :=
  ⟨(), rfl, M.fin (List.nil_sublist _) trivial⟩
end
end Go.Rill
end
