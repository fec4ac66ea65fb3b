/- What is known of a frame's slots, as a list; one law an operation. Of whatever program. -/
import Derived.Below
import Derived.Deep.Draws
import Derived.Orders
import Derived.Tactics
import Derived.KernelRfl
import Derived.Test.YtnebjbgcibjohaaWW
import Derived.WalkKit
import Derived.RowKit3
import Derived.Deep.MidRow
import Derived.Laws.CopyRow
import Derived.Laws.Tables
import Derived.Laws.AppendOwn
import Derived.Deep.AppendSrc
import Derived.Laws.StructEq
import Derived.ChangeKeysEq
import Derived.MapKept
import Derived.Laws.Cover3
import Derived.Laws.Cover1
import Derived.Laws.Small
import Derived.Lib.AppendZeros
import Derived.Laws.BytesString
import Derived.ChangeSlices
import Derived.OpenShut
import Derived.WideShapes
import Derived.Lib.SmallJoins
import Derived.Maps.RangeRun
section
namespace Go.Rill
set_option linter.unusedVariables false
set_option linter.unusedSimpArgs false

/-! ### Slots -/
structure Env (l : List (Nat × Value)) (n : Nat) (a : Act) : Prop where
  get : ∀ t v, l.lookup t = some v → a.tmps.getD t undef = v
  size : a.tmps.size = n
  defers : a.defers = []

def evL (l : List (Nat × Value)) : Operand → Value
  | .tmp t => (l.lookup t).getD undef
  | .const v => v
  | .global g => .pointer (some ⟨g, 0, none⟩)
  | .func f => .func (.func f) #[] #[]
def upd (l : List (Nat × Value)) (d : Option Tmp) (v : Value) : List (Nat × Value) :=
  match d with
  | some d => (d, v) :: l
  | none => l
def fits (n : Nat) (d : Option Tmp) : Bool :=
  match d with
  | some d => Nat.blt d n
  | none => true
def slotIn (l : List (Nat × Value)) (t : Nat) : Bool := (l.lookup t).isSome
def guardIn (ops : Array Oper) (l : List (Nat × Value)) (o : Oper) : Bool :=
  match o.guard with
  | none => true
  | some (j, _) => match (ops[j]?).bind (·.dst) with
    | some d => slotIn l d
    | none => true
/-- An operation's operands, as a list. -/
def opList : Op → List Operand
  | .alloc _ | .ready _ | .waits _ => []
  | .move x | .assign x | .box _ x | .load _ x | .nilCheck x | .unOp _ _ x | .convert _ _ x | .sliceToArrayPointer _ x | .makeInterface _ x
  | .makeChan _ x | .fieldAddr _ x _ | .field _ x _ | .range _ x | .next x _ | .entry x | .typeAssert x _ _ _ | .extract x _ | .panic x | .recv _ x _ => [x]
  | .pick c a b => [c, a, b]
  | .build _ ps | .buildSlice _ _ ps => ps.toList.map (·.2)
  | .store _ a v | .binOp _ _ a v _ | .makeSlice _ a v | .indexAddr _ a v | .index _ a v | .lookup _ a v _ | .mapEntry _ a v | .send a v => [a, v]
  | .makeFunc _ first captured => first.toList ++ captured.toList
  | .makeMap _ r => r.toList
  | .slice _ x l h m => x :: (l.toList ++ h.toList ++ m.toList)
  | .mapUpdate _ m k v | .entryStore _ m k v | .insert _ m k v => [m, k, v]
  | .call c | .go c | .defer c => (match c.callee with | .value f => [f] | .invoke r _ => [r] | .builtin _ => []) ++ c.args.toList
  | .select cs _ => []
theorem mem_opList {p : Op} (h : (match p with | .select .. => false | _ => true) = true) {x : Operand} (hx : x ∈ p.operands) : x ∈ opList p := by
  cases p with
  | select => cases h
  | call c => cases hc : c.callee <;> simp_all [Op.operands, Call.operands, opList]
  | go c => cases hc : c.callee <;> simp_all [Op.operands, Call.operands, opList]
  | defer c => cases hc : c.callee <;> simp_all [Op.operands, Call.operands, opList]
  | _ => simp_all [Op.operands, opList]
def tmpIn (l : List (Nat × Value)) : Operand → Bool
  | .tmp t => slotIn l t
  | _ => true
def noSel : Op → Bool
  | .select .. => false
  | _ => true
def covers (l : List (Nat × Value)) (o : Oper) : Bool := noSel o.op && (opList o.op).all (tmpIn l)
def yieldedL (ops : Array Oper) (l : List (Nat × Value)) (j : Nat) : Option Bool :=
  match ((ops[j]?).bind (·.dst)).bind (fun d => l.lookup d) with
  | some (.bool b) => some b
  | _ => none
def wantedL (ops : Array Oper) (l : List (Nat × Value)) (o : Oper) : Bool := Region.wanted o (yieldedL ops l)

theorem Env.put {l : List (Nat × Value)} {n : Nat} {a : Act} (E : Env l n a) {d : Option Tmp} (hd : fits n d = true) (v : Value) : Env (upd l d v) n (a.put d v) := by
  cases d with
  | none => exact E
  | some d =>
    have hd' : d < n := by simpa [fits] using hd
    refine ⟨fun t u h => ?_, by simp [Act.put, E.size], E.defers⟩
    simp only [upd, List.lookup_cons] at h
    by_cases ht : t = d
    · subst ht
      simp at h
      subst h
      simp [Act.put, Array.getD_eq_getD_getElem?, E.size, hd']
    · have hb : (t == d) = false := by simpa using ht
      rw [hb] at h
      have := E.get t u h
      simp only [Act.put, Array.getD_eq_getD_getElem?] at this ⊢
      rw [Array.getElem?_setIfInBounds_ne (fun e => ht e.symm)]
      exact this
theorem Env.eval {l : List (Nat × Value)} {n : Nat} {a : Act} (E : Env l n a) {x : Operand} (h : ∀ t, x = .tmp t → slotIn l t = true) : a.eval x = evL l x := by
  cases x with
  | tmp t =>
    have h1 := h t rfl
    simp only [slotIn, Option.isSome_iff_exists] at h1
    obtain ⟨v, hv⟩ := h1
    simp only [Act.eval, evL, hv, Option.getD_some]
    exact E.get t v hv
  | _ => rfl
theorem Env.exec {l : List (Nat × Value)} {n : Nat} {a : Act} (E : Env l n a) {o : Oper} (h : covers l o = true) : execOp a.eval o = execOp (evL l) o := by
  simp only [covers, Bool.and_eq_true] at h
  refine execOp_congr o (fun cs b e => by simp [e, noSel] at h) (fun x hx => E.eval fun t ht => ?_)
  have := List.all_eq_true.1 h.2 x (mem_opList (by cases hp : o.op <;> simp_all [noSel]) hx)
  subst ht
  exact this
theorem Env.yields {l : List (Nat × Value)} {n : Nat} {a : Act} (E : Env l n a) {ops : Array Oper} {j : Nat} (h : ∀ d, (ops[j]?).bind (·.dst) = some d → slotIn l d = true) : yielded ops a.tmps j = yieldedL ops l j := by
  unfold yielded yieldedL
  cases hd : (ops[j]?).bind (·.dst) with
  | none => rfl
  | some d =>
    have h1 := h d hd
    simp only [slotIn, Option.isSome_iff_exists] at h1
    obtain ⟨v, hv⟩ := h1
    have hg := E.get d v hv
    simp only [Option.bind_some, hv]
    rw [Array.getD_eq_getD_getElem?] at hg
    cases hx : a.tmps[d]? with
    | some u => rw [hx] at hg; simp at hg; subst hg; rfl
    | none => rw [hx] at hg; simp at hg; subst hg; rfl
theorem Env.wanted {l : List (Nat × Value)} {n : Nat} {a : Act} (E : Env l n a) {ops : Array Oper} {o : Oper} (h : guardIn ops l o = true) : Region.wanted o (yielded ops a.tmps) = wantedL ops l o := by
  unfold wantedL Region.wanted
  cases hg : o.guard with
  | none => rfl
  | some p =>
    obtain ⟨j, want⟩ := p
    simp only
    rw [E.yields (j := j) (fun d hd => by simpa [guardIn, hg, hd] using h)]

/-- A smaller list. -/
theorem Env.of {n : Nat} {a : Act} (hs : a.tmps.size = n) (hd : a.defers = []) : Env [] n a := ⟨fun t v h => by simp at h, hs, hd⟩
theorem Env.add {l l' : List (Nat × Value)} {n : Nat} {a : Act} (E' : Env l' n a) (E : Env l n a) {t : Nat} {v : Value} (h : l.lookup t = some v) : Env ((t, v) :: l') n a := by
  refine ⟨fun s u hu => ?_, E.size, E.defers⟩
  simp only [List.lookup_cons] at hu
  by_cases e : s = t
  · subst e; simp at hu; subst hu; exact E.get _ _ h
  · have hb : (s == t) = false := by simpa using e
    rw [hb] at hu; exact E'.get _ _ hu
theorem Env.nil {l : List (Nat × Value)} {n : Nat} {a : Act} (E : Env l n a) : Env [] n a := Env.of E.size E.defers

/-! ### A region in the order of the text -/
section
variable {P : Program} {ops : Array Oper} {Q : Exit → Act → World → Prop} {l : List (Nat × Value)} {n : Nat} {a : Act} {w w' : World} {rest : List Oper} {o : Oper} {v : Value}

/-- An operation that hands a value on. -/
theorem seq_val (E : Env l n a) (hc : covers l o = true) (hg : guardIn ops l o = true) (hw : wantedL ops l o = true) (hf : fits n o.dst = true)
    (h : (execOp (evL l) o).run P w = .ok (.value v) w') (k : ∀ a', Env (upd l o.dst v) n a' → wpList P ops Q rest a' w') : wpList P ops Q (o :: rest) a w := by
  unfold wpList
  rw [E.wanted hg, if_pos hw]
  refine .inl ?_
  unfold Oper.wp
  rw [E.exec hc, h]
  exact k _ (E.put hf v)
/-- .. into the slot d. -/
theorem sv {d : Tmp} (E : Env l n a) (hd : o.dst = some d) (hn : Nat.blt d n = true) (hc : covers l o = true) (hg : guardIn ops l o = true) (hw : wantedL ops l o = true)
    (h : (execOp (evL l) o).run P w = .ok (.value v) w') (k : ∀ a', Env ((d, v) :: l) n a' → wpList P ops Q rest a' w') : wpList P ops Q (o :: rest) a w :=
  seq_val E hc hg hw (by rw [hd]; exact hn) h (by rw [hd]; exact k)
/-- .. the plain checks left to be found. -/
theorem sw {d : Tmp} (E : Env l n a) (h : (execOp (evL l) o).run P w = .ok (.value v) w') (k : ∀ a', Env ((d, v) :: l) n a' → wpList P ops Q rest a' w') (hd : o.dst = some d := by rfl) (hn : Nat.blt d n = true := by rfl) (hc : covers l o = true := by rfl) (hg : guardIn ops l o = true := by rfl) (hw : wantedL ops l o = true := by rfl) : wpList P ops Q (o :: rest) a w :=
  sv E hd hn hc hg hw h k
theorem sno {d : Tmp} (E : Env l n a) (hd : o.dst = some d) (hn : Nat.blt d n = true) (hg : guardIn ops l o = true) (hw : wantedL ops l o = false)
    (k : ∀ a', Env ((d, undef) :: l) n a' → wpList P ops Q rest a' w) : wpList P ops Q (o :: rest) a w := by
  unfold wpList
  rw [E.wanted hg, if_neg (by simp [hw])]
  have := E.put (d := o.dst) (by rw [hd]; exact hn) undef
  rw [hd] at this
  rw [hd]
  exact k _ this
/-- An operation that hands nothing on (a store). -/
theorem seq_skip (E : Env l n a) (hc : covers l o = true) (hg : guardIn ops l o = true) (hw : wantedL ops l o = true) (hf : fits n o.dst = true)
    (h : (execOp (evL l) o).run P w = .ok .skip w') (k : ∀ a', Env (upd l o.dst undef) n a' → wpList P ops Q rest a' w') : wpList P ops Q (o :: rest) a w := by
  unfold wpList
  rw [E.wanted hg, if_pos hw]
  refine .inl ?_
  unfold Oper.wp
  rw [E.exec hc, h]
  exact k _ (E.put hf undef)
/-- A call by its contract. -/
theorem seq_call {f : FuncId} {args : Array Value} {R : Value → World → Prop} (E : Env l n a) (hc : covers l o = true) (hg : guardIn ops l o = true) (hw : wantedL ops l o = true) (hf : fits n o.dst = true)
    (h : (execOp (evL l) o).run P w = .ok (.enter f args) w') (C : Calls P f args w' fun e w'' => ∃ v, e = .returned v ∧ R v w'')
    (k : ∀ a' v w'', R v w'' → Env (upd l o.dst v) n a' → wpList P ops Q rest a' w'') : wpList P ops Q (o :: rest) a w := by
  unfold wpList
  rw [E.wanted hg, if_pos hw]
  refine .inl ?_
  unfold Oper.wp
  rw [E.exec hc, h]
  rw [Oper.upon_enter]
  refine C.mono ?_
  rintro e w'' ⟨v, rfl, hr⟩
  exact k _ v w'' hr (E.put hf v)
theorem seq_nil (h : Q .normal a w) : wpList P ops Q [] a w := h
end

/-! ### Code -/
section
variable {P : Program} {Q : Exit → Act → World → Prop} {l : List (Nat × Value)} {n : Nat} {a : Act} {w : World}
end
end Go.Rill
end
section
namespace Go.Rill
set_option linter.unusedVariables false
set_option linter.unusedSimpArgs false
open Go.Proofs.YtnebjbgcibjohaaW.PrintLast Go.RowKit

/-- What was there is as it was: the world has grown, or orders were drawn. -/
def Ext (w w' : World) : Prop := Below w.heap.size w w'
theorem Ext.refl (w : World) : Ext w w := Below.refl _ _
theorem Ext.trans {a b c : World} (h : Ext a b) (k : Ext b c) : Ext a c := Below.trans h (k.mono h.size)
theorem Ext.drew (w : World) : Ext w w.drew := (Below.refl _ _).drew
theorem Ext.alloc (w : World) (o : Obj) : Ext w (w.alloc o) := (Below.refl _ _).alloc (Nat.le_refl _) o

/-- What an operation hands on: just this value; or one of which this is known. -/
inductive Spec where
  | exact (v : Value)
  | rel (p : World → Value → Prop)
def Spec.ok (s : Spec) (w : World) (v : Value) : Prop :=
  match s with
  | .exact u => v = u
  | .rel p => p w v
def valOf (Vs : List Spec) (x : Nat → Value) (j : Nat) : Value :=
  match Vs[j]? with
  | some (.exact v) => v
  | _ => x j
def knows (Vs : List Spec) (x : Nat → Value) (w : World) (j : Nat) : Prop :=
  match Vs[j]? with
  | some (.rel p) => p w (x j)
  | _ => True
def Lasts (Vs : List Spec) : Prop := ∀ (j : Nat) (p : World → Value → Prop), Vs[j]? = some (.rel p) → ∀ w w' v, Ext w w' → p w v → p w' v

def dstOf (ops : Array Oper) (i : Nat) : Option Nat := (ops[i]?).bind (·.dst)
def writes (ops : Array Oper) (t i : Nat) : Bool := dstOf ops i == some t
/-- The slots that an operation looks at. -/
def slotsOf (ops : Array Oper) (i : Nat) : List Nat :=
  match ops[i]? with
  | none => []
  | some o => ((opList o.op).filterMap fun | .tmp t => some t | _ => none) ++ (match o.guard with | some (g, _) => (dstOf ops g).toList | none => [])
def waits (B : List Nat) (i j : Nat) : Bool := (B.getD i 0).testBit j
/-- Which operation has last filled a slot that operation i looks at. -/
def srcOf (ops : Array Oper) (B : List Nat) (i t : Nat) : Option Nat := (List.range i).reverse.find? fun j => writes ops t j && waits B i j
def freeOk (ops : Array Oper) (B : List Nat) : Bool :=
  (List.range ops.size).all fun i =>
    ((slotsOf ops i).all fun t => match srcOf ops B i t with
      | some j => (List.range ops.size).all fun k => !writes ops t k || Nat.ble k j || Nat.beq k i || waits B k i
      | none => (List.range ops.size).all fun k => !writes ops t k || Nat.beq k i || waits B k i) &&
    (match dstOf ops i with
      | some t => (List.range ops.size).all fun k => !writes ops t k || Nat.ble k i || waits B k i
      | none => true)
def envOf (ops : Array Oper) (B : List Nat) (l : List (Nat × Value)) (Vs : List Spec) (x : Nat → Value) (i : Nat) : List (Nat × Value) :=
  (slotsOf ops i).filterMap fun t => match srcOf ops B i t with
    | some j => some (t, valOf Vs x j)
    | none => (l.lookup t).map fun v => (t, v)
def endEnv (ops : Array Oper) (l : List (Nat × Value)) (Vs : List Spec) (x : Nat → Value) : List (Nat × Value) :=
  ((List.range ops.size).reverse.filterMap fun i => (dstOf ops i).map fun t => (t, valOf Vs x i)) ++ l

/-- One operation, shown: from any world behind w0 in which what it waits for has come up. -/
def FStep (P : Program) (ops : Array Oper) (B : List Nat) (l : List (Nat × Value)) (n : Nat) (Vs : List Spec) (w0 : World) (Q : Exit → Act → World → Prop) (i : Nat) : Prop :=
  ∀ (x : Nat → Value) (a : Act) (w : World), Ext w0 w → (∀ j, waits B i j = true → knows Vs x w j) → Env (envOf ops B l Vs x i) n a →
    ∃ o s, ops[i]? = some o ∧ Vs[i]? = some s ∧ ∀ K : Act → World → Prop, (∀ v w', Ext w w' → s.ok w' v → K (a.put o.dst v) w') →
      if Region.wanted o (yielded ops a.tmps) = true then Oper.wp P o a w K Q else K (a.put o.dst undef) w

/-- The last operation listed that fills a slot. -/
def lastW (ops : Array Oper) (b : Nat → Bool) (t : Nat) : Option Nat := (List.range ops.size).reverse.find? fun j => writes ops t j && b j
theorem find_last {p : Nat → Bool} {n j : Nat} (hj : j < n) (hp : p j = true) (hm : ∀ k, k < n → p k = true → k ≤ j) : (List.range n).reverse.find? p = some j := by
  induction n with
  | zero => omega
  | succ n ih =>
    rw [List.range_succ, List.reverse_append]
    simp only [List.reverse_singleton, List.singleton_append, List.find?_cons]
    by_cases e : j = n
    · subst e; rw [hp]
    · have hn : p n = false := by
        cases h : p n with
        | false => rfl
        | true => have := hm n (by omega) h; omega
      rw [hn]
      exact ih (by omega) (fun k hk h => hm k (by omega) h)
theorem find_none {p : Nat → Bool} {n : Nat} (h : ∀ k, k < n → p k = false) : (List.range n).reverse.find? p = none := by
  rw [List.find?_eq_none]
  intro k hk
  simp at hk
  simp [h k hk]
theorem find_some {p : Nat → Bool} {n j : Nat} (h : (List.range n).reverse.find? p = some j) : j < n ∧ p j = true ∧ ∀ k, k < n → p k = true → k ≤ j := by
  induction n with
  | zero => simp at h
  | succ n ih =>
    rw [List.range_succ, List.reverse_append] at h
    simp only [List.reverse_singleton, List.singleton_append, List.find?_cons] at h
    cases hn : p n with
    | true => rw [hn] at h; simp at h; subst h; exact ⟨by omega, hn, fun k hk _ => by omega⟩
    | false =>
      rw [hn] at h
      obtain ⟨h1, h2, h3⟩ := ih h
      refine ⟨by omega, h2, fun k hk hp => ?_⟩
      by_cases e : k = n
      · subst e; rw [hn] at hp; cases hp
      · exact h3 k (by omega) hp

theorem srcOf_lt {ops : Array Oper} {B : List Nat} {i t j : Nat} (h : srcOf ops B i t = some j) : j < i ∧ writes ops t j = true ∧ waits B i j = true := by
  obtain ⟨h1, h2, _⟩ := find_some h
  simp only [Bool.and_eq_true] at h2
  exact ⟨h1, h2.1, h2.2⟩

section
variable {P : Program} {Q : Exit → Act → World → Prop} {l : List (Nat × Value)} {n : Nat} {a : Act} {w : World} {ops : Array Oper} {B : List Nat} {Vs : List Spec} {id : Nat}

/-- The relation over what is listed. -/
structure Inv (ops : Array Oper) (a0 : Act) (n : Nat) (Vs : List Spec) (w0 : World) (b : Nat → Bool) (a : Act) (w : World) : Prop where
  ext : Ext w0 w
  size : a.tmps.size = n
  defers : a.defers = []
  vals : ∃ x : Nat → Value, (∀ j, b j = true → knows Vs x w j) ∧ ∀ t, t < n → a.tmps.getD t undef = match lastW ops b t with
    | some j => valOf Vs x j
    | none => a0.tmps.getD t undef

theorem put_get {a : Act} {d : Option Tmp} {v : Value} {t : Nat} (ht : t < a.tmps.size) : (a.put d v).tmps.getD t undef = if d = some t then v else a.tmps.getD t undef := by
  cases d with
  | none => simp [Act.put]
  | some d =>
    by_cases e : d = t
    · subst e; simp [Act.put, ht]
    · simp [Act.put, e, Array.getD_eq_getD_getElem?, Array.getElem?_setIfInBounds_ne e]

theorem lookup_filterMap {f : Nat → Option Value} {L : List Nat} {t : Nat} {v : Value} (h : (L.filterMap fun s => (f s).map fun u => (s, u)).lookup t = some v) : f t = some v ∧ t ∈ L := by
  induction L with
  | nil => simp at h
  | cons s L ih =>
    simp only [List.filterMap_cons] at h
    cases hf : f s with
    | none => rw [hf] at h; simp at h; obtain ⟨h1, h2⟩ := ih h; exact ⟨h1, List.mem_cons_of_mem _ h2⟩
    | some u =>
      rw [hf] at h
      simp only [Option.map_some, List.lookup_cons] at h
      by_cases e : t = s
      · subst e; simp at h; subst h; exact ⟨hf, List.mem_cons_self⟩
      · have : (t == s) = false := by simpa using e
        rw [this] at h; obtain ⟨h1, h2⟩ := ih h; exact ⟨h1, List.mem_cons_of_mem _ h2⟩
theorem envOf_eq (x : Nat → Value) (i : Nat) : envOf ops B l Vs x i = (slotsOf ops i).filterMap fun t => ((match srcOf ops B i t with
    | some j => some (valOf Vs x j)
    | none => l.lookup t) : Option Value).map fun v => (t, v) := by
  unfold envOf
  congr 1
  funext t
  cases srcOf ops B i t <;> rfl

def endTo (ops : Array Oper) (l : List (Nat × Value)) (Vs : List Spec) (x : Nat → Value) (m : Nat) : List (Nat × Value) :=
  ((List.range m).reverse.filterMap fun i => (dstOf ops i).map fun t => (t, valOf Vs x i)) ++ l
/-- One operation, and then what follows. -/
def lastOp (P : Program) (ops : Array Oper) (Q : Exit → Act → World → Prop) (m : Nat) (a : Act) (w : World) : Prop :=
  match ops[m]? with
  | none => False
  | some o => if Region.wanted o (yielded ops a.tmps) = true then Oper.wp P o a w (fun a w => Q .normal a w) Q else Q .normal (a.put o.dst undef) w
/-- lst: the last operation stands apart: it waits for all others. -/
theorem free_gen (lst : Bool) {a0 : Act} (T : Bool × List (List Nat × List Nat)) (B : List Nat) (Vs : List Spec) (E : Env l n a0) (hm : P.follows .mixedOrders = true) (hT : rtab .any ops = T) (hw : waitsOk T.2 B = true) (hk : baseOk T.2 (List.range ops.size) = true)
    (hf : freeOk ops B = true) (hd : ((List.range ops.size).all fun i => fits n (dstOf ops i)) = true) (hl : Lasts Vs)
    (m : Nat) (hmm : m + (if lst then 1 else 0) = ops.size) (hwl : lst = true → ∀ i, i < m → waits B m i = true)
    (hs : ∀ i ∈ List.range m, FStep P ops B l n Vs w.drew Q i)
    (hend : ∀ (x : Nat → Value) (a : Act) (w' : World), Ext w w' → (∀ j, j < m → knows Vs x w' j) → Env (endTo ops l Vs x m) n a → if lst then lastOp P ops Q m a w' else Q .normal a w') : (Code.region id ops true).wp P Q a0 w := by
  have hlen : T.2.length = ops.size := by subst hT; simp [rtab]
  refine wp_region_last (S := fun _ => True) (ds := []) hm ?_
  show wpAnyLast P .any ops Q (fun _ => True) [] ops.size (Array.replicate ops.size false) a0 w.drew
  have key : ∀ i, i < ops.size → (∀ t ∈ slotsOf ops i, match srcOf ops B i t with
      | some j => ∀ k, k < ops.size → writes ops t k = true → k ≤ j ∨ k = i ∨ waits B k i = true
      | none => ∀ k, k < ops.size → writes ops t k = true → k = i ∨ waits B k i = true) ∧ (∀ t, dstOf ops i = some t → ∀ k, k < ops.size → writes ops t k = true → k ≤ i ∨ waits B k i = true) := by
    intro i hi
    have h1 := List.all_eq_true.1 hf i (List.mem_range.2 hi)
    rw [Bool.and_eq_true] at h1
    refine ⟨fun t ht => ?_, fun t ht k hkn hwk => ?_⟩
    · have h2 := List.all_eq_true.1 h1.1 t ht
      cases hsrc : srcOf ops B i t with
      | some j =>
        rw [hsrc] at h2
        intro k hkn hwk
        have h3 := List.all_eq_true.1 h2 k (List.mem_range.2 hkn)
        rw [hwk] at h3
        simp only [Bool.not_true, Bool.false_or, Bool.or_eq_true, Nat.ble_eq, Nat.beq_eq] at h3
        rcases h3 with (h3 | h3) | h3
        · exact .inl h3
        · exact .inr (.inl h3)
        · exact .inr (.inr h3)
      | none =>
        rw [hsrc] at h2
        intro k hkn hwk
        have h3 := List.all_eq_true.1 h2 k (List.mem_range.2 hkn)
        rw [hwk] at h3
        simp only [Bool.not_true, Bool.false_or, Bool.or_eq_true, Nat.beq_eq] at h3
        exact h3
    · have h2 := h1.2
      rw [ht] at h2
      have h3 := List.all_eq_true.1 h2 k (List.mem_range.2 hkn)
      rw [hwk] at h3
      simp only [Bool.not_true, Bool.false_or, Bool.or_eq_true, Nat.ble_eq] at h3
      exact h3
  have final : ∀ b a w', (∀ j, j < m → b j = true) → (∀ j, j < ops.size → m ≤ j → b j = false) → Inv ops a0 n Vs w.drew b a w' → if lst then lastOp P ops Q m a w' else Q .normal a w' := by
    intro b a w' hall' hno I
    obtain ⟨x, hx, hv⟩ := I.vals
    refine hend x a w' ((Ext.drew w).trans I.ext) (fun j hj => hx j (hall' j hj)) ⟨fun t v ht => ?_, I.size, I.defers⟩
    unfold endTo at ht
    rw [List.lookup_append] at ht
    have hfind : ∀ m, ((List.range m).reverse.filterMap fun i => (dstOf ops i).map fun t => (t, valOf Vs x i)).lookup t = ((List.range m).reverse.find? fun j => writes ops t j).map (valOf Vs x) := by
      intro m
      induction m with
      | zero => rfl
      | succ m ih =>
        rw [List.range_succ, List.reverse_append]
        simp only [List.reverse_singleton, List.singleton_append, List.filterMap_cons, List.find?_cons]
        cases hdm : dstOf ops m with
        | none => simp only [Option.map_none, writes, hdm]; rw [ih]; rfl
        | some d =>
          simp only [Option.map_some, List.lookup_cons, writes, hdm]
          by_cases e : t = d
          · subst e; simp
          · have h1 : (t == d) = false := by simpa using e
            have h2 : (some d == some t) = false := by simpa using fun c => e c.symm
            rw [h1, h2]
            exact ih
    rw [hfind] at ht
    have hmle : m ≤ ops.size := by omega
    by_cases htn : t < n
    · rw [hv t htn]
      have hlw : lastW ops b t = (List.range m).reverse.find? fun j => writes ops t j := by
        unfold lastW
        cases hff : (List.range m).reverse.find? fun j => writes ops t j with
        | none =>
          refine find_none (fun k hkn => ?_)
          by_cases hkm : k < m
          · have := List.find?_eq_none.1 hff k (by simp; exact hkm)
            simp at this
            simp [this]
          · simp [hno k hkn (by omega)]
        | some j =>
          obtain ⟨h1, h2, h3⟩ := find_some hff
          refine find_last (by omega) (by simp [h2, hall' j h1]) (fun k hkn hp => ?_)
          simp only [Bool.and_eq_true] at hp
          by_cases hkm : k < m
          · exact h3 k hkm hp.1
          · rw [hno k hkn (by omega)] at hp; cases hp.2
      rw [hlw]
      cases hff : (List.range m).reverse.find? fun j => writes ops t j with
      | none => rw [hff] at ht; simp at ht; exact E.get t v ht
      | some j => rw [hff] at ht; simp at ht; exact ht
    · have hff : ((List.range m).reverse.find? fun j => writes ops t j) = none := by
        refine find_none (fun k hkn => ?_)
        cases hwk : writes ops t k with
        | false => rfl
        | true =>
          have h4 := List.all_eq_true.1 hd k (List.mem_range.2 (by omega))
          have h5 : dstOf ops k = some t := by simpa [writes] using hwk
          rw [h5] at h4
          simp [fits] at h4
          omega
      rw [hff] at ht
      simp at ht
      have h6 := E.get t v ht
      have g1 : a0.tmps.getD t undef = undef := by simp [Array.getD_eq_getD_getElem?]; rw [Array.getElem?_eq_none (by rw [E.size]; omega)]; rfl
      have g2 : a.tmps.getD t undef = undef := by simp [Array.getD_eq_getD_getElem?]; rw [Array.getElem?_eq_none (by rw [I.size]; omega)]; rfl
      rw [g2, ← g1]; exact h6
  refine inv_ (List.range ops.size) (fun b a w' => if (lst && b m) = true then Q .normal a w' else Inv ops a0 n Vs w.drew b a w') hT hw hk ?_ ?_ ?_ ?_
  · rw [hlen]
    simp only [List.length_range, beq_self_eq_true, Bool.and_true, beq_iff_eq]
    apply List.ext_getElem
    · simp [lof]
    · intro j h1 h2
      simp [lof] at h1 h2 ⊢
      exact h1
  · show if (lst && false) = true then _ else _
    rw [Bool.and_false, if_neg (by simp)]
    refine ⟨Ext.refl _, E.size, E.defers, fun _ => undef, fun j hj => (by cases hj), fun t _ => ?_⟩
    have : lastW ops (fun _ => false) t = none := find_none (fun k _ => by simp)
    rw [this]
  · intro i hi b a w' I hbi hpre hsuc
    have hi' : i < ops.size := List.mem_range.1 hi
    have hbm : (lst && b m) = false := by
      cases hlst : lst with
      | false => rfl
      | true =>
        rw [hlst] at hmm
        simp only [if_true] at hmm
        by_cases him : i = m
        · subst him; simp [hbi]
        · have := hsuc m (by simp [← hmm]; exact hwl hlst i (by omega))
          simp [this]
    rw [if_neg (by simp [hbm])] at I
    by_cases him : lst = true ∧ i = m
    · obtain ⟨hlst, rfl⟩ := him
      rw [hlst] at hmm
      simp only [if_true] at hmm
      have hall : ∀ j, j < i → b j = true := fun j hj => hpre j (by simp [← hmm]; exact ⟨by omega, hwl hlst j hj⟩)
      have hfin := final b a w' hall (fun j hj1 hj2 => by have : j = i := by omega
                                                          rw [this]; exact hbi) I
      rw [hlst, if_pos rfl] at hfin
      obtain ⟨o, ho⟩ : ∃ o, ops[i]? = some o := ⟨ops[i], by simp [hi']⟩
      refine ⟨o, ho, fun K hKs => ?_⟩
      have hK2 : ∀ a w, Q .normal a w → K a w := fun a w hq => hKs.out _ _ (by dsimp only; rw [if_pos (by simp [hlst, up_self])]; exact hq)
      unfold lastOp at hfin
      rw [ho] at hfin
      simp only at hfin
      split at hfin
      · rename_i hwant
        rw [if_pos hwant]
        exact Oper.wp_mono hK2 hfin
      · rename_i hwant
        rw [if_neg hwant]
        exact hK2 _ _ hfin
    have hil : i < m := by
      cases hlst : lst with
      | false => rw [hlst] at hmm; simp at hmm; omega
      | true => rw [hlst] at hmm; simp at hmm; have : i ≠ m := fun c => him ⟨hlst, c⟩; omega
    obtain ⟨x, hx, hv⟩ := I.vals
    obtain ⟨k1, k2⟩ := key i hi'
    have hpre' : ∀ j, j < ops.size → waits B i j = true → b j = true := fun j hj hwj => hpre j (by simp [hj]; exact hwj)
    have hsuc' : ∀ k, k < ops.size → waits B k i = true → b k = false := fun k hkn hwk => hsuc k (by simp [hkn]; exact hwk)
    have hout : ∀ j, waits B i j = true → j < ops.size := by
      intro j hj
      have h1 := reach_bit hw (i + 1) i (by omega) (by omega) hj
      -- what an operation waits for is one of the region's
      have : ∀ fuel d, d < T.2.length → reachT T.2 j fuel d = true → j < ops.size := by
        intro fuel
        induction fuel with
        | zero => intro d _ h; simp [reachT] at h
        | succ fuel ih =>
          intro d hdl h
          unfold reachT at h
          cases hr : T.2[d]? with
          | none => rw [hr] at h; simp at h
          | some r =>
            rw [hr] at h
            simp only [List.any_eq_true] at h
            obtain ⟨m, hm1, hm2⟩ := h
            have hlt := (baseOk_row hk hr).2 m hm1
            rw [Bool.or_eq_true] at hm2
            rcases hm2 with hm2 | hm2
            · have : m = j := by simpa using hm2
              omega
            · exact ih m (by omega) hm2
      exact this (i + 1) i (by omega) h1
    have hE : Env (envOf ops B l Vs x i) n a := by
      refine ⟨fun t v ht => ?_, I.size, I.defers⟩
      rw [envOf_eq] at ht
      obtain ⟨h1, h2⟩ := lookup_filterMap (f := fun t => match srcOf ops B i t with
        | some j => some (valOf Vs x j)
        | none => l.lookup t) ht
      have h3 := k1 t h2
      by_cases htn : t < n
      · rw [hv t htn]
        cases hsrc : srcOf ops B i t with
        | some j =>
          rw [hsrc] at h1 h3
          obtain ⟨hj1, hj2, hj3⟩ := srcOf_lt hsrc
          have hbj := hpre' j (by omega) hj3
          have : lastW ops b t = some j := by
            refine find_last (by omega) (by simp [hj2, hbj]) (fun k hkn hp => ?_)
            simp only [Bool.and_eq_true] at hp
            rcases h3 k hkn hp.1 with h | h | h
            · exact h
            · subst h; rw [hbi] at hp; cases hp.2
            · rw [hsuc' k hkn h] at hp; cases hp.2
          rw [this]
          simpa using h1
        | none =>
          rw [hsrc] at h1 h3
          have : lastW ops b t = none := by
            refine find_none (fun k hkn => ?_)
            cases hwk : writes ops t k with
            | false => rfl
            | true =>
              rcases h3 k hkn hwk with h | h
              · subst h; rw [hbi]; rfl
              · rw [hsuc' k hkn h]; rfl
          rw [this]
          exact E.get t v h1
      · -- a slot outside the frame: nothing is written there
        have hnone : ∀ k, k < ops.size → writes ops t k = false := by
          intro k hkn
          cases hwk : writes ops t k with
          | false => rfl
          | true =>
            have h4 := List.all_eq_true.1 hd k (List.mem_range.2 hkn)
            have h5 : dstOf ops k = some t := by simpa [writes] using hwk
            rw [h5] at h4
            simp [fits] at h4
            omega
        have hsn : srcOf ops B i t = none := find_none (fun k hkn => by simp [hnone k (by omega)])
        rw [hsn] at h1
        have h6 := E.get t v h1
        have g1 : a0.tmps.getD t undef = undef := by simp [Array.getD_eq_getD_getElem?]; rw [Array.getElem?_eq_none (by rw [E.size]; omega)]; rfl
        have g2 : a.tmps.getD t undef = undef := by simp [Array.getD_eq_getD_getElem?]; rw [Array.getElem?_eq_none (by rw [I.size]; omega)]; rfl
        rw [g2, ← g1]; exact h6
    obtain ⟨o, s, ho, hso, hK⟩ := hs i (List.mem_range.2 hil) x a w' I.ext (fun j hj => hx j (hpre' j (hout j hj) hj)) hE
    refine ⟨o, ho, fun K hKs => ?_⟩
    refine hK K (fun v w2 hext hsv => ?_)
    refine hKs.out _ _ ?_
    dsimp only
    rw [if_neg (by rw [up_ne (by omega)]; simp [hbm])]
    refine ⟨I.ext.trans hext, by cases hod : o.dst <;> simp [Act.put, I.size], by cases hod : o.dst <;> simp [Act.put, I.defers], fun j => if j = i then v else x j, fun j hj => ?_, fun t ht => ?_⟩
    · by_cases e : j = i
      · subst e
        unfold knows
        rw [hso]
        cases s with
        | exact u => trivial
        | rel p => simpa [Spec.ok] using hsv
      · have hb : b j = true := by rw [up_ne e] at hj; exact hj
        have h1 := hx j hb
        unfold knows at h1 ⊢
        cases hj2 : Vs[j]? with
        | none => trivial
        | some s2 =>
          cases s2 with
          | exact u => trivial
          | rel p => rw [hj2] at h1; simp only [if_neg e]; exact hl j p hj2 _ _ _ hext h1
    · rw [put_get (by rw [I.size]; exact ht)]
      have hod : o.dst = dstOf ops i := by simp [dstOf, ho]
      have hval : ∀ j, j ≠ i → valOf Vs (fun j => if j = i then v else x j) j = valOf Vs x j := by
        intro j e
        unfold valOf
        simp only [if_neg e]
      by_cases e : o.dst = some t
      · rw [if_pos e]
        have hwi : writes ops t i = true := by simp [writes, ← hod, e]
        have : lastW ops (up b i) t = some i := by
          refine find_last hi' (by simp [hwi, up_self]) (fun k hkn hp => ?_)
          simp only [Bool.and_eq_true] at hp
          rcases k2 t (by rw [← hod]; exact e) k hkn hp.1 with h | h
          · exact h
          · have e2 : k ≠ i := fun c => by
              subst c
              have hr := reach_bit hw (k + 1) k (by omega) (by omega) h
              -- none waits for itself
              have : ∀ fuel d, d < T.2.length → d ≤ k → reachT T.2 k fuel d = true → False := by
                intro fuel
                induction fuel with
                | zero => intro d _ _ h; simp [reachT] at h
                | succ fuel ih =>
                  intro d hdl hdk h
                  unfold reachT at h
                  cases hr : T.2[d]? with
                  | none => rw [hr] at h; simp at h
                  | some r =>
                    rw [hr] at h
                    simp only [List.any_eq_true] at h
                    obtain ⟨m, hm1, hm2⟩ := h
                    have hlt := (baseOk_row hk hr).2 m hm1
                    rw [Bool.or_eq_true] at hm2
                    rcases hm2 with hm2 | hm2
                    · have : m = k := by simpa using hm2
                      omega
                    · exact ih m (by omega) (by omega) hm2
              exact this _ _ (by omega) (Nat.le_refl _) hr
            rw [up_ne e2] at hp
            rw [hsuc' k hkn h] at hp
            cases hp.2
        rw [this]
        show v = valOf Vs _ i
        unfold valOf
        rw [hso]
        cases s with
        | exact u => simpa [Spec.ok] using hsv
        | rel p => simp
      · rw [if_neg e, hv t ht]
        have : lastW ops (up b i) t = lastW ops b t := by
          unfold lastW
          congr 1
          funext k
          by_cases ek : k = i
          · subst ek
            have : writes ops t k = false := by
              cases h : writes ops t k with
              | false => rfl
              | true => exact absurd (by simpa [writes, ← hod] using h) e
            simp [this]
          · rw [up_ne ek]
        rw [this]
        cases hlw : lastW ops b t with
        | none => rfl
        | some j =>
          have e2 : j ≠ i := fun c => by
            subst c
            have := (find_some hlw).2.1
            rw [hbi] at this
            simp at this
          exact (hval j e2).symm
  · intro b a w' hall I
    have hall' : ∀ j, j < ops.size → b j = true := fun j hj => hall j (by simp [hj])
    cases hlst : lst with
    | false =>
      rw [hlst, Bool.false_and, if_neg (by simp)] at I
      rw [hlst] at hmm
      simp at hmm
      have := final b a w' (fun j hj => hall' j (by omega)) (fun j h1 h2 => by omega) I
      rw [hlst] at this
      exact this
    | true =>
      rw [hlst] at hmm
      simp at hmm
      rw [hlst, Bool.true_and, hall' m (by omega), if_pos rfl] at I
      exact I
theorem free_region {a0 : Act} (T : Bool × List (List Nat × List Nat)) (B : List Nat) (Vs : List Spec) (E : Env l n a0) (hm : P.follows .mixedOrders = true) (hT : rtab .any ops = T) (hw : waitsOk T.2 B = true) (hk : baseOk T.2 (List.range ops.size) = true)
    (hf : freeOk ops B = true) (hd : ((List.range ops.size).all fun i => fits n (dstOf ops i)) = true) (hl : Lasts Vs)
    (hs : ∀ i ∈ List.range ops.size, FStep P ops B l n Vs w.drew Q i)
    (hend : ∀ (x : Nat → Value) (a : Act) (w' : World), Ext w w' → (∀ j, j < ops.size → knows Vs x w' j) → Env (endEnv ops l Vs x) n a → Q .normal a w') : (Code.region id ops true).wp P Q a0 w :=
  free_gen false T B Vs E hm hT hw hk hf hd hl ops.size (by simp) (by simp) hs (fun x a w' h1 h2 h3 => by rw [if_neg (by simp)]; exact hend x a w' h1 h2 h3)
end
end Go.Rill
end
section
namespace Go.Rill
set_option linter.unusedVariables false
set_option linter.unusedSimpArgs false
open Go.RowKit

/-! ### What a type's row in the table says -/
def tyOne (P : Program) (t : TypeId) : Bool :=
  match P.underlying t with
  | some (.struct _) | some (.array ..) | none => false
  | _ => true
def tyAgg (P : Program) (t : TypeId) (k : Nat) : Bool :=
  (match P.underlying t with
  | some (.struct _) | some (.array ..) => true
  | _ => false) && (match P.info? t with | some i => i.size == k | none => false)
def tySize (P : Program) (t : TypeId) (k : Nat) : Bool := match P.info? t with | some i => i.size == k | none => false
def tyFld (P : Program) (s : TypeId) (f : Nat) (k : Nat) : Bool :=
  match P.underlying s with
  | some (.struct fs) => match fs[f]? with
    | some fd => fd.offset == k && (match P.info? fd.type with | some i => i.size != 0 | none => false)
    | none => false
  | _ => false
def tySlice (P : Program) (t e : TypeId) : Bool := match P.underlying t with | some (.slice e') => e' == e | _ => false
def goFn (P : Program) (f : FuncId) : Bool :=
  match P.funcs[f]? with
  | some fn => fn.body.isSome && !(fn.name == "runtime.NumGoroutine")
  | none => false
def zeroOf (P : Program) (t : TypeId) : Option Value := (P.info? t).bind (·.zero)

section
variable {P : Program} {ρ : Operand → Value} {o : Oper} {w : World} {t s T e : TypeId} {A X Y : Operand} {a : Addr} {v u : Value} {g off k : Nat} {cs : Array Value} {fr : Nat × Nat}

theorem add_plain (g off k : Nat) : (⟨g, off, none⟩ : Addr).add k = ⟨g, off + k, none⟩ := by
  unfold Addr.add; split <;> simp_all
theorem cell_of (hg : w.heap[g]? = some (.cells cs T fr)) (hv : cs[off]? = some v) : w.cell? ⟨g, off, none⟩ = some v := by
  simp [World.cell?, hg, hv]
theorem isAgg_one (ht : tyOne P t = true) : (isAgg t).run P w = .ok false w := by
  unfold tyOne at ht
  cases h : P.underlying t with
  | none => rw [h] at ht; cases ht
  | some d => rw [h] at ht; cases d <;> simp_all [isAgg, run_underlying h]
theorem tySize_info (h : tySize P t k = true) : ∃ i, P.info? t = some i ∧ i.size = k := by
  unfold tySize at h
  cases hi : P.info? t with
  | none => rw [hi] at h; cases h
  | some i => rw [hi] at h; exact ⟨i, rfl, by simpa using h⟩
theorem tyAgg_size (h : tyAgg P t k = true) : tySize P t k = true := by
  unfold tyAgg at h; rw [Bool.and_eq_true] at h; exact h.2
theorem tyAgg_und (h : tyAgg P t k = true) : ∃ d, P.underlying t = some d ∧ d.isRow = true := by
  unfold tyAgg at h; rw [Bool.and_eq_true] at h
  cases hu : P.underlying t with
  | none => rw [hu] at h; cases h.1
  | some d => rw [hu] at h; refine ⟨d, rfl, ?_⟩; cases d <;> simp_all [TypeDesc.isRow]
theorem run_size (h : tySize P t k = true) : (sizeOf t).run P w = .ok k w := by
  obtain ⟨i, hi, hs⟩ := tySize_info h
  simp [sizeOf, typeInfo, hi, hs]

theorem run_load1 (ho : o.op = .load t A) (hA : ρ A = .pointer (some a)) (ht : tyOne P t = true) (hc : w.cell? a = some v) : (execOp ρ o).run P w = .ok (.value v) w := by
  have h1 : (isAgg t).run P w = .ok false w := isAgg_one ht
  simp [execOp, ho, hA, Instr.loadAt, Instr.sureAddr, loadVar, h1, hc, go_sem]
theorem run_loadB (ho : o.op = .load t A) (hA : ρ A = .pointer (some ⟨g, off, none⟩)) (ht : tyOne P t = true) (hg : w.heap[g]? = some (.cells cs T fr)) (hv : cs[off]? = some v) : (execOp ρ o).run P w = .ok (.value v) w :=
  run_load1 ho hA ht (cell_of hg hv)
/-- A struct, or an array, of k cells. -/
theorem run_loadN (ho : o.op = .load t A) (hA : ρ A = .pointer (some ⟨g, off, none⟩)) (ht : tyAgg P t k = true) (hg : w.heap[g]? = some (.cells cs T fr)) (hk : off + k ≤ cs.size) :
    (execOp ρ o).run P w = .ok (.value (.agg (cs.extract off (off + k)))) w := by
  obtain ⟨d, hu, hd⟩ := tyAgg_und ht
  obtain ⟨i, hi, hs⟩ := tySize_info (tyAgg_size ht)
  have hl : ((cs.extract off (off + k)).toList).length = k := by simp; omega
  have := run_loadAt_mid (P := P) w g off t (cs.extract off (off + k)).toList d (fun j v hv => cell_of hg (by
    simp [List.getElem?_take, List.getElem?_drop] at hv
    exact hv.2)) hu hd (by rw [hi, hl]; simp [hs])
  rw [Array.toArray_toList] at this
  simp only [execOp, ho, hA, Sem.run_bind, this, Result.andThen_ok]
  rfl
theorem run_loadN' {vs : Array Value} (ho : o.op = .load t A) (hA : ρ A = .pointer (some ⟨g, off, none⟩)) (ht : tyAgg P t k = true) (hg : w.heap[g]? = some (.cells cs T fr)) (hk : Nat.ble (off + k) cs.size = true) (he : ((cs.toList.drop off).take k).toArray = vs) :
    (execOp ρ o).run P w = .ok (.value (.agg vs)) w := by
  subst he
  rw [run_loadN ho hA ht hg (by simpa using hk)]
  congr 3
  apply Array.toList_inj.1
  simp
theorem run_loadAll (ho : o.op = .load t A) (hA : ρ A = .pointer (some ⟨g, 0, none⟩)) (ht : tyAgg P t k = true) (hg : w.heap[g]? = some (.cells cs T fr)) (hk : cs.size = k) :
    (execOp ρ o).run P w = .ok (.value (.agg cs)) w := by
  rw [run_loadN ho hA ht hg (by omega)]
  congr 3
  subst hk
  simp
/-- No wrap. -/
theorem i64_id {x : Int} (h0 : -9223372036854775808 ≤ x) (h1 : x ≤ 9223372036854775807) : IntKind.i64.wrap x = x := by
  have e1 : (2 ^ IntKind.i64.bits : Int) = 18446744073709551616 := rfl
  have e2 : (2 ^ (IntKind.i64.bits - 1) : Int) = 9223372036854775808 := rfl
  have e3 : IntKind.i64.signed = true := rfl
  simp only [IntKind.wrap, e1, e2, e3, Bool.true_and, decide_eq_true_eq]
  split <;> omega
/-- A test that is decided. -/
theorem tst {b b' : Bool} (h : (execOp ρ o).run P w = .ok (.value (.bool b')) w) (hb : b' = b) : (execOp ρ o).run P w = .ok (.value (.bool b)) w := by rw [h, hb]
theorem num {b b' : Int} {kd : IntKind} (h : (execOp ρ o).run P w = .ok (.value (.int kd b')) w) (hb : b' = b) : (execOp ρ o).run P w = .ok (.value (.int kd b)) w := by rw [h, hb]
theorem run_store1 (ho : o.op = .store t A X) (hA : ρ A = .pointer (some ⟨g, off, none⟩)) (hX : ρ X = v) (ht : tySize P t 1 = true) (hg : w.heap[g]? = some (.cells cs T (0, 0))) (hk : off < cs.size) (h1 : v.oneCell' = true) :
    (execOp ρ o).run P w = .ok .skip (w.setRow g (cs.setIfInBounds off v)) := by
  obtain ⟨i, hi, hs⟩ := tySize_info ht
  have h2 := run_storeCells_at P g off T [v] 0 cs w hg (by simp; omega) (by simpa using h1)
  have h3 : (cs.toList.take (off + 0) ++ [v] ++ cs.toList.drop (off + 0 + [v].length)).toArray = cs.setIfInBounds off v := by
    apply Array.toList_inj.1
    simp only [Array.toList_setIfInBounds, Nat.add_zero, List.length_singleton]
    rw [List.set_eq_take_append_cons_drop, if_pos (by simpa using hk)]
    simp
  rw [h3] at h2
  have hv : v.cells = #[v] := by cases v <;> first | rfl | simp [Value.oneCell'] at h1
  simp [execOp, ho, hA, hX, Instr.storeAt, Instr.sureAddr, storeVar, hv, run_size (w := w) ht, h2]
/-- A struct, or an array, of k cells is stored. -/
theorem run_storeN {vs : Array Value} (ho : o.op = .store t A X) (hA : ρ A = .pointer (some ⟨g, off, none⟩)) (hX : ρ X = .agg vs) (ht : tySize P t vs.size = true) (hg : w.heap[g]? = some (.cells cs T (0, 0))) (hk : off + vs.size ≤ cs.size) (h1 : ∀ v ∈ vs.toList, v.oneCell' = true) :
    (execOp ρ o).run P w = .ok .skip (w.setRow g (cs.toList.take off ++ vs.toList ++ cs.toList.drop (off + vs.size)).toArray) := by
  have h2 := run_storeCells_at P g off T vs.toList 0 cs w hg (by simp; omega) h1
  simp only [Nat.add_zero, Array.length_toList] at h2
  simp [execOp, ho, hA, hX, Instr.storeAt, Instr.sureAddr, storeVar, Value.cells, run_size (w := w) ht, h2]
theorem run_store1' {cs' : Array Value} (ho : o.op = .store t A X) (hA : ρ A = .pointer (some ⟨g, off, none⟩)) (hX : ρ X = v) (ht : tySize P t 1 = true) (hg : w.heap[g]? = some (.cells cs T (0, 0))) (hk : Nat.blt off cs.size = true) (h1 : v.oneCell' = true) (he : (cs.toList.set off v).toArray = cs') :
    (execOp ρ o).run P w = .ok .skip (w.setRow g cs') := by
  subst he
  rw [run_store1 ho hA hX ht hg (by simpa using hk) h1]
  congr 2
  apply Array.toList_inj.1
  simp
theorem run_storeN' {vs cs' : Array Value} {m : Nat} (ho : o.op = .store t A X) (hA : ρ A = .pointer (some ⟨g, off, none⟩)) (hX : ρ X = .agg vs) (ht : tySize P t m = true) (hm : vs.size = m) (hg : w.heap[g]? = some (.cells cs T (0, 0))) (hk : Nat.ble (off + m) cs.size = true) (h1 : vs.toList.all (·.oneCell') = true)
    (he : (cs.toList.take off ++ vs.toList ++ cs.toList.drop (off + m)).toArray = cs') :
    (execOp ρ o).run P w = .ok .skip (w.setRow g cs') := by
  subst he
  subst hm
  exact run_storeN ho hA hX ht hg (by simpa using hk) (fun v hv => List.all_eq_true.1 h1 v hv)
theorem run_box (ho : o.op = .box t X) (hX : ρ X = v) : (execOp ρ o).run P w = .ok (.value (.pointer (some ⟨w.heap.size, 0, none⟩))) (w.alloc (.cells v.cells t)) := by
  simp only [execOp, ho, hX]
  rfl
theorem run_boxN (ho : o.op = .box t X) (hX : ρ X = .agg cs) : (execOp ρ o).run P w = .ok (.value (.pointer (some ⟨w.heap.size, 0, none⟩))) (w.alloc (.cells cs t)) := run_box ho hX
theorem run_alloc (ho : o.op = .alloc t) (hz : zeroOf P t = some v) : (execOp ρ o).run P w = .ok (.value (.pointer (some ⟨w.heap.size, 0, none⟩))) (w.alloc (.cells v.cells t)) := by
  unfold zeroOf at hz
  cases hi : P.info? t with
  | none => rw [hi] at hz; cases hz
  | some i =>
    rw [hi] at hz
    simp only [Option.bind_some] at hz
    have h1 : (zeroValue t).run P w = .ok v w := by simp [zeroValue, typeInfo, hi, hz]
    simp only [execOp, ho, Instr.alloc, Sem.run_bind, h1, Result.andThen_ok]
    rfl
theorem run_allocN (ho : o.op = .alloc t) (hz : zeroOf P t = some (.agg cs)) : (execOp ρ o).run P w = .ok (.value (.pointer (some ⟨w.heap.size, 0, none⟩))) (w.alloc (.cells cs t)) := run_alloc ho hz
theorem run_fieldAddr {f : Nat} (ho : o.op = .fieldAddr s A f) (hA : ρ A = .pointer (some ⟨g, off, none⟩)) (hf : tyFld P s f k = true) :
    (execOp ρ o).run P w = .ok (.value (.pointer (some ⟨g, off + k, none⟩))) w := by
  unfold tyFld at hf
  cases hu : P.underlying s with
  | none => rw [hu] at hf; cases hf
  | some d =>
    rw [hu] at hf
    cases d with
    | struct fs =>
      simp only at hf
      cases hfd : fs[f]? with
      | none => rw [hfd] at hf; cases hf
      | some fd =>
        rw [hfd] at hf
        simp only [Bool.and_eq_true, beq_iff_eq] at hf
        obtain ⟨h1, h2⟩ := hf
        cases hi : P.info? fd.type with
        | none => rw [hi] at h2; cases h2
        | some i =>
          rw [hi] at h2
          have h3 : i.size ≠ 0 := by simpa using h2
          subst h1
          simp [execOp, ho, hA, Instr.fieldAt, Instr.sureAddr, run_underlying hu, hfd, fieldPlace, sizeOf, typeInfo, hi, h3, add_plain]
    | _ => cases hf
theorem run_len {n c : Nat} {b : Option Addr} {ts : List TypeId} {args : List Operand} (ho : o.op = .call { callee := .builtin .len, args := args.toArray, argTypes := ts.toArray }) (ha : args = [X]) (hts : ts = [t]) (hX : ρ X = .slice b n c) (ht : tySlice P t e = true) :
    (execOp ρ o).run P w = .ok (.value (.int .i64 n)) w := by
  subst ha hts
  unfold tySlice at ht
  cases hu : P.underlying t with
  | none => rw [hu] at ht; cases ht
  | some d =>
    rw [hu] at ht
    cases d with
    | slice e' => simp [execOp, ho, resolve, invoke, builtin, Builtin.len_, hX, run_underlying hu, goInt]
    | _ => cases ht
theorem run_index {n c i : Nat} {kd : IntKind} {x : Int} {sz : Nat} (ho : o.op = .indexAddr t X Y) (hX : ρ X = .slice (some ⟨g, off, none⟩) n c) (hY : ρ Y = .int kd x) (hx : x = i) (hi : i < n) (ht : tySlice P t e = true) (hs : tySize P e sz = true) :
    (execOp ρ o).run P w = .ok (.value (.pointer (some ⟨g, off + i * sz, none⟩))) w := by
  subst hx
  unfold tySlice at ht
  cases hu : P.underlying t with
  | none => rw [hu] at ht; cases ht
  | some d =>
    rw [hu] at ht
    cases d with
    | slice e' =>
      have he : e' = e := by simpa using ht
      subst he
      have h1 : (0 : Int) ≤ (i : Int) ∧ (i : Int) < (n : Int) := by omega
      simp [execOp, ho, hX, hY, Instr.indexAt, asIntOf, run_underlying hu, hi, run_size (w := w) hs, add_plain]
    | _ => cases ht
theorem run_call {f : FuncId} {args : List Operand} {ts : Array TypeId} (ho : o.op = .call { callee := .value (.func f), args := args.toArray, argTypes := ts }) (hρ : ρ (.func f) = .func (.func f) #[] #[]) (hf : goFn P f = true) :
    (execOp ρ o).run P w = .ok (.enter f (args.map ρ).toArray) w := by
  unfold goFn at hf
  cases h : P.funcs[f]? with
  | none => rw [h] at hf; cases hf
  | some fn =>
    rw [h] at hf
    simp only [Bool.and_eq_true, Bool.not_eq_true'] at hf
    obtain ⟨h1, h2⟩ := hf
    have h3 : ¬ fn.body = none := by cases hb : fn.body <;> simp_all
    have h4 : ¬ fn.name = "runtime.NumGoroutine" := by simpa using h2
    simp [execOp, ho, resolve, hρ, Deferred.ofValue, invoke, callFunc, h, h4, h3, program, Sem.run]
end

/-! ### Slices of literals, structs of literals -/
section
variable {P : Program} {ρ : Operand → Value} {o : Oper} {w : World} {t e : TypeId} {cs : Array Value}
end
end Go.Rill
end
section
namespace Go.Rill
set_option linter.unusedVariables false
set_option linter.unusedSimpArgs false
open Go.RowKit

/-- A thing in memory: its blocks, and what is so of them. -/
structure Ent where
  foot : List Nat
  ok : World → Prop
  st : ∀ w w' : World, (∀ g ∈ foot, w'.heap[g]? = w.heap[g]?) → ok w → ok w'
/-- One block. -/
def Ent.blk (g : Nat) (o : Obj) : Ent := ⟨[g], fun w => w.heap[g]? = some o, fun w w' h k => (h g (by simp)).trans k⟩
/-- All blocks but these are as they were. -/
structure Held (F : Nat → Prop) (w w' : World) : Prop where
  size : w.heap.size ≤ w'.heap.size
  block : ∀ g, g < w.heap.size → ¬ F g → w'.heap[g]? = w.heap[g]?
def feet (L : List Ent) (g : Nat) : Prop := ∃ e ∈ L, g ∈ e.foot
def none' : Nat → Prop := fun _ => False
/-- The streams are as they were, and all blocks but these. -/
structure Ch (F : Nat → Prop) (w w' : World) : Prop where
  os : w'.os = w.os
  tape : w'.tape = w.tape
  output : w'.output = w.output
  held : Held F w w'
structure Mem (w0 : World) (O : Nat → Prop) (L : List Ent) (Φ : World → Prop) (w : World) : Prop where
  ch : Ch O w0 w
  ents : ∀ e ∈ L, e.ok w
  lt : ∀ e ∈ L, ∀ g ∈ e.foot, g < w.heap.size
  own : ∀ e ∈ L, ∀ g ∈ e.foot, w0.heap.size ≤ g ∨ O g
  apart : L.Pairwise fun e e' => ∀ g ∈ e.foot, g ∉ e'.foot
  safe : ∀ w', Held (feet L) w w' → Φ w'

section
variable {w0 w w' : World} {O F F' : Nat → Prop} {L L' : List Ent} {Φ Ψ : World → Prop} {e : Ent} {i g : Nat}
theorem Held.refl (F : Nat → Prop) (w : World) : Held F w w := ⟨Nat.le_refl _, fun _ _ _ => rfl⟩
theorem Held.trans {a b c : World} (h : Held F a b) (k : Held F b c) : Held F a c :=
  ⟨Nat.le_trans h.size k.size, fun g hg hL => (k.block g (Nat.lt_of_lt_of_le hg h.size) hL).trans (h.block g hg hL)⟩
theorem Held.mono (h : Held F w w') (hF : ∀ g, g < w.heap.size → F g → F' g) : Held F' w w' := ⟨h.size, fun g hg hn => h.block g hg (fun c => hn (hF g hg c))⟩
theorem Held.of_ext (h : Ext w w') : Held F w w' := ⟨h.size, fun g hg _ => h.block g hg⟩
theorem Ch.refl (F : Nat → Prop) (w : World) : Ch F w w := ⟨rfl, rfl, rfl, .refl _ _⟩
theorem Ch.trans {a b c : World} (h : Ch F a b) (k : Ch F b c) : Ch F a c := ⟨k.os.trans h.os, k.tape.trans h.tape, k.output.trans h.output, h.held.trans k.held⟩
theorem Ch.mono (h : Ch F w w') (hF : ∀ g, g < w.heap.size → F g → F' g) : Ch F' w w' := ⟨h.os, h.tape, h.output, h.held.mono hF⟩
theorem Ch.of_ext (h : Ext w w') : Ch F w w' := ⟨h.os, h.tape, h.output, .of_ext h⟩
theorem Ch.ext (h : Ch none' w w') : Ext w w' := ⟨h.os, h.tape, h.output, h.held.size, fun g hg => h.held.block g hg id⟩
theorem Ch.setRow {g : Nat} {cs : Array Value} (hg : F g) : Ch F w (w.setRow g cs) := ⟨rfl, rfl, rfl, by simp, fun k hk hn => setRow_other w g k cs (fun e => hn (e ▸ hg))⟩
theorem Mem.fact (M : Mem w0 O L Φ w) : Φ w := M.safe w (Held.refl _ _)
theorem Mem.ent (M : Mem w0 O L Φ w) {e : Ent} (i : Nat) (h : L[i]? = some e) : e.ok w := M.ents e (List.mem_of_getElem? h)
theorem Mem.row (M : Mem w0 O L Φ w) {i g : Nat} {o : Obj} (h : L[i]? = some (.blk g o)) : w.heap[g]? = some o := M.ent i h
/-- The one law of change. -/
theorem Mem.swap (M : Mem w0 O L Φ w) (hc : Ch (feet L) w w') (h1 : ∀ e ∈ L', e.ok w') (h2 : ∀ e ∈ L', ∀ g ∈ e.foot, g < w'.heap.size) (h3 : ∀ e ∈ L', ∀ g ∈ e.foot, feet L g ∨ w.heap.size ≤ g) (h4 : L'.Pairwise fun e e' => ∀ g ∈ e.foot, g ∉ e'.foot) : Mem w0 O L' Φ w' := by
  refine ⟨⟨hc.os.trans M.ch.os, hc.tape.trans M.ch.tape, hc.output.trans M.ch.output, ⟨Nat.le_trans M.ch.held.size hc.held.size, fun g hg hO => ?_⟩⟩, h1, h2, fun e he g hg => ?_, h4, fun w2 h => M.safe w2 ⟨Nat.le_trans hc.held.size h.size, fun g hg hn => ?_⟩⟩
  · rw [hc.held.block g (Nat.lt_of_lt_of_le hg M.ch.held.size) (fun ⟨e, he, hge⟩ => ?_)]
    · exact M.ch.held.block g hg hO
    · rcases M.own e he g hge with h | h
      · omega
      · exact hO h
  · rcases h3 e he g hg with ⟨e', he', hg'⟩ | h
    · exact M.own e' he' g hg'
    · exact .inl (Nat.le_trans M.ch.held.size h)
  · rw [h.block g (Nat.lt_of_lt_of_le hg hc.held.size) (fun ⟨e, he, hge⟩ => ?_)]
    · exact hc.held.block g hg hn
    · rcases h3 e he g hge with h | h
      · exact hn h
      · omega
theorem Mem.keep (M : Mem w0 O L Φ w) (he : e ∈ L) (h : ∀ g ∈ e.foot, w'.heap[g]? = w.heap[g]?) : e.ok w' := e.st w w' h (M.ents e he)
theorem Mem.ext (M : Mem w0 O L Φ w) (h : Ext w w') : Mem w0 O L Φ w' :=
  M.swap (.of_ext h) (fun e he => M.keep he fun g hg => h.block g (M.lt e he g hg)) (fun e he g hg => Nat.lt_of_lt_of_le (M.lt e he g hg) h.size) (fun e he g hg => .inl ⟨e, he, hg⟩) M.apart
/-- A new thing. -/
theorem Mem.adopt (M : Mem w0 O L Φ w) (h : Ext w w') (e : Ent) (hok : e.ok w') (hf : ∀ g ∈ e.foot, w.heap.size ≤ g ∧ g < w'.heap.size) : Mem w0 O (e :: L) Φ w' := by
  have M' := M.ext h
  refine M.swap (.of_ext h) (fun e' he => ?_) (fun e' he g hg => ?_) (fun e' he g hg => ?_) (List.pairwise_cons.2 ⟨fun e' he g hg hg' => ?_, M.apart⟩)
  · rcases List.mem_cons.1 he with rfl | he
    · exact hok
    · exact M'.ents e' he
  · rcases List.mem_cons.1 he with rfl | he
    · exact (hf g hg).2
    · exact M'.lt e' he g hg
  · rcases List.mem_cons.1 he with rfl | he
    · exact .inr (hf g hg).1
    · exact .inl ⟨e', he, hg⟩
  · have := M.lt e' he g hg'
    have := (hf g hg).1
    omega
theorem Mem.alloc (M : Mem w0 O L Φ w) (o : Obj) : Mem w0 O (.blk w.heap.size o :: L) Φ (w.alloc o) :=
  M.adopt (Ext.alloc w o) _ (by show (w.heap.push o)[w.heap.size]? = some o; simp) (fun g hg => by simp [Ent.blk] at hg; subst hg; simp)
/-- A thing changes, and takes new blocks at most. -/
theorem Mem.change (M : Mem w0 O L Φ w) (hi : L[i]? = some e) (e' : Ent) (hc : Ch (fun g => g ∈ e.foot) w w') (hok : e'.ok w') (hf : ∀ g ∈ e'.foot, g < w'.heap.size ∧ (g ∈ e.foot ∨ w.heap.size ≤ g)) : Mem w0 O (L.set i e') Φ w' := by
  have hL : i < L.length := (List.getElem?_eq_some_iff.1 hi).1
  have hLi : L[i] = e := (List.getElem?_eq_some_iff.1 hi).2
  have he : e ∈ L := List.mem_of_getElem? hi
  have hap : ∀ j (hj : j < L.length), j ≠ i → ∀ g ∈ e.foot, g ∉ L[j].foot := by
    intro j hj hne g hg hg'
    have hp := List.pairwise_iff_getElem.1 M.apart
    rcases Nat.lt_or_gt_of_ne hne with lt | lt
    · exact hp j i hj hL lt g hg' (by rw [hLi]; exact hg)
    · exact hp i j hL hj lt g (by rw [hLi]; exact hg) hg'
  have hold : ∀ j (hj : j < L.length), j ≠ i → L[j].ok w' := fun j hj hne => M.keep (List.getElem_mem hj) fun g hg => hc.held.block g (M.lt _ (List.getElem_mem hj) g hg) (fun hge => hap j hj hne g hge hg)
  have hcase : ∀ x ∈ L.set i e', x = e' ∨ ∃ j, ∃ hj : j < L.length, j ≠ i ∧ x = L[j] := by
    intro x hx
    obtain ⟨j, hj, rfl⟩ := List.getElem_of_mem hx
    by_cases c : i = j
    · subst c; exact .inl (by simp)
    · exact .inr ⟨j, by simpa using hj, fun h => c h.symm, by rw [List.getElem_set_ne c]⟩
  refine M.swap ⟨hc.os, hc.tape, hc.output, hc.held.mono fun g _ h => ⟨e, he, h⟩⟩ (fun x hx => ?_) (fun x hx g hg => ?_) (fun x hx g hg => ?_) ?_
  · rcases hcase x hx with rfl | ⟨j, hj, hne, rfl⟩
    · exact hok
    · exact hold j hj hne
  · rcases hcase x hx with rfl | ⟨j, hj, hne, rfl⟩
    · exact (hf g hg).1
    · exact Nat.lt_of_lt_of_le (M.lt _ (List.getElem_mem hj) g hg) hc.held.size
  · rcases hcase x hx with rfl | ⟨j, hj, hne, rfl⟩
    · rcases (hf g hg).2 with h | h
      · exact .inl ⟨e, he, h⟩
      · exact .inr h
    · exact .inl ⟨_, List.getElem_mem hj, hg⟩
  · rw [List.pairwise_iff_getElem]
    intro a b ha hb hab g hg hg'
    simp only [List.length_set] at ha hb
    by_cases c : i = a
    · subst c
      rw [List.getElem_set_self] at hg
      rw [List.getElem_set_ne (by omega)] at hg'
      rcases (hf g hg).2 with h | h
      · exact hap b hb (by omega) g h hg'
      · have := M.lt _ (List.getElem_mem hb) g hg'; omega
    · rw [List.getElem_set_ne c] at hg
      by_cases d : i = b
      · subst d
        rw [List.getElem_set_self] at hg'
        rcases (hf g hg').2 with h | h
        · exact hap a ha (by omega) g h hg
        · have := M.lt _ (List.getElem_mem ha) g hg; omega
      · rw [List.getElem_set_ne d] at hg'
        exact List.pairwise_iff_getElem.1 M.apart a b ha hb hab g hg hg'
theorem Mem.set (M : Mem w0 O L Φ w) {i g : Nat} {cs cs' : Array Value} {T : TypeId} {fr : Nat × Nat} (h : L[i]? = some (.blk g (.cells cs T fr))) : Mem w0 O (L.set i (.blk g (.cells cs' T fr))) Φ (w.setRow g cs') :=
  M.change h _ (Ch.setRow (by simp [Ent.blk])) (setRow_heap w g cs cs' T fr (M.row h)) (fun k hk => ⟨by simpa using M.lt _ (List.mem_of_getElem? h) k (by simpa [Ent.blk] using hk), .inl (by simpa [Ent.blk] using hk)⟩)
/-- Some of the things alone. -/
theorem Mem.sub (M : Mem w0 O L Φ w) (h : L'.Sublist L) : Mem w0 O L' Φ w :=
  ⟨M.ch, fun e he => M.ents e (h.mem he), fun e he => M.lt e (h.mem he), fun e he => M.own e (h.mem he), M.apart.sublist h, fun w' h' => M.safe w' (h'.mono fun g _ ⟨e, he, hg⟩ => ⟨e, h.mem he, hg⟩)⟩
theorem Mem.perm (M : Mem w0 O L Φ w) (h : L'.Perm L) : Mem w0 O L' Φ w :=
  ⟨M.ch, fun e he => M.ents e (h.mem_iff.1 he), fun e he => M.lt e (h.mem_iff.1 he), fun e he => M.own e (h.mem_iff.1 he), (h.pairwise_iff (fun hr g hg hg' => hr g hg' hg)).2 M.apart, fun w' h' => M.safe w' (h'.mono fun g _ ⟨e, he, hg⟩ => ⟨e, h.mem_iff.1 he, hg⟩)⟩
/-- The same thing, said otherwise. -/
theorem Mem.view (M : Mem w0 O L Φ w) (hi : L[i]? = some e) (e' : Ent) (hok : e.ok w → e'.ok w) (hf : ∀ g ∈ e'.foot, g ∈ e.foot) : Mem w0 O (L.set i e') Φ w :=
  M.change hi e' (.refl _ _) (hok (M.ent i hi)) fun g hg => ⟨M.lt e (List.mem_of_getElem? hi) g (hf g hg), .inl (hf g hg)⟩
/-- More that is known. -/
theorem Mem.and (M : Mem w0 O L Φ w) (h : ∀ w', Held (feet L) w w' → Ψ w') : Mem w0 O L (fun w => Φ w ∧ Ψ w) w := ⟨M.ch, M.ents, M.lt, M.own, M.apart, fun w' h' => ⟨M.safe w' h', h w' h'⟩⟩
theorem Mem.imp (M : Mem w0 O L Φ w) (h : ∀ w', Φ w' → Ψ w') : Mem w0 O L Ψ w := ⟨M.ch, M.ents, M.lt, M.own, M.apart, fun w' h' => h w' (M.safe w' h')⟩
/-- A thing of the caller's, for a call that may change it. -/
theorem Mem.give (e : Ent) (hok : e.ok w) (hlt : ∀ g ∈ e.foot, g < w.heap.size) (hΦ : ∀ w', Held (fun g => g ∈ e.foot) w w' → Φ w') : Mem w (fun g => g ∈ e.foot) [e] Φ w :=
  ⟨.refl _ _, fun x hx => by simp at hx; subst hx; exact hok, fun x hx => by simp at hx; subst hx; exact hlt, fun x hx g hg => by simp at hx; subst hx; exact .inr hg, by simp, fun w' h' => hΦ w' (h'.mono fun g _ ⟨x, hx, hg⟩ => by simp at hx; subst hx; exact hg)⟩
end

/-! ### Slices -/
/-- A slice that may grow: it is the call's own. -/
theorem rowSt (t : TypeId) (sz : Nat) (v : Value) (n : Nat) (xs : List Value) (w w' : World) (h : ∀ g ∈ v.ownBlock.toList, w'.heap[g]? = w.heap[g]?) (k : w.ownsRow 0 t sz v n xs) : w'.ownsRow 0 t sz v n xs := by
  obtain ⟨h1, h2⟩ := k
  refine ⟨h1, ?_⟩
  rcases h2 with h2 | ⟨g, cap, cur, rfl, h3, h4, h5⟩
  · exact .inl h2
  · exact .inr ⟨g, cap, cur, rfl, h3, (h g (by simp [Value.ownBlock])).trans h4, h5⟩
def Ent.row (t : TypeId) (sz : Nat) (v : Value) (n : Nat) (xs : List Value) : Ent := ⟨v.ownBlock.toList, fun w => w.ownsRow 0 t sz v n xs, rowSt t sz v n xs⟩
/-- What a slice reads as. -/
def Reads (sz : Nat) (w : World) (v : Value) (n : Nat) (xs : List Value) : Prop :=
  xs.length = n * sz ∧ ((v = .slice none 0 0 ∧ n = 0) ∨ ∃ g off cap, v = .slice (some ⟨g, off, none⟩) n cap ∧ n ≤ cap ∧ cap ≤ maxLen ∧ g < w.heap.size ∧ ∀ j u, xs[j]? = some u → w.cell? ⟨g, off + j, none⟩ = some u)
section
variable {w w' : World} {t : TypeId} {sz n : Nat} {v : Value} {xs : List Value} {F : Nat → Prop}
theorem ownsRow_reads (h : w.ownsRow 0 t sz v n xs) : Reads sz w v n xs := by
  refine ⟨h.1, ?_⟩
  rcases h.2 with h2 | ⟨g, cap, cur, rfl, h3, h4, h5, h6, h7⟩
  · exact .inl h2
  · refine .inr ⟨g, 0, cap, rfl, h5, h6, (Array.getElem?_eq_some_iff.1 h4).1, fun j u hu => ?_⟩
    have := h.cells (g := g) rfl j u hu
    rwa [add_plain] at this
theorem Mem.reads {w0 : World} {O : Nat → Prop} {L : List Ent} {Φ : World → Prop} (M : Mem w0 O L Φ w) (i : Nat) (h : L[i]? = some (.row t sz v n xs)) : Reads sz w v n xs := ownsRow_reads (M.ent i h)
theorem Reads.held (h : Reads sz w v n xs) (H : Held F w w') (hF : ∀ g, v.ownBlock = some g → ¬ F g) : Reads sz w' v n xs := by
  refine ⟨h.1, ?_⟩
  rcases h.2 with h2 | ⟨g, off, cap, rfl, h3, h4, h5, h6⟩
  · exact .inl h2
  · exact .inr ⟨g, off, cap, rfl, h3, h4, Nat.lt_of_lt_of_le h5 H.size, fun j u hu => (World.cell?_of_block (w := w) (H.block g h5 (hF g rfl))).trans (h6 j u hu)⟩
theorem Reads.ext (h : Reads sz w v n xs) (H : Ext w w') : Reads sz w' v n xs := h.held (F := none') (.of_ext H) fun _ _ => id
theorem Reads.slice (h : Reads sz w v n xs) : ∃ b c, v = .slice b n c := by
  rcases h.2 with ⟨rfl, rfl⟩ | ⟨g, off, cap, rfl, _⟩
  · exact ⟨_, _, rfl⟩
  · exact ⟨_, _, rfl⟩
end
end Go.Rill
end
section
namespace Go.Rill
set_option linter.unusedVariables false
set_option linter.unusedSimpArgs false
open Go.RowKit

/-- These things are there, each with its own blocks. -/
structure Has (w : World) (L : List Ent) : Prop where
  ents : ∀ e ∈ L, e.ok w
  lt : ∀ e ∈ L, ∀ g ∈ e.foot, g < w.heap.size
  apart : L.Pairwise fun e e' => ∀ g ∈ e.foot, g ∉ e'.foot
/-- A call's contract: of the things it is given it makes others; what it hands on; what is known. -/
def Does {α : Type} (P : Program) (f : FuncId) (args : List Value) (w : World) (ins : List Ent) (val : α → Value) (outs : α → List Ent) (p : α → Prop) : Prop :=
  Calls P f args.toArray w fun en w' => ∃ x, en = .returned (val x) ∧ Ch (feet ins) w w' ∧ Has w' (outs x) ∧ (∀ g, feet (outs x) g → feet ins g ∨ w.heap.size ≤ g) ∧ p x
/-- .. of a call that changes nothing, and hands on just this. -/
def Gives (P : Program) (f : FuncId) (args : List Value) (w : World) (v : Value) : Prop := Does P f args w [] (fun _ : Unit => v) (fun _ => []) (fun _ => True)
section
variable {w0 w w' : World} {O : Nat → Prop} {L L' ins rest outs : List Ent} {Φ Ψ : World → Prop} {e : Ent} {i g : Nat}
theorem Mem.has (M : Mem w0 O L Φ w) : Has w L := ⟨M.ents, M.lt, M.apart⟩
theorem Has.nil (w : World) : Has w [] := ⟨fun _ h => (by cases h), fun _ h => (by cases h), .nil⟩
theorem feet_nil {g : Nat} : ¬ feet [] g := fun ⟨_, h, _⟩ => by cases h
theorem feet_one {e : Ent} {g : Nat} : feet [e] g ↔ g ∈ e.foot := ⟨fun ⟨x, h, hg⟩ => by simp at h; subst h; exact hg, fun h => ⟨e, by simp, h⟩⟩
theorem feet_app {A B : List Ent} {g : Nat} : feet (A ++ B) g ↔ feet A g ∨ feet B g := by
  constructor
  · rintro ⟨e, he, hg⟩
    rcases List.mem_append.1 he with h | h
    · exact .inl ⟨e, h, hg⟩
    · exact .inr ⟨e, h, hg⟩
  · rintro (⟨e, he, hg⟩ | ⟨e, he, hg⟩)
    · exact ⟨e, List.mem_append_left _ he, hg⟩
    · exact ⟨e, List.mem_append_right _ he, hg⟩
/-- At a call's begin. -/
theorem Mem.begin (h : Has w ins) (hΦ : ∀ w', Held (feet ins) w w' → Φ w') : Mem w (feet ins) ins Φ w := ⟨.refl _ _, h.ents, h.lt, fun e he g hg => .inr ⟨e, he, hg⟩, h.apart, hΦ⟩
theorem Has.sub (h : Has w L) (hs : L'.Sublist L) : Has w L' := ⟨fun e he => h.ents e (hs.mem he), fun e he => h.lt e (hs.mem he), h.apart.sublist hs⟩
/-- At a call's end. -/
theorem Mem.out (M : Mem w0 (feet ins) L Φ w) (hs : outs.Sublist L) : Ch (feet ins) w0 w ∧ Has w outs ∧ (∀ g, feet outs g → feet ins g ∨ w0.heap.size ≤ g) :=
  ⟨M.ch, M.has.sub hs, fun g ⟨e, he, hg⟩ => (M.own e (hs.mem he) g hg).symm⟩
theorem cons_erase_perm {α : Type} : ∀ (l : List α) (i : Nat) (h : i < l.length), (l[i] :: l.eraseIdx i).Perm l
  | x :: l, 0, _ => .refl _
  | x :: l, i + 1, h => (List.Perm.swap x _ _).trans ((cons_erase_perm l i (by simpa using h)).cons x)
/-- To the front. -/
theorem Mem.pull (M : Mem w0 O L Φ w) (i : Nat) (h : L[i]? = some e) : Mem w0 O (e :: L.eraseIdx i) Φ w := by
  obtain ⟨hi, he⟩ := List.getElem?_eq_some_iff.1 h
  subst he
  exact M.perm (cons_erase_perm L i hi)
theorem Mem.call (M : Mem w0 O (ins ++ rest) Φ w) (hc : Ch (feet ins) w w') (ho : Has w' outs) (hf : ∀ g, feet outs g → feet ins g ∨ w.heap.size ≤ g) : Mem w0 O (outs ++ rest) Φ w' := by
  have hap := List.pairwise_append.1 M.apart
  have hrest : ∀ e ∈ rest, ∀ g ∈ e.foot, w'.heap[g]? = w.heap[g]? := fun e he g hg => hc.held.block g (M.lt e (List.mem_append_right _ he) g hg) (fun ⟨x, hx, hg'⟩ => hap.2.2 x hx e he g hg' hg)
  refine M.swap (hc.mono fun g _ h => feet_app.2 (.inl h)) (fun e he => ?_) (fun e he g hg => ?_) (fun e he g hg => ?_) (List.pairwise_append.2 ⟨ho.apart, hap.2.1, fun a ha b hb g hg hg' => ?_⟩)
  · rcases List.mem_append.1 he with h | h
    · exact ho.ents e h
    · exact M.keep (List.mem_append_right _ h) (hrest e h)
  · rcases List.mem_append.1 he with h | h
    · exact ho.lt e h g hg
    · exact Nat.lt_of_lt_of_le (M.lt e (List.mem_append_right _ h) g hg) hc.held.size
  · rcases List.mem_append.1 he with h | h
    · exact (hf g ⟨e, h, hg⟩).imp (fun h => feet_app.2 (.inl h)) id
    · exact .inl (feet_app.2 (.inr ⟨e, h, hg⟩))
  · rcases hf g ⟨a, ha, hg⟩ with ⟨x, hx, hgx⟩ | h
    · exact hap.2.2 x hx b hb g hgx hg'
    · have := M.lt b (List.mem_append_right _ hb) g hg'
      omega
/-- New things, behind a region. -/
theorem Mem.adopts (M : Mem w0 O L Φ w) (h : Ext w w') (ho : Has w' outs) (hf : ∀ g, feet outs g → w.heap.size ≤ g) : Mem w0 O (outs ++ L) Φ w' :=
  Mem.call (ins := []) (by simpa using M) (.of_ext h) ho fun g hg => .inr (hf g hg)
theorem Has.ext (h : Has w L) (hx : Ext w w') : Has w' L := ⟨fun e he => e.st w w' (fun g hg => hx.block g (h.lt e he g hg)) (h.ents e he), fun e he g hg => Nat.lt_of_lt_of_le (h.lt e he g hg) hx.size, h.apart⟩
theorem Reads.held0 {sz n : Nat} {v : Value} {xs : List Value} (h : Reads sz w v n xs) (H : Held (feet []) w w') : Reads sz w' v n xs := h.held H fun _ _ => feet_nil
end
/-- What a call of a region of open order hands on. -/
def Came {α : Type} (B : Nat) (val : α → Value) (outs : α → List Ent) (p : α → Prop) : Spec := .rel fun w v => ∃ x, v = val x ∧ Has w (outs x) ∧ (∀ g, feet (outs x) g → B ≤ g) ∧ p x
theorem Came.last {α : Type} {B : Nat} {val : α → Value} {outs : α → List Ent} {p : α → Prop} {q : World → Value → Prop} (h : Came B val outs p = .rel q) : ∀ w w' v, Ext w w' → q w v → q w' v := by
  unfold Came at h
  injection h with h
  subst h
  rintro w w' v hx ⟨x, h1, h2, h3⟩
  exact ⟨x, h1, h2.ext hx, h3⟩
def ExtCall (P : Program) (f : FuncId) (args : Array Value) (w : World) (s : Spec) : Prop := Calls P f args w fun e w' => ∃ v, e = .returned v ∧ (Ext w w' ∧ s.ok w' v)
theorem Does.ext {α : Type} {P : Program} {f : FuncId} {args : List Value} {w : World} {val : α → Value} {outs : α → List Ent} {p : α → Prop} {B : Nat} (h : Does P f args w [] val outs p) (hB : B ≤ w.heap.size) : ExtCall P f args.toArray w (Came B val outs p) :=
  h.mono fun en w' ⟨x, h1, h2, h3, h4, h5⟩ => ⟨_, h1, (h2.mono fun g _ h => (feet_nil h).elim : Ch none' w w').ext, x, rfl, h3, fun g hg => (h4 g hg).elim (fun h => (feet_nil h).elim) fun h => Nat.le_trans hB h, h5⟩
theorem Gives.ext {P : Program} {f : FuncId} {args : List Value} {w : World} {v : Value} (h : Gives P f args w v) : ExtCall P f args.toArray w (.exact v) :=
  h.mono fun en w' ⟨x, h1, h2, h3, h4, h5⟩ => ⟨_, h1, (h2.mono fun g _ h => (feet_nil h).elim : Ch none' w w').ext, rfl⟩

section
variable {P : Program} {ops : Array Oper} {Q : Exit → Act → World → Prop} {l : List (Nat × Value)} {n : Nat} {a : Act} {w w' w0 : World} {rest : List Oper} {o : Oper} {v : Value} {O : Nat → Prop} {L L' ins R : List Ent} {Φ : World → Prop}
/-- New memory: its block gets a name. -/
theorem snew {d : Tmp} {ob : Obj} (f : Nat → Value) (E : Env l n a) (M : Mem w0 O L Φ w) (hd : o.dst = some d) (hn : Nat.blt d n = true) (hc : covers l o = true) (hg : guardIn ops l o = true) (hw : wantedL ops l o = true)
    (h : (execOp (evL l) o).run P w = .ok (.value (f w.heap.size)) (w.alloc ob))
    (kk : ∀ g a' w', Mem w0 O (.blk g ob :: L) Φ w' → Env ((d, f g) :: l) n a' → wpList P ops Q rest a' w') : wpList P ops Q (o :: rest) a w :=
  sv E hd hn hc hg hw h fun a' E' => kk _ a' _ (M.alloc ob) E'
/-- A store into a block of the call's own. -/
theorem sset {i g : Nat} {cs cs' : Array Value} {T : TypeId} {fr : Nat × Nat} (E : Env l n a) (M : Mem w0 O L Φ w) (hL : L[i]? = some (.blk g (.cells cs T fr))) (hd : o.dst = none) (hc : covers l o = true) (hg : guardIn ops l o = true) (hw : wantedL ops l o = true)
    (h : (execOp (evL l) o).run P w = .ok .skip (w.setRow g cs')) (hL' : L.set i (.blk g (.cells cs' T fr)) = L')
    (kk : ∀ a' w', Mem w0 O L' Φ w' → Env l n a' → wpList P ops Q rest a' w') : wpList P ops Q (o :: rest) a w := by
  subst hL'
  refine seq_skip E hc hg hw (by rw [hd]; rfl) h fun a' E' => kk a' _ (M.set hL) ?_
  rw [hd] at E'
  exact E'
/-- A call. -/
theorem scall {α : Type} {val : α → Value} {outs : α → List Ent} {p : α → Prop} {d : Tmp} {f : FuncId} {args : List Value} (E : Env l n a) (M : Mem w0 O L Φ w) (hd : o.dst = some d) (hn : Nat.blt d n = true) (hc : covers l o = true) (hg : guardIn ops l o = true) (hw : wantedL ops l o = true)
    (h : (execOp (evL l) o).run P w = .ok (.enter f args.toArray) w) (C : Does P f args w ins val outs p) (hL : ins ++ R = L)
    (kk : ∀ x a' w', p x → Mem w0 O (outs x ++ R) Φ w' → Env ((d, val x) :: l) n a' → wpList P ops Q rest a' w') : wpList P ops Q (o :: rest) a w := by
  subst hL
  refine seq_call (R := fun v w' => ∃ x, v = val x ∧ Ch (feet ins) w w' ∧ Has w' (outs x) ∧ (∀ g, feet (outs x) g → feet ins g ∨ w.heap.size ≤ g) ∧ p x) E hc hg hw (by rw [hd]; exact hn) h (C.mono fun en w' ⟨x, h1, h2⟩ => ⟨_, h1, x, rfl, h2⟩) fun a' v w'' ⟨x, hv, h1, h2, h3, h4⟩ E' => kk x a' w'' h4 (M.call h1 h2 h3) ?_
  subst hv
  rw [hd] at E'
  exact E'
/-- .. of things that are there. -/
theorem scallI {α : Type} {val : α → Value} {outs : α → List Ent} {p : α → Prop} {d : Tmp} {f : FuncId} {args : List Value} (ins : List Ent) (E : Env l n a) (M : Mem w0 O L Φ w) (hd : o.dst = some d) (hn : Nat.blt d n = true) (hc : covers l o = true) (hg : guardIn ops l o = true) (hw : wantedL ops l o = true)
    (h : (execOp (evL l) o).run P w = .ok (.enter f args.toArray) w) (hL : ins ++ R = L) (C : Has w ins → Does P f args w ins val outs p)
    (kk : ∀ x a' w', p x → Mem w0 O (outs x ++ R) Φ w' → Env ((d, val x) :: l) n a' → wpList P ops Q rest a' w') : wpList P ops Q (o :: rest) a w := by
  subst hL
  exact scall E M hd hn hc hg hw h (C (M.has.sub (List.sublist_append_left _ _))) rfl kk
/-- .. that hands just this on. -/
theorem sgive {d : Tmp} {f : FuncId} {args : List Value} {v : Value} (E : Env l n a) (M : Mem w0 O L Φ w) (hd : o.dst = some d) (hn : Nat.blt d n = true) (hc : covers l o = true) (hg : guardIn ops l o = true) (hw : wantedL ops l o = true)
    (h : (execOp (evL l) o).run P w = .ok (.enter f args.toArray) w) (C : Gives P f args w v)
    (kk : ∀ a' w', Mem w0 O L Φ w' → Env ((d, v) :: l) n a' → wpList P ops Q rest a' w') : wpList P ops Q (o :: rest) a w :=
  scall (ins := []) (R := L) E M hd hn hc hg hw h C rfl fun _ a' w' _ M' E' => kk a' w' M' E'
end

/-! ### Slices -/
def cutV (sz : Nat) (v : Value) (lo hi : Nat) : Value :=
  match v with
  | .slice b _ c => .slice (if c = lo then b else b.map (·.add (lo * sz))) (hi - lo) (c - lo)
  | _ => undef
def cellAt (v : Value) (k : Nat) : Value :=
  match v with
  | .slice (some a) _ _ => .pointer (some (a.add k))
  | _ => undef
section
variable {P : Program} {ρ : Operand → Value} {o : Oper} {w w' : World} {t s T e : TypeId} {A X Y : Operand} {v u : Value} {n sz : Nat} {xs : List Value}
theorem slice_und (h : tySlice P t e = true) : P.underlying t = some (.slice e) := by
  unfold tySlice at h
  cases hu : P.underlying t with
  | none => rw [hu] at h; cases h
  | some d => rw [hu] at h; cases d <;> simp_all
theorem run_lenR {ts : List TypeId} {args : List Operand} (ho : o.op = .call { callee := .builtin .len, args := args.toArray, argTypes := ts.toArray }) (ha : args = [X]) (hts : ts = [t]) (hX : ρ X = v) (ht : tySlice P t e = true) (h : Reads sz w v n xs) :
    (execOp ρ o).run P w = .ok (.value (.int .i64 n)) w := by
  rcases h.2 with ⟨rfl, rfl⟩ | ⟨g, off, cap, rfl, _⟩
  · exact run_len ho ha hts hX ht
  · exact run_len ho ha hts hX ht
theorem run_indexR {i : Nat} {kd : IntKind} {x : Int} (ho : o.op = .indexAddr t X Y) (h : Reads sz w v n xs) (hX : ρ X = v) (hY : ρ Y = .int kd x) (hx : x = i) (hi : i < n) (ht : tySlice P t e = true) (hs : tySize P e sz = true) :
    (execOp ρ o).run P w = .ok (.value (cellAt v (i * sz))) w := by
  rcases h.2 with ⟨rfl, rfl⟩ | ⟨g, off, cap, rfl, _⟩
  · omega
  · rw [run_index ho hX hY hx hi ht hs, cellAt, add_plain]
theorem run_loadR {k : Nat} (ho : o.op = .load t A) (h : Reads sz w v n xs) (hA : ρ A = cellAt v k) (ht : tyOne P t = true) (hu : xs[k]? = some u) : (execOp ρ o).run P w = .ok (.value u) w := by
  rcases h.2 with ⟨rfl, rfl⟩ | ⟨g, off, cap, rfl, _, _, _, hc⟩
  · have := h.1
    rw [Nat.zero_mul, List.length_eq_zero_iff] at this
    subst this
    simp at hu
  · rw [cellAt, add_plain] at hA
    exact run_load1 ho hA ht (hc k u hu)
theorem run_loadRN {k m : Nat} {us : List Value} (ho : o.op = .load t A) (h : Reads sz w v n xs) (hA : ρ A = cellAt v k) (ht : tyAgg P t m = true) (hk : k + m ≤ n * sz) (hm : 0 < m) (hu : (xs.drop k).take m = us) : (execOp ρ o).run P w = .ok (.value (.agg us.toArray)) w := by
  subst hu
  rcases h.2 with ⟨rfl, rfl⟩ | ⟨g, off, cap, rfl, _, _, _, hc⟩
  · omega
  · rw [cellAt, add_plain] at hA
    obtain ⟨d, hd, hdr⟩ := tyAgg_und ht
    obtain ⟨i, hi, hs⟩ := tySize_info (tyAgg_size ht)
    have hl : ((xs.drop k).take m).length = m := by simp [h.1]; omega
    have := run_loadAt_mid (P := P) w g (off + k) t ((xs.drop k).take m) d (fun j v hv => by
      rw [List.getElem?_take] at hv
      split at hv
      · rw [List.getElem?_drop] at hv
        have := hc (k + j) v hv
        rwa [← Nat.add_assoc] at this
      · cases hv) hd hdr (by rw [hi, hl]; simp [hs])
    simp only [execOp, ho, hA, Sem.run_bind, this, Result.andThen_ok]
    rfl
theorem run_sliceBound {k : IntKind} {x : Int} {i y : Nat} {c : BoundsCode} (hx : x = i) (h : i ≤ y) : (Instr.sliceBound (.int k x) y c).run P w = .ok i w := by
  subst hx
  have : (0 : Int) ≤ i ∧ (i : Int) ≤ y := by omega
  simp [Instr.sliceBound, asIntOf, this]
/-- What a bound of a slice is. -/
def bnd (ρ : Operand → Value) (x : Option Operand) (dflt i : Nat) : Prop :=
  match x with
  | none => i = dflt
  | some X => ∃ k x, ρ X = .int k x ∧ x = (i : Int)
theorem run_sliceR {L H : Option Operand} {lo hi : Nat} (ho : o.op = .slice t X L H none) (h : Reads sz w v n xs) (hX : ρ X = v) (ht : tySlice P t e = true) (hs : tySize P e sz = true) (hl : bnd ρ L 0 lo) (hh : bnd ρ H n hi) (h1 : lo ≤ hi) (h2 : hi ≤ n) :
    (execOp ρ o).run P w = .ok (.value (cutV sz v lo hi)) w := by
  have hu := slice_und ht
  have key : ∀ (b : Option Addr) (cap : Nat), n ≤ cap → v = .slice b n cap → (execOp ρ o).run P w = .ok (.value (cutV sz v lo hi)) w := by
    intro b cap hc hv
    subst hv
    have hcap : hi ≤ cap := by omega
    cases L with
    | none =>
      simp only [bnd] at hl
      subst hl
      cases H with
      | none =>
        simp only [bnd] at hh
        subst hh
        simp [execOp, ho, hX, Instr.sliceAt, Instr.slice, run_underlying hu, Instr.sliceBounds, run_size (w := w) hs, cutV]
      | some H =>
        obtain ⟨k2, x2, hh, hx2⟩ := hh
        simp [execOp, ho, hX, hh, Instr.sliceAt, Instr.slice, run_underlying hu, Instr.sliceBounds, run_sliceBound hx2 hcap, run_size (w := w) hs, cutV]
    | some L =>
      obtain ⟨k1, x1, hl, hx1⟩ := hl
      cases H with
      | none =>
        simp only [bnd] at hh
        subst hh
        simp [execOp, ho, hX, hl, Instr.sliceAt, Instr.slice, run_underlying hu, Instr.sliceBounds, run_sliceBound hx1 h1, run_size (w := w) hs, cutV]
      | some H =>
        obtain ⟨k2, x2, hh, hx2⟩ := hh
        simp [execOp, ho, hX, hl, hh, Instr.sliceAt, Instr.slice, run_underlying hu, Instr.sliceBounds, run_sliceBound hx2 hcap, run_sliceBound hx1 h1, run_size (w := w) hs, cutV]
  rcases h.2 with ⟨rfl, rfl⟩ | ⟨g, off, cap, rfl, hc, _⟩
  · exact key none 0 (Nat.le_refl _) rfl
  · exact key _ _ hc rfl
theorem Reads.cut {lo hi : Nat} (h : Reads sz w v n xs) (h1 : lo ≤ hi) (h2 : hi ≤ n) : Reads sz w (cutV sz v lo hi) (hi - lo) ((xs.drop (lo * sz)).take ((hi - lo) * sz)) := by
  have hlen : ((xs.drop (lo * sz)).take ((hi - lo) * sz)).length = (hi - lo) * sz := by
    have e1 : hi * sz ≤ n * sz := Nat.mul_le_mul_right _ h2
    rw [List.length_take, List.length_drop, h.1, Nat.sub_mul]
    omega
  refine ⟨hlen, ?_⟩
  rcases h.2 with ⟨rfl, rfl⟩ | ⟨g, off, cap, rfl, h3, h4, h5, h6⟩
  · obtain rfl : hi = 0 := by omega
    obtain rfl : lo = 0 := by omega
    exact .inl ⟨rfl, rfl⟩
  · refine .inr ⟨g, if cap = lo then off else off + lo * sz, cap - lo, ?_, by omega, by omega, h5, fun j u hu => ?_⟩
    · show Value.slice _ _ _ = _
      by_cases c : cap = lo
      · simp [c]
      · simp [c, add_plain]
    · rw [List.getElem?_take] at hu
      split at hu
      · rw [List.getElem?_drop] at hu
        have hne : cap ≠ lo := by
          rintro rfl
          have : hi - cap = 0 := by omega
          simp_all
        rw [if_neg hne]
        have := h6 _ u hu
        rwa [← Nat.add_assoc] at this
      · cases hu
/-- An array in memory, as a slice. -/
def tyArr (P : Program) (t e : TypeId) (m : Nat) : Bool := match P.underlying t with | some (.array m' e') => m' == m && e' == e | _ => false
theorem run_sliceA {m g : Nat} {cs : Array Value} {T : TypeId} {fr : Nat × Nat} (ho : o.op = .slice t X none none none) (hX : ρ X = .pointer (some ⟨g, 0, none⟩)) (ht : tyArr P t e m = true) (hs : tySize P e sz = true) :
    (execOp ρ o).run P w = .ok (.value (.slice (some ⟨g, 0, none⟩) m m)) w := by
  unfold tyArr at ht
  cases hu : P.underlying t with
  | none => rw [hu] at ht; cases ht
  | some d =>
    rw [hu] at ht
    cases d with
    | array m' e' =>
      simp at ht
      obtain ⟨rfl, rfl⟩ := ht
      simp [execOp, ho, hX, Instr.sliceAt, Instr.sureAddr, run_underlying hu, Instr.sliceBounds, run_size (w := w) hs, add_plain]
    | _ => cases ht
theorem run_toArray {m g off cap : Nat} (ho : o.op = .sliceToArrayPointer t X) (hX : ρ X = .slice (some ⟨g, off, none⟩) n cap) (ht : tyArr P t e m = true) (hn : m ≤ n) :
    (execOp ρ o).run P w = .ok (.value (.pointer (some ⟨g, off, none⟩))) w := by
  unfold tyArr at ht
  cases hu : P.underlying t with
  | none => rw [hu] at ht; cases ht
  | some d =>
    rw [hu] at ht
    cases d with
    | array m' e' =>
      simp at ht
      obtain ⟨rfl, rfl⟩ := ht
      have : ¬ n < m' := by omega
      simp [execOp, ho, hX, Instr.arrayAt, run_underlying hu, this]
    | _ => cases ht
theorem reads_blk {m g : Nat} {cs : Array Value} {T : TypeId} {fr : Nat × Nat} (hg : w.heap[g]? = some (.cells cs T fr)) (hm : cs.size = m * sz) (hmax : m ≤ maxLen) : Reads sz w (.slice (some ⟨g, 0, none⟩) m m) m cs.toList :=
  ⟨by simpa using hm, .inr ⟨g, 0, m, rfl, Nat.le_refl _, hmax, (Array.getElem?_eq_some_iff.1 hg).1, fun j u hu => by
    rw [Nat.zero_add]
    exact cell_of hg (by simpa using hu)⟩⟩
end

/-! ### Appending -/
section
variable {P : Program}
/-- What is appended. -/
theorem Reads.src {w : World} {sz n : Nat} {x : Value} {xs : List Value} {tx e' : TypeId} (h : Reads sz w x n xs) (hk : P.underlying tx = some (.slice e')) (h1 : ∀ u ∈ xs, u.oneCell' = true) : Src P sz tx x n xs w := by
  rcases h.2 with ⟨rfl, rfl⟩ | ⟨g, off, cap, rfl, _, _, _, hc⟩
  · have := h.1
    rw [Nat.zero_mul, List.length_eq_zero_iff] at this
    subst this
    exact Src.ofNil w hk 0
  · exact Src.ofSlice w hk _ n cap xs h.1 (fun j u hu => by rw [add_plain]; exact hc j u hu) h1
theorem run_append_src {w : World} (t tx ty e : TypeId) (i : TypeInfo) (z : Value) (size bytes : Nat) (ht : P.underlying t = some (.slice e)) (hi : P.info? e = some i) (hz : i.zero = some z)
    (hsize : i.size = size) (hby : i.bytes = bytes) (hzs : z.cells.size = size) (hsz : 0 < size)
    (v : Value) (n : Nat) (xs : List Value) (hown : w.ownsRow 0 e size v n xs)
    (x : Value) (m : Nat) (news : List Value) (hs : Src P size tx x m news w)
    (h63 : n + m ≤ maxLen) (hbytes : (n + m) * bytes ≤ 140737488355328) :
    ∃ v' w', (Builtin.append_ #[t, tx] ty #[v, x]).run P w = .ok v' w' ∧ w'.ownsRow 0 e size v' (n + m) (xs ++ news) ∧ w.grownBy w' v.ownBlock ∧ (∀ g, v'.ownBlock = some g → v.ownBlock = some g ∨ w.heap.size ≤ g) ∧
      (0 < n + m → v'.ownBlock.isSome = true) := by
  subst hsize
  subst hby
  have hsmall : n + m ≤ 9223372036854775807 := by simp only [maxLen] at h63; omega
  have hl := hs.newsLen
  have hlen : (xs ++ news).length = (n + m) * i.size := by rw [List.length_append, hown.1, hl, Nat.add_mul]
  have grown : ∀ (old : Nat), old < n + m → ∀ (row : Option Nat),
      (w.drew.alloc (.cells ((xs ++ news).toArray ++ Builtin.zeroCells z.cells (grownCap w (n + m) old e - (n + m))) e)).ownsRow 0 e i.size
        (.slice (some ⟨w.heap.size, 0, none⟩) (n + m) (grownCap w (n + m) old e)) (n + m) (xs ++ news) ∧
      w.grownBy (w.drew.alloc (.cells ((xs ++ news).toArray ++ Builtin.zeroCells z.cells (grownCap w (n + m) old e - (n + m))) e)) row := by
    intro old ho row
    have hge := grownCap_ge w (n + m) old e
    have hcm : grownCap w (n + m) old e ≤ maxLen := grownCap_le_maxLen w (n + m) old e h63
    refine ⟨⟨hlen, .inr ⟨w.heap.size, _, _, rfl, Nat.zero_le _, heap_alloc_new w.drew _, hge, hcm, ?_, ?_⟩⟩, ⟨rfl, rfl, rfl, by simp, fun k hk _ => Below.heap_alloc w.drew _ k hk⟩⟩
    · simp only [Array.size_append, List.size_toArray, size_zeroCells, hzs, hlen, ← Nat.add_mul]
      congr 1
      omega
    · simp only [Array.toList_append]
      rw [← hlen]
      exact List.take_left
  rcases hown.2 with ⟨rfl, rfl⟩ | ⟨g, cap, cur, rfl, hbg, hg, hnc, hcm, hcs, htake⟩
  · have hx : xs = [] := List.eq_nil_of_length_eq_zero (by simpa using hown.1)
    subst hx
    by_cases hm : m = 0
    · subst hm
      have hn : news = [] := List.eq_nil_of_length_eq_zero (by simpa using hl)
      subst hn
      refine ⟨.slice none 0 0, w, ?_, World.ownsRow_nil w 0 e i.size, ⟨rfl, rfl, rfl, Nat.le_refl _, fun _ _ _ => rfl⟩, fun g h => .inl h, fun h => absurd h (by omega)⟩
      rcases hs.kind with ⟨e', hk⟩ | hk <;> simp [Builtin.append_, run_underlying ht, run_underlying hk, sizeOf, typeInfo, hi, hs.len, hs.cells, storeCells]
    · have hold : (Builtin.firstCells i.size 0 (.slice none 0 0)).run P w.drew = .ok (([] : List Value)).toArray w.drew := by simp [Builtin.firstCells]
      have hr := run_append_grow_src (P := P) w t tx ty e i z ht hi hz none 0 0 [] hold x m news hs (by omega) (by omega) (growslice_fits (by omega) hbytes)
      have hgr := grown 0 (by omega) (Value.ownBlock (.slice none 0 0))
      exact ⟨_, _, hr, hgr.1, hgr.2, fun g h => .inr (by simp [Value.ownBlock] at h; omega), fun _ => rfl⟩
  · by_cases hroom : n + m ≤ cap
    · have hfit : n * i.size + news.length ≤ cur.size := by rw [hl, hcs, ← Nat.add_mul]; exact Nat.mul_le_mul_right _ hroom
      have hst := run_storeCells_at P g (n * i.size) e news 0 cur w hg (by simpa using hfit) hs.one
      simp only [Nat.add_zero] at hst
      have hr : (Builtin.append_ #[t, tx] ty #[.slice (some ⟨g, 0, none⟩) n cap, x]).run P w = .ok (.slice (some ⟨g, 0, none⟩) (n + m) cap) (w.setRow g (cur.toList.take (n * i.size) ++ news ++ cur.toList.drop (n * i.size + news.length)).toArray) := by
        rcases hs.kind with ⟨e', hk⟩ | hk <;> simp [Builtin.append_, run_underlying ht, run_underlying hk, sizeOf, typeInfo, hi, hs.len, hroom, hs.cells, Addr.add_lit, hst]
      refine ⟨_, _, hr, ⟨hlen, .inr ⟨g, cap, _, rfl, hbg, setRow_heap w g cur _ e _ hg, hroom, hcm, ?_, ?_⟩⟩, ⟨rfl, rfl, rfl, by simp, fun k _ hk => setRow_other w g k _ (fun e => hk (by simp [Value.ownBlock, e]))⟩, fun g h => .inl h, fun _ => rfl⟩
      · simp only [List.size_toArray, List.length_append, List.length_take, List.length_drop, Array.length_toList]
        omega
      · rw [htake, ← hlen]
        exact List.take_left
    · have holds : ∀ j u, xs[j]? = some u → w.cell? ((⟨g, 0, none⟩ : Addr).add j) = some u := hown.cells (g := g) rfl
      have hold := run_firstCells_some (P := P) w.drew i.size n ⟨g, 0, none⟩ n cap xs hown.1 (by simpa using holds)
      have hr := run_append_grow_src (P := P) w t tx ty e i z ht hi hz (some ⟨g, 0, none⟩) n cap xs hold x m news hs (by omega) (by omega) (growslice_fits (by omega) hbytes)
      have hgr := grown cap (by omega) (Value.ownBlock (.slice (some ⟨g, 0, none⟩) n cap))
      exact ⟨_, _, hr, hgr.1, hgr.2, fun g h => .inr (by simp [Value.ownBlock] at h; omega), fun _ => rfl⟩
/-- A type's zero has its size. -/
def tyZero (P : Program) (e : TypeId) (sz : Nat) : Bool := match P.info? e with | some i => i.size == sz && (match i.zero with | some z => z.cells.size == sz | none => false) | none => false
def tyBytes' (P : Program) (e : TypeId) (k : Nat) : Bool := match P.info? e with | some i => i.bytes == k | none => false
theorem run_appendR {ρ : Operand → Value} {o : Oper} {w : World} {t tx e e' : TypeId} {X Y : Operand} {sz bytes n m : Nat} {v x : Value} {xs news : List Value} {args : List Operand} {ts : List TypeId} (ho : o.op = .call { callee := .builtin .append, args := args.toArray, argTypes := ts.toArray }) (ha : args = [X, Y]) (hts : ts = [t, tx]) (hX : ρ X = v) (hY : ρ Y = x)
    (ht : tySlice P t e = true) (htx : tySlice P tx e' = true) (hz : tyZero P e sz = true) (hb : tyBytes' P e bytes = true) (hsz : 0 < sz) (hown : w.ownsRow 0 e sz v n xs) (hr : Reads sz w x m news) (h1 : ∀ u ∈ news, u.oneCell' = true) (hmax : (n + m) * (bytes + 1) ≤ 140737488355328) :
    ∃ v' w', (execOp ρ o).run P w = .ok (.value v') w' ∧ w'.ownsRow 0 e sz v' (n + m) (xs ++ news) ∧ w.grownBy w' v.ownBlock ∧ (∀ g, v'.ownBlock = some g → v.ownBlock = some g ∨ w.heap.size ≤ g) := by
  subst ha hts
  unfold tyZero at hz
  unfold tyBytes' at hb
  cases hi : P.info? e with
  | none => rw [hi] at hz; cases hz
  | some i =>
    rw [hi] at hz hb
    simp only [Bool.and_eq_true, beq_iff_eq] at hz hb
    cases hzz : i.zero with
    | none => rw [hzz] at hz; cases hz.2
    | some z =>
      rw [hzz] at hz
      have hzs : z.cells.size = sz := by simpa using hz.2
      have e1 : (n + m) * (bytes + 1) = (n + m) * bytes + (n + m) := by rw [Nat.mul_add, Nat.mul_one]
      obtain ⟨v', w', h2, h3, h4, h5, _⟩ := run_append_src (P := P) t tx o.type e i z sz bytes (slice_und ht) hi hzz hz.1 hb hzs hsz v n xs hown x m news (hr.src (slice_und htx) h1) (by simp only [maxLen]; omega) (by omega)
      refine ⟨v', w', ?_, h3, h4, h5⟩
      simp [execOp, ho, resolve, invoke, builtin, hX, hY, h2]
variable {ops : Array Oper} {Q : Exit → Act → World → Prop} {l : List (Nat × Value)} {n : Nat} {a : Act} {w w' w0 : World} {rest : List Oper} {o : Oper} {O : Nat → Prop} {L R : List Ent} {Φ : World → Prop}
/-- A slice of the call's own grows. -/
theorem sapp {d : Tmp} {i k m sz bytes : Nat} {t tx e e' : TypeId} {X Y : Operand} {v x : Value} {xs news : List Value} {args : List Operand} {ts : List TypeId} (E : Env l n a) (M : Mem w0 O L Φ w) (hL : L[i]? = some (.row e sz v k xs)) (hd : o.dst = some d) (hn : Nat.blt d n = true) (hc : covers l o = true) (hg : guardIn ops l o = true) (hw : wantedL ops l o = true)
    (ho : o.op = .call { callee := .builtin .append, args := args.toArray, argTypes := ts.toArray }) (ha : args = [X, Y]) (hts : ts = [t, tx]) (hX : evL l X = v) (hY : evL l Y = x) (ht : tySlice P t e = true) (htx : tySlice P tx e' = true) (hz : tyZero P e sz = true) (hb : tyBytes' P e bytes = true) (hsz : 0 < sz) (hr : Reads sz w x m news) (h1 : ∀ u ∈ news, u.oneCell' = true) (hmax : (k + m) * (bytes + 1) ≤ 140737488355328)
    (kk : ∀ v' a' w', Mem w0 O (L.set i (.row e sz v' (k + m) (xs ++ news))) Φ w' → Env ((d, v') :: l) n a' → wpList P ops Q rest a' w') : wpList P ops Q (o :: rest) a w := by
  obtain ⟨v', w', h, h3, h4, h5⟩ := run_appendR (P := P) ho ha hts hX hY ht htx hz hb hsz (M.ent i hL) hr h1 hmax
  refine sv E hd hn hc hg hw h fun a' E' => kk v' a' w' (M.change hL _ ⟨h4.os, h4.tape, h4.output, ⟨h4.size, fun g hg hn => h4.block g hg (fun he => hn (by simp [Ent.row, ← he]))⟩⟩ h3 fun g hg => ?_) E'
  have hg' : v'.ownBlock = some g := by simpa [Ent.row] using hg
  refine ⟨?_, (h5 g hg').imp (fun h => by simp [Ent.row, h]) id⟩
  rcases h3.2 with ⟨rfl, _⟩ | ⟨g2, cap, cur, rfl, _, h6, _⟩
  · simp [Value.ownBlock] at hg'
  · simp [Value.ownBlock] at hg'
    subst hg'
    exact (Array.getElem?_eq_some_iff.1 h6).1
/-- A new slice, as one that may grow. -/
theorem row_of {w : World} {g k c sz : Nat} {e : TypeId} {cs : Array Value} (hg : w.heap[g]? = some (.cells cs e (0, 0))) (hs : cs.size = c * sz) (hk : k ≤ c) (hc : c ≤ maxLen) : w.ownsRow 0 e sz (.slice (some ⟨g, 0, none⟩) k c) k (cs.toList.take (k * sz)) := by
  have : k * sz ≤ c * sz := Nat.mul_le_mul_right _ hk
  exact ⟨by simp; omega, .inr ⟨g, c, cs, rfl, Nat.zero_le _, hg, hk, hc, hs, rfl⟩⟩
theorem srow {d : Tmp} {k c sz : Nat} {e : TypeId} {cs : Array Value} {xs : List Value} (E : Env l n a) (M : Mem w0 O L Φ w) (hd : o.dst = some d) (hn : Nat.blt d n = true) (hc : covers l o = true) (hg : guardIn ops l o = true) (hw : wantedL ops l o = true)
    (h : (execOp (evL l) o).run P w = .ok (.value (.slice (some ⟨w.heap.size, 0, none⟩) k c)) (w.alloc (.cells cs e))) (hs : cs.size = c * sz) (hk : k ≤ c) (hcm : c ≤ maxLen) (hx : cs.toList.take (k * sz) = xs)
    (kk : ∀ v a' w', Mem w0 O (.row e sz v k xs :: L) Φ w' → Env ((d, v) :: l) n a' → wpList P ops Q rest a' w') : wpList P ops Q (o :: rest) a w := by
  subst hx
  refine sv E hd hn hc hg hw h fun a' E' => kk _ a' _ ?_ E'
  have hx : Ext w (w.alloc (.cells cs e)) := Ext.alloc w _
  exact M.adopt hx _ (row_of (by show (w.heap.push _)[w.heap.size]? = _; simp) hs hk hcm) fun g hg => by
    have : g = w.heap.size := by simpa [Ent.row, Value.ownBlock] using hg
    subst this
    simp
/-- An item of a slice of the call's own is stored. -/
theorem ssetR {i k m sz : Nat} {t e : TypeId} {A X : Operand} {v u : Value} {xs xs' : List Value} (E : Env l n a) (M : Mem w0 O L Φ w) (hL : L[i]? = some (.row e sz v m xs)) (hd : o.dst = none) (hc : covers l o = true) (hg : guardIn ops l o = true) (hw : wantedL ops l o = true)
    (ho : o.op = .store t A X) (hA : evL l A = cellAt v k) (hX : evL l X = u) (ht : tySize P t 1 = true) (hk : k < m * sz) (h1 : u.oneCell' = true) (hx : xs.set k u = xs')
    (kk : ∀ a' w', Mem w0 O (L.set i (.row e sz v m xs')) Φ w' → Env l n a' → wpList P ops Q rest a' w') : wpList P ops Q (o :: rest) a w := by
  subst hx
  have hr := M.ent i hL
  obtain ⟨hlen, hh⟩ := hr
  rcases hh with ⟨rfl, rfl⟩ | ⟨g, cap, cur, rfl, h0, hgg, hnc, hcm, hcs, htk⟩
  · simp at hk
  · have hA' : evL l A = .pointer (some ⟨g, k, none⟩) := by rw [hA, cellAt, add_plain, Nat.zero_add]
    have hmc : m * sz ≤ cap * sz := Nat.mul_le_mul_right _ hnc
    have hrun := run_store1 (P := P) (w := w) ho hA' hX ht hgg (by omega) h1
    refine seq_skip E hc hg hw (by rw [hd]; rfl) hrun fun a' E' => kk a' _ (M.change hL _ (Ch.setRow (by simp [Ent.row, Value.ownBlock])) ⟨by simpa using hlen, .inr ⟨g, cap, _, rfl, h0, setRow_heap w g cur _ e _ hgg, hnc, hcm, by simpa using hcs, ?_⟩⟩ fun k' hk' => ?_) ?_
    · simp only [Array.toList_setIfInBounds]
      rw [List.take_set, htk]
    · have := M.lt _ (List.mem_of_getElem? hL) k' (by simpa [Ent.row] using hk')
      exact ⟨by simpa using this, .inl (by simpa [Ent.row] using hk')⟩
    · rw [hd] at E'
      exact E'
theorem run_makeR {ρ : Operand → Value} {o : Oper} {w : World} {t e : TypeId} {X Y : Operand} {kl kc : IntKind} {k c sz bytes : Nat} {x y : Int} (ho : o.op = .makeSlice t X Y) (hX : ρ X = .int kl x) (hY : ρ Y = .int kc y) (hx : x = k) (hy : y = c) (ht : tySlice P t e = true) (hz : tyZero P e sz = true) (hb : tyBytes' P e bytes = true) (hk : k ≤ c) (hmax : c * (bytes + 1) ≤ 140737488355328) :
    ∃ cs, cs.size = c * sz ∧ (execOp ρ o).run P w = .ok (.value (.slice (some ⟨w.heap.size, 0, none⟩) k c)) (w.alloc (.cells cs e)) ∧ ∃ i z, P.info? e = some i ∧ i.zero = some z ∧ cs = madeCells z.cells (c * sz) := by
  subst hx hy
  unfold tyZero at hz
  unfold tyBytes' at hb
  cases hi : P.info? e with
  | none => rw [hi] at hz; cases hz
  | some i =>
    rw [hi] at hz hb
    simp only [Bool.and_eq_true, beq_iff_eq] at hz hb
    cases hzz : i.zero with
    | none => rw [hzz] at hz; cases hz.2
    | some z =>
      have e1 : c * (bytes + 1) = c * bytes + c := by rw [Nat.mul_add, Nat.mul_one]
      have hb' : (i.bytes : Int) * (c : Int) ≤ 281474976710656 := by
        rw [hb, Int.mul_comm]
        have : ((c * bytes : Nat) : Int) ≤ 281474976710656 := by omega
        rwa [Int.natCast_mul] at this
      have hr := run_make (P := P) w t e i z (slice_und ht) hi hzz kl kc k c (by omega) (by omega) hb' (by omega)
      simp only [Int.toNat_natCast, hz.1] at hr
      exact ⟨_, size_madeCells _ _, by simp [execOp, ho, hX, hY, hr], i, z, rfl, hzz, rfl⟩
end
end Go.Rill
end
section
namespace Go.Rill
set_option linter.unusedVariables false
set_option linter.unusedSimpArgs false
open Go.RowKit
/-! ### An operation of a region of open order -/
section
variable {P : Program} {Q : Exit → Act → World → Prop} {l : List (Nat × Value)} {n : Nat} {w0 : World} {ops : Array Oper} {B : List Nat} {Vs : List Spec} {i : Nat}
theorem fs_val {o : Oper} {s : Spec} (ho : ops[i]? = some o) (hs : Vs[i]? = some s)
    (h : ∀ (x : Nat → Value) (w : World), Ext w0 w → (∀ j, waits B i j = true → knows Vs x w j) → ∃ v w', covers (envOf ops B l Vs x i) o = true ∧ guardIn ops (envOf ops B l Vs x i) o = true ∧ wantedL ops (envOf ops B l Vs x i) o = true ∧
      (execOp (evL (envOf ops B l Vs x i)) o).run P w = .ok (.value v) w' ∧ Ext w w' ∧ s.ok w' v) : FStep P ops B l n Vs w0 Q i := by
  intro x a w hx hk E
  obtain ⟨v, w', h1, h2, h3, h4, h5, h6⟩ := h x w hx hk
  refine ⟨o, s, ho, hs, fun K hK => ?_⟩
  rw [E.wanted h2, if_pos h3]
  unfold Oper.wp
  rw [E.exec h1, h4]
  exact hK v w' h5 h6
/-- .. that hands just this on. -/
theorem fv {o : Oper} {v : Value} (ho : ops[i]? = some o) (hs : Vs[i]? = some (.exact v))
    (h : ∀ (x : Nat → Value) (w : World), Ext w0 w → (∀ j, waits B i j = true → knows Vs x w j) → (execOp (evL (envOf ops B l Vs x i)) o).run P w = .ok (.value v) w)
    (h1 : ∀ x, covers (envOf ops B l Vs x i) o = true := by intro x; rfl) (h2 : ∀ x, guardIn ops (envOf ops B l Vs x i) o = true := by intro x; rfl) (h3 : ∀ x, wantedL ops (envOf ops B l Vs x i) o = true := by intro x; rfl) : FStep P ops B l n Vs w0 Q i :=
  fs_val ho hs fun x w hx hk => ⟨v, w, h1 x, h2 x, h3 x, h x w hx hk, Ext.refl _, rfl⟩
theorem fs_no {o : Oper} (ho : ops[i]? = some o) (hs : Vs[i]? = some (.exact undef))
    (h : ∀ (x : Nat → Value), guardIn ops (envOf ops B l Vs x i) o = true ∧ wantedL ops (envOf ops B l Vs x i) o = false) : FStep P ops B l n Vs w0 Q i := by
  intro x a w hx hk E
  obtain ⟨h2, h3⟩ := h x
  refine ⟨o, .exact undef, ho, hs, fun K hK => ?_⟩
  rw [E.wanted h2, if_neg (by simp [h3])]
  exact hK undef w (Ext.refl _) rfl
theorem fs_ext {o : Oper} {s : Spec} (ho : ops[i]? = some o) (hs : Vs[i]? = some s)
    (h : ∀ (x : Nat → Value) (w : World), Ext w0 w → (∀ j, waits B i j = true → knows Vs x w j) → ∃ f args, covers (envOf ops B l Vs x i) o = true ∧ guardIn ops (envOf ops B l Vs x i) o = true ∧ wantedL ops (envOf ops B l Vs x i) o = true ∧
      (execOp (evL (envOf ops B l Vs x i)) o).run P w = .ok (.enter f args) w ∧ ExtCall P f args w s) : FStep P ops B l n Vs w0 Q i := by
  intro x a w hx hk E
  obtain ⟨f, args, h1, h2, h3, h4, h5⟩ := h x w hx hk
  refine ⟨o, s, ho, hs, fun K hK => ?_⟩
  rw [E.wanted h2, if_pos h3]
  unfold Oper.wp
  rw [E.exec h1, h4, Oper.upon_enter]
  refine h5.mono ?_
  rintro e w'' ⟨v, rfl, hx2, hv⟩
  exact hK v w'' hx2 hv
/-- The steps, one by one. -/
def AllF (p : Nat → Prop) : List Nat → Prop
  | [] => True
  | i :: r => p i ∧ AllF p r
theorem AllF.mem {p : Nat → Prop} : ∀ {is : List Nat}, AllF p is → ∀ i ∈ is, p i
  | [], _, _, h => by cases h
  | j :: r, h, i, hi => by
    rcases List.mem_cons.1 hi with rfl | hi
    · exact h.1
    · exact AllF.mem h.2 i hi
/-- All that is asked of a region's table, at once. -/
def tabOk (ops : Array Oper) (B : List Nat) (n : Nat) : Bool :=
  Go.Proofs.YtnebjbgcibjohaaW.PrintLast.waitsOk (Go.Proofs.YtnebjbgcibjohaaW.PrintLast.rtab .any ops).2 B && Go.Proofs.YtnebjbgcibjohaaW.PrintLast.baseOk (Go.Proofs.YtnebjbgcibjohaaW.PrintLast.rtab .any ops).2 (List.range ops.size) && freeOk ops B && (List.range ops.size).all fun i => fits n (dstOf ops i)
theorem free_reg {a0 : Act} {w : World} {id : Nat} {B : List Nat} {Vs : List Spec} (is : List Nat) (E : Env l n a0) (hm : P.follows .mixedOrders = true) (hT : tabOk ops B n = true) (his : is = List.range ops.size) (hl : Lasts Vs)
    (hs : AllF (FStep P ops B l n Vs w.drew Q) is)
    (hend : ∀ (x : Nat → Value) (a : Act) (w' : World), Ext w w' → (∀ j, j < ops.size → knows Vs x w' j) → Env (endEnv ops l Vs x) n a → Q .normal a w') : (Code.region id ops true).wp P Q a0 w := by
  subst his
  simp only [tabOk, Bool.and_eq_true] at hT
  exact free_region _ B Vs E hm rfl hT.1.1.1 hT.1.1.2 hT.1.2 hT.2 hl (AllF.mem hs) hend
/-- .. whose last operation waits for all others, and stands apart. -/
def waitsAll (B : List Nat) (m : Nat) : Bool := (List.range m).all fun i => waits B m i
theorem free_last {a0 : Act} {w : World} {id : Nat} {B : List Nat} {Vs : List Spec} (is : List Nat) (m : Nat) (E : Env l n a0) (hm : P.follows .mixedOrders = true) (hT : tabOk ops B n = true) (hmm : m + 1 = ops.size) (hwa : waitsAll B m = true) (his : is = List.range m) (hl : Lasts Vs)
    (hs : AllF (FStep P ops B l n Vs w.drew Q) is)
    (hend : ∀ (x : Nat → Value) (a : Act) (w' : World), Ext w w' → (∀ j, j < m → knows Vs x w' j) → Env (endTo ops l Vs x m) n a → lastOp P ops Q m a w') : (Code.region id ops true).wp P Q a0 w := by
  subst his
  simp only [tabOk, Bool.and_eq_true] at hT
  exact free_gen true _ B Vs E hm rfl hT.1.1.1 hT.1.1.2 hT.1.2 hT.2 hl m (by simpa using hmm) (fun _ i hi => List.all_eq_true.1 hwa i (List.mem_range.2 hi)) (AllF.mem hs) (fun x a w' h1 h2 h3 => by rw [if_pos rfl]; exact hend x a w' h1 h2 h3)
theorem last_set {a : Act} {w : World} {m : Nat} {o : Oper} {O : Nat → Prop} {L : List Ent} {Φ : World → Prop} {wb : World} {i g : Nat} {cs cs' : Array Value} {T : TypeId} {fr : Nat × Nat} {L' : List Ent} (E : Env l n a) (M : Mem wb O L Φ w) (ho : ops[m]? = some o) (hL : L[i]? = some (.blk g (.cells cs T fr))) (hd : o.dst = none) (hc : covers l o = true) (hg : guardIn ops l o = true) (hw : wantedL ops l o = true)
    (h : (execOp (evL l) o).run P w = .ok .skip (w.setRow g cs')) (hL' : L.set i (.blk g (.cells cs' T fr)) = L')
    (kk : ∀ a' w', Mem wb O L' Φ w' → Env l n a' → Q .normal a' w') : lastOp P ops Q m a w := by
  subst hL'
  unfold lastOp
  rw [ho]
  simp only
  rw [E.wanted hg, if_pos hw]
  unfold Oper.wp
  rw [E.exec hc, h]
  have E2 := E.put (d := o.dst) (by rw [hd]; rfl) undef
  rw [hd] at E2
  rw [Oper.upon_skip, hd]
  exact kk _ _ (M.set hL) E2
/-- Whether a list of specs lasts: each one by itself. -/
def LastsS : Spec → Prop
  | .exact _ => True
  | .rel p => ∀ w w' v, Ext w w' → p w v → p w' v
theorem Lasts.of {Vs : List Spec} (h : ∀ s ∈ Vs, LastsS s) : Lasts Vs := fun j p hj w w' v hx hp => by
  have := h _ (List.mem_of_getElem? hj)
  exact this w w' v hx hp
theorem LastsS.came {α : Type} {B : Nat} {val : α → Value} {outs : α → List Ent} {p : α → Prop} : LastsS (Came B val outs p) := fun w w' v hx ⟨x, h1, h2, h3⟩ => ⟨x, h1, h2.ext hx, h3⟩
theorem LastsS.exact {v : Value} : LastsS (.exact v) := trivial
def AllS : List Spec → Prop
  | [] => True
  | s :: r => LastsS s ∧ AllS r
theorem AllS.lasts {Vs : List Spec} (h : AllS Vs) : Lasts Vs := Lasts.of (by
  induction Vs with
  | nil => intro s hs; cases hs
  | cons s r ih =>
    intro x hx
    rcases List.mem_cons.1 hx with rfl | hx
    · exact h.1
    · exact ih h.2 x hx)
/-- What a call of such a region hands on: a value, that has things of its own. -/
def CameV (B : Nat) (outs : Value → List Ent) (p : Value → Prop) : Spec := .rel fun w v => Has w (outs v) ∧ (∀ g, feet (outs v) g → B ≤ g) ∧ p v
theorem LastsS.cameV {B : Nat} {outs : Value → List Ent} {p : Value → Prop} : LastsS (CameV B outs p) := fun w w' v hx ⟨h2, h3⟩ => ⟨h2.ext hx, h3⟩
theorem Does.extV {f : FuncId} {args : List Value} {w : World} {outs : Value → List Ent} {p : Value → Prop} {B : Nat} (h : Does P f args w [] (fun s : Value => s) outs p) (hB : B ≤ w.heap.size) : ExtCall P f args.toArray w (CameV B outs p) :=
  h.mono fun en w' ⟨x, h1, h2, h3, h4, h5⟩ => ⟨_, h1, (h2.mono fun g _ h => (feet_nil h).elim : Ch none' w w').ext, h3, fun g hg => (h4 g hg).elim (fun h => (feet_nil h).elim) fun h => Nat.le_trans hB h, h5⟩
theorem Has.ent {w : World} {L : List Ent} {e : Ent} (h : Has w L) (i : Nat) (hi : L[i]? = some e) : e.ok w := h.ents e (List.mem_of_getElem? hi)
theorem Has.reads {w : World} {L : List Ent} {t : TypeId} {sz n : Nat} {v : Value} {xs : List Value} (h : Has w L) (i : Nat) (hi : L[i]? = some (.row t sz v n xs)) : Reads sz w v n xs := ownsRow_reads (h.ent i hi)
/-- A call of a function's value. -/
theorem run_callV {ρ : Operand → Value} {o : Oper} {w : World} {X : Operand} {f : FuncId} {args : List Operand} {ts : Array TypeId} (ho : o.op = .call { callee := .value X, args := args.toArray, argTypes := ts }) (hρ : ρ X = .func (.func f) #[] #[]) (hf : goFn P f = true) :
    (execOp ρ o).run P w = .ok (.enter f (args.map ρ).toArray) w := by
  unfold goFn at hf
  cases h : P.funcs[f]? with
  | none => rw [h] at hf; cases hf
  | some fn =>
    rw [h] at hf
    simp only [Bool.and_eq_true, Bool.not_eq_true'] at hf
    obtain ⟨h1, h2⟩ := hf
    have h3 : ¬ fn.body = none := by cases hb : fn.body <;> simp_all
    have h4 : ¬ fn.name = "runtime.NumGoroutine" := by simpa using h2
    simp [execOp, ho, resolve, hρ, Deferred.ofValue, invoke, callFunc, h, h4, h3, program, Sem.run]
end
end Go.Rill
end
section
namespace Go.Rill
set_option linter.unusedVariables false
set_option linter.unusedSimpArgs false
open Go.RowKit

/-! ### Structs -/
theorem fold_set (vs : List Value) : ∀ (k : Nat) (off : Nat) (cells : Array Value), off + k + vs.length ≤ cells.size →
    ((vs.zipIdx k).foldl (fun cs (x : Value × Nat) => cs.setIfInBounds (off + x.2) x.1) cells).toList = cells.toList.take (off + k) ++ vs ++ cells.toList.drop (off + k + vs.length) := by
  induction vs with
  | nil => intro k off cells h; simp
  | cons v r ih =>
    intro k off cells h
    simp only [List.length_cons] at h
    rw [List.zipIdx_cons, List.foldl_cons, ih (k + 1) off _ (by simp; omega)]
    simp only [Array.toList_setIfInBounds]
    have hk : off + k < cells.toList.length := by simp; omega
    rw [List.set_eq_take_append_cons_drop, if_pos hk]
    have h1 : (cells.toList.take (off + k)).length = off + k := by simp; omega
    rw [List.take_append, List.drop_append, h1]
    have e1 : off + (k + 1) - (off + k) = 1 := by omega
    have e2 : off + (k + 1) + r.length - (off + k) = r.length + 1 := by omega
    rw [e1, e2]
    rw [List.take_of_length_le (by omega), List.drop_of_length_le (l := cells.toList.take (off + k)) (by omega)]
    simp only [List.take_succ_cons, List.take_zero, List.drop_succ_cons, List.nil_append, List.drop_drop, List.append_assoc, List.length_cons]
    have e3 : off + k + 1 + r.length = off + k + (r.length + 1) := by omega
    rw [e3]
    rfl
/-- The first fields of a struct, of these sizes: the rest is zero. -/
def pieces : Nat → List Nat → Nat → List (Nat × Nat)
  | _, [], _ => []
  | off, s :: r, _ => (off, s) :: pieces (off + s) r 0
def tyStruct (P : Program) (t : TypeId) (szs : List Nat) (z : List Value) : Bool :=
  match P.underlying t with
  | some (.struct fs) => (fs.toList.map fun f => (f.offset, (match P.info? f.type with | some i => i.size | none => 0))) == pieces 0 szs 0 && fs.toList.all (fun f => (P.info? f.type).isSome) && (match zeroOf P t with | some v => v.cells.toList.length == z.length | none => false)
  | _ => false
theorem fill_prefix (place : Nat → Option (Nat × Nat)) : ∀ (vs : List Value) (szs : List Nat) (i off : Nat) (done z : List Value), done.length = off → vs.map (·.cells.size) = szs.take vs.length → vs.length ≤ szs.length →
    (∀ j, j < szs.length → place (i + j) = (pieces off szs 0)[j]?) → (szs.sum ≤ z.length) →
    Instr.fill place (done ++ z).toArray ((vs.zipIdx i).map fun x => (x.2, x.1)) = some (done ++ (vs.map (·.cells.toList)).flatten ++ z.drop (vs.map (·.cells.size)).sum).toArray := by
  intro vs
  induction vs with
  | nil => intro szs i off done z _ _ _ _ _; simp [Instr.fill]
  | cons v r ih =>
    intro szs i off done z hd hs hl hp hz
    cases szs with
    | nil => simp at hl
    | cons s szs =>
      simp only [List.map_cons, List.length_cons, List.take_succ_cons, List.cons.injEq] at hs
      obtain ⟨h1, h2⟩ := hs
      have hp0 := hp 0 (by simp)
      simp only [Nat.add_zero, pieces, List.getElem?_cons_zero] at hp0
      simp only [List.sum_cons] at hz
      rw [List.zipIdx_cons, List.map_cons]
      unfold Instr.fill
      simp only [hp0]
      have hsz : ¬ ((decide (v.cells.size ≠ s) || decide (off + v.cells.size > (done ++ z).toArray.size)) = true) := by
        simp [h1, hd]; omega
      rw [if_neg hsz]
      have hf : (v.cells.zipIdx.foldl (fun cs (x : Value × Nat) => cs.setIfInBounds (off + x.2) x.1) (done ++ z).toArray) = ((done ++ v.cells.toList) ++ z.drop s).toArray := by
        apply Array.toList_inj.1
        have := fold_set v.cells.toList 0 off (done ++ z).toArray (by simp [h1, hd]; omega)
        rw [← Array.foldl_toList]
        simp only [Array.toList_zipIdx]
        rw [this]
        simp only [Nat.add_zero, Array.length_toList, h1]
        rw [List.take_append, List.drop_append, hd]
        rw [List.take_of_length_le (l := done) (by omega), List.drop_of_length_le (l := done) (by omega)]
        have e1 : off + s - off = s := by omega
        simp [e1]
      have := ih szs (i + 1) (off + s) (done ++ v.cells.toList) (z.drop s) (by simp [hd, h1]) h2 (by simpa using hl) (fun j hj => by
        have := hp (j + 1) (by simpa using hj)
        simp only [pieces, List.getElem?_cons_succ] at this
        rw [← this]; congr 1; omega) (by simp; omega)
      refine Eq.trans (congrArg (fun c => Instr.fill place c _) hf) (this.trans ?_)
      simp [List.append_assoc, List.drop_drop, h1]
theorem run_mapM {α β : Type} {P : Program} {w : World} (g : α → Sem β) (h : α → β) (l : List α) (hl : ∀ x ∈ l, (g x).run P w = .ok (h x) w) : (l.mapM g).run P w = .ok (l.map h) w := by
  induction l with
  | nil => simp
  | cons x r ih =>
    rw [List.mapM_cons, Sem.run_bind, hl x (by simp), Result.andThen_ok, Sem.run_bind, ih fun y hy => hl y (by simp [hy]), Result.andThen_ok, Sem.run_pure]
    rfl
theorem run_buildP {P : Program} {ρ : Operand → Value} {o : Oper} {w : World} {t : TypeId} {ps : List (Nat × Operand)} {vs : List Value} {szs : List Nat} {z : List Value} {us : List Value} (ho : o.op = .build t ps.toArray) (hv : ps.map (fun p => (p.1, ρ p.2)) = (vs.zipIdx 0).map fun x => (x.2, x.1))
    (ht : tyStruct P t szs z = true) (hz : zeroOf P t = some (.agg z.toArray)) (hs : vs.map (·.cells.size) = szs.take vs.length) (hl : Nat.ble vs.length szs.length = true) (hsum : Nat.ble szs.sum z.length = true) (hu : (vs.map (·.cells.toList)).flatten ++ z.drop (szs.take vs.length).sum = us) :
    (execOp ρ o).run P w = .ok (.value (.agg us.toArray)) w := by
  subst hu
  unfold tyStruct at ht
  cases hun : P.underlying t with
  | none => rw [hun] at ht; cases ht
  | some d =>
    rw [hun] at ht
    cases d with
    | struct fs =>
      simp only [Bool.and_eq_true, beq_iff_eq, List.all_eq_true] at ht
      obtain ⟨⟨h1, h2⟩, _⟩ := ht
      have hzv : (zeroValue t).run P w = .ok (.agg z.toArray) w := by
        unfold zeroOf at hz
        cases hi : P.info? t with
        | none => rw [hi] at hz; cases hz
        | some i => rw [hi] at hz; simp only [Option.bind_some] at hz; simp [zeroValue, typeInfo, hi, hz]
      have hplaces : (fs.mapM (m := Sem) fun f => do pure (f.offset, ← sizeOf f.type)).run P w = .ok (pieces 0 szs 0).toArray w := by
        have key := run_mapM (P := P) (w := w) (fun f : Field => (do pure (f.offset, ← sizeOf f.type) : Sem (Nat × Nat))) (fun f => (f.offset, (match P.info? f.type with | some i => i.size | none => 0))) fs.toList (fun f hf => by
          obtain ⟨i, hi⟩ := Option.isSome_iff_exists.1 (h2 f hf)
          simp [sizeOf, typeInfo, hi])
        rw [h1] at key
        rw [Array.mapM_eq_mapM_toList, map_eq_pure_bind, Sem.run_bind, key, Result.andThen_ok, Sem.run_pure]
      have hfill := fill_prefix (fun i => (pieces 0 szs 0).toArray[i]?) vs szs 0 0 [] z rfl hs (by simpa using hl) (fun j _ => by simp) (by simpa using hsum)
      rw [hs] at hfill
      simp only [List.nil_append] at hfill
      have hps : (ps.toArray.map fun x => (x.1, ρ x.2)).toList = (vs.zipIdx 0).map fun x => (x.2, x.1) := by simpa using hv
      simp only [execOp, ho, Instr.build, Sem.run_bind, hzv, Result.andThen_ok, run_underlying hun, hplaces, hps, Value.cells]
      simp only [hfill]
      rfl
    | _ => cases ht
theorem pieces_rep (sz : Nat) : ∀ (n off j : Nat), j < n → (pieces off (List.replicate n sz) 0)[j]? = some (off + j * sz, sz)
  | 0, _, _, h => by omega
  | n + 1, off, 0, _ => by simp [List.replicate_succ, pieces]
  | n + 1, off, j + 1, h => by
    rw [List.replicate_succ, pieces, List.getElem?_cons_succ, pieces_rep sz n (off + sz) j (by omega), Nat.add_mul]
    congr 2; omega
/-- A slice of just these. -/
theorem run_buildSliceA {P : Program} {ρ : Operand → Value} {o : Oper} {w : World} {t e : TypeId} {n sz : Nat} {ps : List (Nat × Operand)} {vs us : List Value} {z : List Value} (ho : o.op = .buildSlice t n ps.toArray) (hv : ps.map (fun p => (p.1, ρ p.2)) = (vs.zipIdx 0).map fun x => (x.2, x.1)) (hn : vs.length = n) (ht : tySlice P t e = true) (hs : tySize P e sz = true) (hz : (zeroOf P e).map (·.cells.toList) = some z) (hzl : z.length = sz)
    (hsz : vs.map (·.cells.size) = List.replicate n sz) (h16 : Nat.ble (n * sz) 16777216 = true) (h0 : Nat.blt 0 (n * sz) = true) (hu : (vs.map (·.cells.toList)).flatten = us) :
    (execOp ρ o).run P w = .ok (.value (.slice (some ⟨w.heap.size, 0, none⟩) n n)) (w.alloc (.cells us.toArray e)) := by
  subst hu
  have h16' : ¬ n * sz > 2 ^ 24 := by have := Nat.le_of_ble_eq_true h16; omega
  have h0' : ¬ n * sz = 0 := by have : 0 < n * sz := by simpa using h0
                                omega
  have hzv : ∃ u, (zeroValue e).run P w = .ok u w ∧ u.cells.toList = z := by
    unfold zeroOf at hz
    cases hi : P.info? e with
    | none => rw [hi] at hz; cases hz
    | some i =>
      rw [hi] at hz
      cases hu : i.zero with
      | none => simp [hu] at hz
      | some u => exact ⟨u, by simp [zeroValue, typeInfo, hi, hu], by simpa [hu] using hz⟩
  obtain ⟨u, hu1, hu2⟩ := hzv
  have hps : (ps.toArray.map fun x => (x.1, ρ x.2)).toList = (vs.zipIdx 0).map fun x => (x.2, x.1) := by simpa using hv
  have hzc : (Array.range (n * sz)).map (u.cells[· % u.cells.size]!) = (([] : List Value) ++ ((Array.range (n * sz)).map (u.cells[· % u.cells.size]!)).toList).toArray := by rw [List.nil_append, Array.toArray_toList]
  have hlen : ((Array.range (n * sz)).map (u.cells[· % u.cells.size]!)).toList.length = n * sz := by simp
  have hsum : ∀ m, (List.replicate m sz).sum = m * sz := by
    intro m
    induction m with
    | zero => simp
    | succ m ih => rw [List.replicate_succ, List.sum_cons, ih, Nat.add_mul]; omega
  have hfill := fill_prefix (fun i => some (i * sz, sz)) vs (List.replicate n sz) 0 0 [] ((Array.range (n * sz)).map (u.cells[· % u.cells.size]!)).toList rfl (by rw [hsz, hn, List.take_replicate, Nat.min_self]) (by simp [hn]) (fun j hj => by
    have hj' : j < n := by simpa using hj
    rw [pieces_rep sz n 0 j hj']; simp) (by rw [hsum, hlen]; exact Nat.le_refl _)
  rw [← hzc, hsz, hsum, List.drop_of_length_le (by rw [hlen]; exact Nat.le_refl _), List.append_nil, List.nil_append] at hfill
  simp only [execOp, ho, Instr.buildSlice, Sem.run_bind, run_underlying (slice_und ht), Result.andThen_ok, run_size (w := w) hs, if_neg h16', if_neg h0', hu1, Sem.run_pure, hps, hfill]
  rfl
theorem run_buildSlice0 {P : Program} {ρ : Operand → Value} {o : Oper} {w : World} {t e : TypeId} (ho : o.op = .buildSlice t 0 #[]) (ht : tySlice P t e = true) (hs : (P.info? e).isSome = true) : (execOp ρ o).run P w = .ok (.value (.slice (some ⟨w.heap.size, 0, none⟩) 0 0)) (w.alloc (.cells #[] e)) := by
  obtain ⟨i, hi⟩ := Option.isSome_iff_exists.1 hs
  simp [execOp, ho, Instr.buildSlice, run_underlying (slice_und ht), sizeOf, typeInfo, hi, Instr.fill, newRow, Array.range_zero']

/-! ### A slot's value moves on -/
section
variable {P : Program} {o : Oper} {w : World} {l : List (Nat × Value)} {s : Tmp} {v : Value} {x : Operand}
theorem run_move (ho : o.op = .move (.tmp s)) (h : l.lookup s = some v) : (execOp (evL l) o).run P w = .ok (.value v) w := by
  simp [execOp, ho, evL, h]
theorem run_assign (ho : o.op = .assign (.tmp s)) (h : l.lookup s = some v) : (execOp (evL l) o).run P w = .ok (.value v) w := by
  simp [execOp, ho, evL, h]
theorem mv {ops : Array Oper} {Q : Exit → Act → World → Prop} {n d : Nat} {a : Act} {rest : List Oper} (E : Env l n a) (k : ∀ a', Env ((d, v) :: l) n a' → wpList P ops Q rest a' w) (ho : o.op = .move (.tmp s) := by rfl) (hv : l.lookup s = some v := by rfl) (hd : o.dst = some d := by rfl) (hn : Nat.blt d n = true := by rfl) (hc : covers l o = true := by rfl) (hg : guardIn ops l o = true := by rfl) (hw : wantedL ops l o = true := by rfl) : wpList P ops Q (o :: rest) a w :=
  sv E hd hn hc hg hw (run_move ho hv) k
theorem ma {ops : Array Oper} {Q : Exit → Act → World → Prop} {n d : Nat} {a : Act} {rest : List Oper} (E : Env l n a) (k : ∀ a', Env ((d, v) :: l) n a' → wpList P ops Q rest a' w) (ho : o.op = .assign (.tmp s) := by rfl) (hv : l.lookup s = some v := by rfl) (hd : o.dst = some d := by rfl) (hn : Nat.blt d n = true := by rfl) (hc : covers l o = true := by rfl) (hg : guardIn ops l o = true := by rfl) (hw : wantedL ops l o = true := by rfl) : wpList P ops Q (o :: rest) a w :=
  sv E hd hn hc hg hw (run_assign ho hv) k
theorem run_moveC {v : Value} (ho : o.op = .move (.const v)) : (execOp (evL l) o).run P w = .ok (.value v) w := by simp [execOp, ho, evL]
theorem run_assignC {v : Value} (ho : o.op = .assign (.const v)) : (execOp (evL l) o).run P w = .ok (.value v) w := by simp [execOp, ho, evL]
theorem run_nilCheck {a : Addr} (ho : o.op = .nilCheck (.tmp s)) (h : l.lookup s = some (.pointer (some a))) : (execOp (evL l) o).run P w = .ok (.value (.pointer (some a))) w := by
  simp [execOp, ho, evL, h, Instr.sureAddr, asAddr]
theorem run_extract {i : Nat} {vs : Array Value} {v : Value} (ho : o.op = .extract (.tmp s) i) (h : l.lookup s = some (.tuple vs)) (hv : vs[i]? = some v) : (execOp (evL l) o).run P w = .ok (.value v) w := by
  simp [execOp, ho, evL, h, Instr.extract, hv]
end

section
variable {P : Program} {ρ : Operand → Value} {o : Oper} {w : World} {t s T e : TypeId} {A X : Operand} {v : Value} {n sz g : Nat} {xs : List Value} {cs : Array Value}
theorem run_toArrayR {m : Nat} (ho : o.op = .sliceToArrayPointer t X) (h : Reads sz w v n xs) (hX : ρ X = v) (ht : tyArr P t e m = true) (hn : m ≤ n) (h0 : 0 < m) : (execOp ρ o).run P w = .ok (.value (cellAt v 0)) w := by
  rcases h.2 with ⟨rfl, rfl⟩ | ⟨g, off, cap, rfl, _⟩
  · omega
  · rw [run_toArray ho hX ht hn, cellAt, add_plain, Nat.add_zero]
/-- A whole struct, or array, is stored. -/
theorem run_storeAll {vs : Array Value} {m : Nat} (ho : o.op = .store t A X) (hA : ρ A = .pointer (some ⟨g, 0, none⟩)) (hX : ρ X = .agg vs) (ht : tySize P t m = true) (hm : vs.size = m) (hg : w.heap[g]? = some (.cells cs T (0, 0))) (hk : cs.size = m) (h1 : ∀ v ∈ vs.toList, v.oneCell' = true) :
    (execOp ρ o).run P w = .ok .skip (w.setRow g vs) := by
  subst hm
  rw [run_storeN ho hA hX ht hg (by omega) h1]
  congr 2
  apply Array.toList_inj.1
  simp [hk]
theorem Reads.one (h : Reads sz w v n xs) : v.oneCell' = true := by
  obtain ⟨b, c, rfl⟩ := h.slice
  rfl
theorem cells_one (h : v.oneCell' = true) : v.cells = #[v] := by cases v <;> first | rfl | simp [Value.oneCell'] at h
end
section
variable {P : Program} {ρ : Operand → Value} {o : Oper} {w : World} {t t' e : TypeId} {X Y : Operand}
/-- An item of an array in memory. -/
theorem run_indexA {g off m sz i : Nat} {kd : IntKind} {x : Int} (ho : o.op = .indexAddr t X Y) (hX : ρ X = .pointer (some ⟨g, off, none⟩)) (hY : ρ Y = .int kd x) (hx : x = i) (hi : i < m) (ht : tyArr P t e m = true) (hs : tySize P e sz = true) :
    (execOp ρ o).run P w = .ok (.value (.pointer (some ⟨g, off + i * sz, none⟩))) w := by
  subst hx
  unfold tyArr at ht
  cases hu : P.underlying t with
  | none => rw [hu] at ht; cases ht
  | some d =>
    rw [hu] at ht
    cases d with
    | array m' e' =>
      simp at ht
      obtain ⟨rfl, rfl⟩ := ht
      simp [execOp, ho, hX, hY, Instr.indexAt, asIntOf, Instr.sureAddr, run_underlying hu, hi, run_size (w := w) hs, add_plain]
    | _ => cases ht
theorem run_shrV {k k' : IntKind} {x y z : Int} (ho : o.op = .binOp .shr t X Y t') (hX : ρ X = .int k x) (hY : ρ Y = .int k' y) (h : 0 ≤ y) (e : x.fdiv (2 ^ min y.toNat k.bits) = z) : (execOp ρ o).run P w = .ok (.value (.int k z)) w := by
  subst e
  have h' : ¬ y < 0 := by omega
  have hg : (eqGuard .shr t X Y (.int k x) (.int k' y)).run P w = .ok () w := rfl
  simp only [execOp, ho, hX, hY, Sem.run_bind, hg, Result.andThen_ok, binOp, Op.shift, if_neg h']
  rfl
end
/-! ### Bytes -/
def bc (l : List UInt8) : List Value := l.map fun b => .int .u8 (b.toNat : Int)
@[simp] theorem bc_length (l : List UInt8) : (bc l).length = l.length := by simp [bc]
@[simp] theorem bc_append (a b : List UInt8) : bc (a ++ b) = bc a ++ bc b := by simp [bc]
@[simp] theorem bc_nil : bc [] = [] := rfl
@[simp] theorem bc_cons (b : UInt8) (l : List UInt8) : bc (b :: l) = .int .u8 (b.toNat : Int) :: bc l := rfl
theorem bc_drop (l : List UInt8) (k : Nat) : (bc l).drop k = bc (l.drop k) := by simp [bc]
theorem bc_take (l : List UInt8) (k : Nat) : (bc l).take k = bc (l.take k) := by simp [bc]
theorem bc_one (l : List UInt8) : ∀ u ∈ bc l, u.oneCell' = true := by
  intro u hu
  obtain ⟨b, _, rfl⟩ := List.mem_map.1 hu
  rfl
theorem bc_get {l : List UInt8} {k : Nat} (h : k < l.length) : (bc l)[k]? = some (.int .u8 ((l[k]).toNat : Int)) := by simp [bc, h]
theorem take_all {l : List Value} {n : Nat} (h : l.length = n) : l.take n = l := List.take_of_length_le (by omega)
/-- A slice of bytes. -/
def Bytes (w : World) (v : Value) (l : List UInt8) : Prop := Reads 1 w v l.length (bc l)
theorem Bytes.held0 {w w' : World} {v : Value} {l : List UInt8} (h : Bytes w v l) (H : Held (feet []) w w') : Bytes w' v l := Reads.held0 h H
theorem Reads.nil (sz : Nat) (w : World) : Reads sz w (.slice none 0 0) 0 [] := ⟨by simp, .inl ⟨rfl, rfl⟩⟩
/-- A slice of ints. -/
def ic (l : List Int) : List Value := l.map fun b => .int .i64 b
@[simp] theorem ic_length (l : List Int) : (ic l).length = l.length := by simp [ic]
theorem ic_get {l : List Int} {k : Nat} (h : k < l.length) : (ic l)[k]? = some (.int .i64 l[k]) := by simp [ic, h]
def Ints (w : World) (v : Value) (l : List Int) : Prop := Reads 1 w v l.length (ic l)
theorem Ints.held0 {w w' : World} {v : Value} {l : List Int} (h : Ints w v l) (H : Held (feet []) w w') : Ints w' v l := Reads.held0 h H
/-- A number's eight bytes. -/
def be8 (v : Int) : List UInt8 := [UInt8.ofInt (v / 72057594037927936), UInt8.ofInt (v / 281474976710656), UInt8.ofInt (v / 1099511627776), UInt8.ofInt (v / 4294967296), UInt8.ofInt (v / 16777216), UInt8.ofInt (v / 65536), UInt8.ofInt (v / 256), UInt8.ofInt v]
theorem fd {x k k' : Int} (h : 0 ≤ k) (e : k' = k) : x.fdiv k' = x / k := by rw [e, Int.fdiv_eq_ediv_of_nonneg _ h]
theorem ofInt_toNat (x : Int) : ((UInt8.ofInt x).toNat : Int) = x % 256 := by
  unfold UInt8.ofInt
  simp
  omega
theorem be8_len (v : Int) : (be8 v).length = 8 := rfl
theorem ref_byte (v : Int) {j : Nat} (h1 : 1 ≤ j) (h8 : j ≤ 8) : IntKind.u8.wrap ((IntKind.u64.wrap v).fdiv (2 ^ min (8 * ((j : Int) - 1)).toNat IntKind.u64.bits)) = (((be8 v)[8 - j]'(by rw [be8_len]; omega)).toNat : Int) := by
  have hw : ∀ x : Int, IntKind.u64.wrap x = x % 18446744073709551616 := fun _ => rfl
  have h8w : ∀ x : Int, IntKind.u8.wrap x = x % 256 := fun _ => rfl
  obtain rfl | rfl | rfl | rfl | rfl | rfl | rfl | rfl : j = 1 ∨ j = 2 ∨ j = 3 ∨ j = 4 ∨ j = 5 ∨ j = 6 ∨ j = 7 ∨ j = 8 := by omega
  · refine (congrArg IntKind.u8.wrap (fd (k := 1) (by decide) rfl)).trans ?_; show _ = ((UInt8.ofInt v).toNat : Int); rw [ofInt_toNat, hw, h8w]; omega
  · refine (congrArg IntKind.u8.wrap (fd (k := 256) (by decide) rfl)).trans ?_; show _ = ((UInt8.ofInt (v / 256)).toNat : Int); rw [ofInt_toNat, hw, h8w]; omega
  · refine (congrArg IntKind.u8.wrap (fd (k := 65536) (by decide) rfl)).trans ?_; show _ = ((UInt8.ofInt (v / 65536)).toNat : Int); rw [ofInt_toNat, hw, h8w]; omega
  · refine (congrArg IntKind.u8.wrap (fd (k := 16777216) (by decide) rfl)).trans ?_; show _ = ((UInt8.ofInt (v / 16777216)).toNat : Int); rw [ofInt_toNat, hw, h8w]; omega
  · refine (congrArg IntKind.u8.wrap (fd (k := 4294967296) (by decide) rfl)).trans ?_; show _ = ((UInt8.ofInt (v / 4294967296)).toNat : Int); rw [ofInt_toNat, hw, h8w]; omega
  · refine (congrArg IntKind.u8.wrap (fd (k := 1099511627776) (by decide) rfl)).trans ?_; show _ = ((UInt8.ofInt (v / 1099511627776)).toNat : Int); rw [ofInt_toNat, hw, h8w]; omega
  · refine (congrArg IntKind.u8.wrap (fd (k := 281474976710656) (by decide) rfl)).trans ?_; show _ = ((UInt8.ofInt (v / 281474976710656)).toNat : Int); rw [ofInt_toNat, hw, h8w]; omega
  · refine (congrArg IntKind.u8.wrap (fd (k := 72057594037927936) (by decide) rfl)).trans ?_; show _ = ((UInt8.ofInt (v / 72057594037927936)).toNat : Int); rw [ofInt_toNat, hw, h8w]; omega
/-- Bytes as a number. -/
def fold64 (l : List UInt8) : Nat := l.foldl (fun u c => (u * 256 + c.toNat) % 18446744073709551616) 0
def num64 (l : List UInt8) : Int := IntKind.i64.wrap (fold64 l)
theorem fold64_take {l : List UInt8} {i : Nat} (h : i < l.length) : fold64 (l.take (i + 1)) = (fold64 (l.take i) * 256 + (l[i]).toNat) % 18446744073709551616 := by
  unfold fold64
  rw [List.take_succ_eq_append_getElem h, List.foldl_append]
  rfl
theorem or_step (u c : Nat) (hc : c < 256) : IntKind.u64.wrap ((BitVec.ofInt 64 (IntKind.u64.wrap ((u : Int) * 2 ^ 8)) ||| BitVec.ofInt 64 (IntKind.u64.wrap (c : Int))).toNat : Int) = ((u * 256 + c) % 18446744073709551616 : Nat) := by
  have hw : ∀ x : Int, IntKind.u64.wrap x = x % 18446744073709551616 := fun _ => rfl
  have h1 : (BitVec.ofInt 64 (IntKind.u64.wrap ((u : Int) * 2 ^ 8))).toNat = 2 ^ 8 * (u % 72057594037927936) := by
    rw [BitVec.toNat_ofInt, hw]; omega
  have h2 : (BitVec.ofInt 64 (IntKind.u64.wrap (c : Int))).toNat = c := by
    rw [BitVec.toNat_ofInt, hw]; omega
  rw [BitVec.toNat_or, h1, h2, ← Nat.two_pow_add_eq_or_of_lt (by omega), hw]
  omega
theorem num64_be8 (v : Int) (h0 : -9223372036854775808 ≤ v) (h1 : v ≤ 9223372036854775807) : num64 (be8 v) = v := by
  have key : (fold64 (be8 v) : Int) = v % 18446744073709551616 := by
    have e : ∀ x : Int, ((UInt8.ofInt x).toNat : Int) = x % 256 := ofInt_toNat
    simp only [fold64, be8, List.foldl_cons, List.foldl_nil]
    have a0 := e (v / 72057594037927936); have a1 := e (v / 281474976710656); have a2 := e (v / 1099511627776); have a3 := e (v / 4294967296); have a4 := e (v / 16777216); have a5 := e (v / 65536); have a6 := e (v / 256); have a7 := e v
    generalize (UInt8.ofInt (v / 72057594037927936)).toNat = b0 at *
    generalize (UInt8.ofInt (v / 281474976710656)).toNat = b1 at *
    generalize (UInt8.ofInt (v / 1099511627776)).toNat = b2 at *
    generalize (UInt8.ofInt (v / 4294967296)).toNat = b3 at *
    generalize (UInt8.ofInt (v / 16777216)).toNat = b4 at *
    generalize (UInt8.ofInt (v / 65536)).toNat = b5 at *
    generalize (UInt8.ofInt (v / 256)).toNat = b6 at *
    generalize (UInt8.ofInt v).toNat = b7 at *
    omega
  unfold num64
  rw [IntKind.wrap_i64, key]
  omega
/-- A slice of bytes of the call's own. -/
abbrev Ent.bytes (e : TypeId) (v : Value) (l : List UInt8) : Ent := .row e 1 v l.length (bc l)
theorem Mem.bytes {w0 w : World} {O : Nat → Prop} {L : List Ent} {Φ : World → Prop} {e : TypeId} {v : Value} {l : List UInt8} (M : Mem w0 O L Φ w) (i : Nat) (h : L[i]? = some (.bytes e v l)) : Bytes w v l := M.reads i h
/-- A part of a block, of the call's own, that reads as bytes. -/
def Ent.sub (v : Value) (l : List UInt8) : Ent := ⟨v.ownBlock.toList, fun w => Bytes w v l, fun w w' h k => by
  refine ⟨k.1, ?_⟩
  rcases k.2 with h2 | ⟨g, off, cap, rfl, h3, h4, h5, h6⟩
  · exact .inl h2
  · have hb := h g (by simp [Value.ownBlock])
    refine .inr ⟨g, off, cap, rfl, h3, h4, ?_, fun j u hu => (World.cell?_of_block (w := w) hb).trans (h6 j u hu)⟩
    have h7 : (w.heap[g]?).isSome = true := by simp [h5]
    rw [← hb] at h7
    simpa using h7⟩
theorem cutV_block (sz : Nat) (v : Value) (lo hi : Nat) (h : ∃ b n c, v = .slice b n c) : (cutV sz v lo hi).ownBlock = v.ownBlock := by
  obtain ⟨b, n, c, rfl⟩ := h
  show Value.ownBlock (.slice _ _ _) = _
  cases b with
  | none => split <;> rfl
  | some a => split <;> simp [Value.ownBlock, Addr.add] <;> split <;> rfl
theorem Mem.subs {w0 w : World} {O : Nat → Prop} {L : List Ent} {Φ : World → Prop} {v : Value} {l : List UInt8} (M : Mem w0 O L Φ w) (i : Nat) (h : L[i]? = some (.sub v l)) : Bytes w v l := M.ent i h
theorem Mem.as {w0 w : World} {O : Nat → Prop} {L L' : List Ent} {Φ : World → Prop} (M : Mem w0 O L Φ w) (h : L = L') : Mem w0 O L' Φ w := h ▸ M
theorem Bytes.cut {w : World} {v : Value} {l : List UInt8} (lo hi : Nat) (h : Bytes w v l) (h1 : lo ≤ hi) (h2 : hi ≤ l.length) : Bytes w (cutV 1 v lo hi) ((l.drop lo).take (hi - lo)) := by
  have := Reads.cut h h1 h2
  simp only [Nat.mul_one, bc_drop, bc_take] at this
  unfold Bytes
  rw [List.length_take, List.length_drop]
  rwa [show min (hi - lo) (l.length - lo) = hi - lo by omega]
theorem Mem.asSub {w0 w : World} {O : Nat → Prop} {L : List Ent} {Φ : World → Prop} {e : TypeId} {v : Value} {l : List UInt8} (M : Mem w0 O L Φ w) (i : Nat) (h : L[i]? = some (.bytes e v l)) : Mem w0 O (L.set i (.sub v l)) Φ w :=
  M.view h _ (fun k => ownsRow_reads k) fun g hg => hg
/-- .. the rest of it. -/
theorem Mem.rest {w0 w : World} {O : Nat → Prop} {L : List Ent} {Φ : World → Prop} {v : Value} {l : List UInt8} (M : Mem w0 O L Φ w) (i k : Nat) (h : L[i]? = some (.sub v l)) (hk : k ≤ l.length) : Mem w0 O (L.set i (.sub (cutV 1 v k l.length) (l.drop k))) Φ w := by
  have hb := M.subs i h
  refine M.view h _ (fun _ => ?_) fun g hg => ?_
  · have := Bytes.cut k l.length hb hk (Nat.le_refl _)
    rwa [List.take_of_length_le (by simp)] at this
  · obtain ⟨b, c, hv⟩ := Reads.slice hb
    simp only [Ent.sub] at hg ⊢
    rwa [cutV_block _ _ _ _ ⟨b, _, c, hv⟩] at hg
theorem Bytes.pre {w : World} {v : Value} {l : List UInt8} {k : Nat} (h : Bytes w v l) (hk : k ≤ l.length) : Bytes w (cutV 1 v 0 k) (l.take k) := by simpa using Bytes.cut 0 k h (Nat.zero_le _) hk
theorem Bytes.suf {w : World} {v : Value} {l : List UInt8} {k : Nat} (h : Bytes w v l) (hk : k ≤ l.length) : Bytes w (cutV 1 v k l.length) (l.drop k) := by
  have := Bytes.cut k l.length h hk (Nat.le_refl _)
  rwa [List.take_of_length_le (by simp)] at this
theorem Bytes.nil (w : World) : Bytes w (.slice none 0 0) [] := Reads.nil 1 w
theorem Bytes.ext {w w' : World} {v : Value} {l : List UInt8} (h : Bytes w v l) (H : Ext w w') : Bytes w' v l := Reads.ext h H
section
variable {P : Program} {ops : Array Oper} {Q : Exit → Act → World → Prop} {l : List (Nat × Value)} {n : Nat} {a : Act} {w w' w0 : World} {rest : List Oper} {o : Oper} {O : Nat → Prop} {L R : List Ent} {Φ : World → Prop}
theorem ssetB {i k : Nat} {t e : TypeId} {A X : Operand} {v : Value} {b : UInt8} {x : Int} {xs : List UInt8} (E : Env l n a) (M : Mem w0 O L Φ w) (hL : L[i]? = some (.bytes e v xs)) (hd : o.dst = none) (hc : covers l o = true) (hg : guardIn ops l o = true) (hw : wantedL ops l o = true)
    (ho : o.op = .store t A X) (hA : evL l A = cellAt v (k * 1)) (hX : evL l X = .int .u8 x) (hb : x = (b.toNat : Int)) (ht : tySize P t 1 = true) (hk : k < xs.length)
    (kk : ∀ a' w', Mem w0 O (L.set i (.bytes e v (xs.set k b))) Φ w' → Env l n a' → wpList P ops Q rest a' w') : wpList P ops Q (o :: rest) a w := by
  subst hb
  refine ssetR E M hL hd hc hg hw ho hA hX ht (by omega) rfl rfl fun a' w' M' E' => kk a' w' (M'.as ?_) E'
  have e1 : bc (xs.set k b) = (bc xs).set (k * 1) (.int .u8 (b.toNat : Int)) := by simp [bc, List.map_set]
  unfold Ent.bytes
  rw [e1, List.length_set]
theorem sappB {d : Tmp} {i : Nat} {t tx e e' : TypeId} {X Y : Operand} {v x : Value} {xs news : List UInt8} {args : List Operand} {ts : List TypeId} (E : Env l n a) (M : Mem w0 O L Φ w) (hL : L[i]? = some (.bytes e v xs)) (hd : o.dst = some d) (hn : Nat.blt d n = true) (hc : covers l o = true) (hg : guardIn ops l o = true) (hw : wantedL ops l o = true)
    (ho : o.op = .call { callee := .builtin .append, args := args.toArray, argTypes := ts.toArray }) (ha : args = [X, Y]) (hts : ts = [t, tx]) (hX : evL l X = v) (hY : evL l Y = x) (ht : tySlice P t e = true) (htx : tySlice P tx e' = true) (hz : tyZero P e 1 = true) (hb : tyBytes' P e 1 = true) (hr : Bytes w x news) (hmax : xs.length + news.length ≤ 70368744177664)
    (kk : ∀ v' a' w', Mem w0 O (L.set i (.bytes e v' (xs ++ news))) Φ w' → Env ((d, v') :: l) n a' → wpList P ops Q rest a' w') : wpList P ops Q (o :: rest) a w := by
  refine sapp E M hL hd hn hc hg hw ho ha hts hX hY ht htx hz hb (by decide) hr (bc_one news) (by omega) fun v' a' w' M' E' => kk v' a' w' (M'.as ?_) E'
  rw [← bc_append, ← List.length_append]
theorem made_one (z : Value) (c : Nat) : (madeCells #[z] c).toList = List.replicate c z := by
  apply List.ext_getElem
  · simp [madeCells]
  · intro i h1 h2
    simp [madeCells, Nat.mod_one]
/-- A slice is made: all of its items are zero. -/
theorem smake {d : Tmp} {t e : TypeId} {X Y : Operand} {kl kc : IntKind} {k c bytes : Nat} {x y : Int} {z : Value} (E : Env l n a) (M : Mem w0 O L Φ w) (hd : o.dst = some d) (hn : Nat.blt d n = true) (hc : covers l o = true) (hg : guardIn ops l o = true) (hw : wantedL ops l o = true)
    (ho : o.op = .makeSlice t X Y) (hX : evL l X = .int kl x) (hY : evL l Y = .int kc y) (hx : x = k) (hy : y = c) (ht : tySlice P t e = true) (hz : tyZero P e 1 = true) (hz1 : (zeroOf P e).map (·.cells) = some #[z]) (hb : tyBytes' P e bytes = true) (hk : k ≤ c) (hmax : c * (bytes + 1) ≤ 140737488355328)
    (kk : ∀ v a' w', Mem w0 O (.row e 1 v k (List.replicate k z) :: L) Φ w' → Env ((d, v) :: l) n a' → wpList P ops Q rest a' w') : wpList P ops Q (o :: rest) a w := by
  obtain ⟨cs, hcs, hr, i, u, hi, hu, rfl⟩ := run_makeR (P := P) (w := w) ho hX hY hx hy ht hz hb hk hmax
  have hu1 : u.cells = #[z] := by simpa [zeroOf, hi, hu] using hz1
  have hc1 : c ≤ maxLen := by
    have : c * (bytes + 1) = c * bytes + c := by rw [Nat.mul_add, Nat.mul_one]
    simp only [maxLen]; omega
  refine srow (xs := List.replicate k z) E M hd hn hc hg hw hr hcs hk hc1 ?_ kk
  rw [hu1, Nat.mul_one, Nat.mul_one, made_one, List.take_replicate]
  congr 1
  omega
theorem smakeB {d : Tmp} {t e : TypeId} {X Y : Operand} {kl kc : IntKind} {k c : Nat} {x y : Int} (E : Env l n a) (M : Mem w0 O L Φ w) (hd : o.dst = some d) (hn : Nat.blt d n = true) (hc : covers l o = true) (hg : guardIn ops l o = true) (hw : wantedL ops l o = true)
    (ho : o.op = .makeSlice t X Y) (hX : evL l X = .int kl x) (hY : evL l Y = .int kc y) (hx : x = k) (hy : y = c) (ht : tySlice P t e = true) (hz : tyZero P e 1 = true) (hz1 : (zeroOf P e).map (·.cells) = some #[.int .u8 0]) (hb : tyBytes' P e 1 = true) (hk : k ≤ c) (hmax : c ≤ 70368744177664)
    (kk : ∀ v a' w', Mem w0 O (.bytes e v (List.replicate k 0) :: L) Φ w' → Env ((d, v) :: l) n a' → wpList P ops Q rest a' w') : wpList P ops Q (o :: rest) a w := by
  refine smake E M hd hn hc hg hw ho hX hY hx hy ht hz hz1 hb hk (by omega) fun v a' w' M' E' => kk v a' w' (M'.as ?_) E'
  have h1 : bc (List.replicate k 0) = List.replicate k (.int .u8 0) := by simp [bc]
  unfold Ent.bytes
  rw [h1, List.length_replicate]
end
end Go.Rill
end
section
namespace Go.Rill
set_option linter.unusedVariables false
set_option linter.unusedSimpArgs false
open Go.RowKit

/-- The kinds of a struct's numbers, where its fields stand one behind the other. -/
def flatFs (K : TypeId → Option (List IntKind)) : List Field → Nat → Option (List IntKind)
  | [], _ => some []
  | f :: fs, off => match K f.type with
    | none => none
    | some ks => if f.offset == off && !(f.name == "_") then (match flatFs K fs (off + ks.length) with | some r => some (ks ++ r) | none => none) else none
/-- The kinds of a type's numbers, where it has numbers alone. -/
def flatK (P : Program) : Nat → TypeId → Option (List IntKind)
  | 0, _ => none
  | d + 1, t => match P.underlying t with
    | some (.int k) => if tyOne P t then some [k] else none
    | some (.struct fs) => match flatFs (flatK P d) fs.toList 0 with
      | some ks => if tyAgg P t ks.length && !P.stoodInHeld t then some ks else none
      | none => none
    | some (.array n e) => match flatK P d e with
      | some ks => if P.cellsOf e == ks.length && (P.info? e).isSome && tyAgg P t (n * ks.length) then some (List.replicate n ks).flatten else none
      | none => none
    | _ => none
def kindOf : Value → Option IntKind
  | .int k _ => some k
  | _ => none
def Fit (ks : List IntKind) (L : List Value) : Prop := L.map kindOf = ks.map some
theorem Fit.len {ks : List IntKind} {L : List Value} (h : Fit ks L) : L.length = ks.length := by
  have := congrArg List.length h
  simpa using this
theorem Fit.split {ks js : List IntKind} {L : List Value} (h : Fit (ks ++ js) L) : ∃ A B, L = A ++ B ∧ Fit ks A ∧ Fit js B := by
  refine ⟨L.take ks.length, L.drop ks.length, (List.take_append_drop _ _).symm, ?_, ?_⟩
  · unfold Fit at *
    rw [List.map_take, h, List.map_append, List.take_left' (by simp)]
  · unfold Fit at *
    rw [List.map_drop, h, List.map_append, List.drop_left' (by simp)]
def mkv (P : Program) (t : TypeId) (L : List Value) : Value := if tyOne P t then L.headD undef else .agg L.toArray
def EqOk (P : Program) (d : Nat) (t : TypeId) (ks : List IntKind) : Prop := ∀ (w : World) (xs ys : List Value), Fit ks xs → Fit ks ys → ∃ r, (Op.equalIn d t (mkv P t xs) (mkv P t ys)).run P w = .ok r w ∧ (r = true ↔ xs = ys)
theorem part_mid {P : Program} {w : World} {t : TypeId} {ks : List IntKind} {pre A post : List Value} {off : Nat} (hs : (tyOne P t = true ∧ ks.length = 1) ∨ (tyOne P t = false ∧ tyAgg P t ks.length = true)) (hp : pre.length = off) (hA : Fit ks A) : (part t (pre ++ A ++ post).toArray off).run P w = .ok (mkv P t A) w := by
  rcases hs with ⟨h1, h2⟩ | ⟨h1, h2⟩
  · obtain ⟨v, rfl⟩ : ∃ v, A = [v] := List.length_eq_one_iff.1 (by rw [hA.len, h2])
    have hi : (isAgg t).run P w = .ok false w := isAgg_one h1
    have hg : (pre ++ [v] ++ post).toArray[off]? = some v := by
      simp [List.getElem?_append, hp]
    simp only [part, Sem.run_bind, hi, Result.andThen_ok, Bool.false_eq_true, if_false, hg, Sem.run_pure, mkv, h1, if_true, List.headD_cons]
  · obtain ⟨dd, hu, hr⟩ := tyAgg_und h2
    have hi : (isAgg t).run P w = .ok true w := by
      cases dd <;> simp_all [isAgg, run_underlying hu, TypeDesc.isRow]
    have he : (pre ++ A ++ post).toArray.extract off (off + ks.length) = A.toArray := by
      apply Array.toList_inj.1
      simp [← hp, ← hA.len]
    simp only [part, Sem.run_bind, hi, Result.andThen_ok, if_true, run_size (w := w) (tyAgg_size h2), he, Sem.run_pure, mkv, h1, Bool.false_eq_true, if_false]
theorem shape_of {P : Program} {d : Nat} {t : TypeId} {ks : List IntKind} (h : flatK P d t = some ks) : (tyOne P t = true ∧ ks.length = 1) ∨ (tyOne P t = false ∧ tyAgg P t ks.length = true) := by
  cases d with
  | zero => simp [flatK] at h
  | succ d =>
    unfold flatK at h
    cases hu : P.underlying t with
    | none => rw [hu] at h; cases h
    | some dd =>
      rw [hu] at h
      cases dd with
      | int k =>
        simp only at h
        split at h
        · rename_i hc
          injection h with h
          subst h
          exact .inl ⟨hc, rfl⟩
        · cases h
      | struct fs =>
        simp only at h
        split at h
        · split at h
          · rename_i hc
            rw [Bool.and_eq_true] at hc
            injection h with h
            subst h
            exact .inr ⟨by simp [tyOne, hu], hc.1⟩
          · cases h
        · cases h
      | array n e =>
        simp only at h
        split at h
        · rename_i ks' _
          split at h
          · rename_i hc
            simp only [Bool.and_eq_true] at hc
            injection h with h
            subst h
            refine .inr ⟨by simp [tyOne, hu], ?_⟩
            have : (List.replicate n ks').flatten.length = n * ks'.length := by simp
            rw [this]
            exact hc.2
          · cases h
        · cases h
      | _ => cases h
theorem eqFields_flat {P : Program} {d : Nat} (K : ∀ t ks, flatK P d t = some ks → EqOk P d t ks) : ∀ (fs : List Field) (off : Nat) (ks : List IntKind), flatFs (flatK P d) fs off = some ks → ∀ (w : World) (p q xs ys : List Value), p.length = off → q.length = off → Fit ks xs → Fit ks ys →
    ∃ r, (Op.eqFields d (p ++ xs).toArray (q ++ ys).toArray fs).run P w = .ok r w ∧ (r = true ↔ xs = ys)
  | [], off, ks, h, w, p, q, xs, ys, hp, hq, hx, hy => by
    simp only [flatFs, Option.some.injEq] at h
    subst h
    have e1 : xs = [] := List.eq_nil_of_length_eq_zero (by simpa using hx.len)
    have e2 : ys = [] := List.eq_nil_of_length_eq_zero (by simpa using hy.len)
    exact ⟨true, by simp [Op.eqFields], by simp [e1, e2]⟩
  | f :: fs, off, ks, h, w, p, q, xs, ys, hp, hq, hx, hy => by
    unfold flatFs at h
    cases hk : flatK P d f.type with
    | none => rw [hk] at h; cases h
    | some k1 =>
      rw [hk] at h
      simp only at h
      split at h
      · rename_i hc
        simp only [Bool.and_eq_true, Bool.not_eq_true', beq_iff_eq] at hc
        obtain ⟨hoff, hn⟩ := hc
        cases hr : flatFs (flatK P d) fs (off + k1.length) with
        | none => rw [hr] at h; cases h
        | some k2 =>
          rw [hr] at h
          simp only [Option.some.injEq] at h
          subst h
          obtain ⟨A, xs', rfl, hA, hx'⟩ := hx.split
          obtain ⟨B, ys', rfl, hB, hy'⟩ := hy.split
          have hn' : f.name ≠ "_" := by simpa using hn
          have s1 := part_mid (P := P) (w := w) (post := xs') (shape_of hk) (hp.trans hoff.symm) hA
          have s2 := part_mid (P := P) (w := w) (post := ys') (shape_of hk) (hq.trans hoff.symm) hB
          obtain ⟨r, hr1, hr2⟩ := K _ _ hk w A B hA hB
          obtain ⟨r', hr3, hr4⟩ := eqFields_flat K fs _ _ hr w (p ++ A) (q ++ B) xs' ys' (by simp [hp, hA.len]) (by simp [hq, hB.len]) hx' hy'
          rw [List.append_assoc] at s1 s2 hr3
          rw [List.append_assoc] at hr3
          unfold Op.eqFields
          simp only [if_pos hn', Sem.run_bind, s1, s2, hr1, Result.andThen_ok]
          cases r with
          | false => exact ⟨false, by simp, by simp; intro e; have := List.append_inj_left e (by rw [hA.len, hB.len]); exact absurd (hr2.2 this) (by simp)⟩
          | true =>
            have hAB := hr2.1 rfl
            refine ⟨r', by simpa using hr3, ?_⟩
            rw [hr4, hAB]
            simp
      · cases h
theorem fit_rep {ks : List IntKind} : ∀ {n : Nat} {xs : List Value}, Fit (List.replicate (n + 1) ks).flatten xs → ∃ A B, xs = A ++ B ∧ Fit ks A ∧ Fit (List.replicate n ks).flatten B := by
  intro n xs h
  rw [List.replicate_succ, List.flatten_cons] at h
  exact h.split
theorem eqItems_flat {P : Program} {d : Nat} {e : TypeId} {ks : List IntKind} (hk : flatK P d e = some ks) (K : EqOk P d e ks) : ∀ (n s : Nat) (w : World) (p q xs ys : List Value), p.length = s * ks.length → q.length = s * ks.length → Fit (List.replicate n ks).flatten xs → Fit (List.replicate n ks).flatten ys →
    ∃ r, (Op.eqItems d e ks.length (p ++ xs).toArray (q ++ ys).toArray (List.range' s n)).run P w = .ok r w ∧ (r = true ↔ xs = ys)
  | 0, s, w, p, q, xs, ys, hp, hq, hx, hy => by
    have e1 : xs = [] := List.eq_nil_of_length_eq_zero (by simpa using hx.len)
    have e2 : ys = [] := List.eq_nil_of_length_eq_zero (by simpa using hy.len)
    exact ⟨true, by simp [Op.eqItems], by simp [e1, e2]⟩
  | n + 1, s, w, p, q, xs, ys, hp, hq, hx, hy => by
    obtain ⟨A, xs', rfl, hA, hx'⟩ := fit_rep hx
    obtain ⟨B, ys', rfl, hB, hy'⟩ := fit_rep hy
    have s1 := part_mid (P := P) (w := w) (post := xs') (shape_of hk) hp hA
    have s2 := part_mid (P := P) (w := w) (post := ys') (shape_of hk) hq hB
    obtain ⟨r, hr1, hr2⟩ := K w A B hA hB
    obtain ⟨r', hr3, hr4⟩ := eqItems_flat hk K n (s + 1) w (p ++ A) (q ++ B) xs' ys' (by simp [hp, hA.len, Nat.add_mul]) (by simp [hq, hB.len, Nat.add_mul]) hx' hy'
    rw [List.append_assoc] at s1 s2 hr3
    rw [List.append_assoc] at hr3
    rw [List.range'_succ]
    unfold Op.eqItems
    simp only [Sem.run_bind, s1, s2, hr1, Result.andThen_ok]
    cases r with
    | false => exact ⟨false, by simp, by simp; intro e; have := List.append_inj_left e (by rw [hA.len, hB.len]); exact absurd (hr2.2 this) (by simp)⟩
    | true =>
      have hAB := hr2.1 rfl
      refine ⟨r', by simpa using hr3, ?_⟩
      rw [hr4, hAB]
      simp
theorem flat_eq {P : Program} : ∀ (d : Nat) (t : TypeId) (ks : List IntKind), flatK P d t = some ks → EqOk P d t ks
  | 0, t, ks, h => by simp [flatK] at h
  | d + 1, t, ks, h => by
    have hsh := shape_of h
    unfold flatK at h
    intro w xs ys hx hy
    cases hu : P.underlying t with
    | none => rw [hu] at h; cases h
    | some dd =>
      rw [hu] at h
      cases dd with
      | int k =>
        simp only at h
        split at h
        · rename_i hc
          injection h with h
          subst h
          obtain ⟨x, rfl⟩ : ∃ v, xs = [v] := List.length_eq_one_iff.1 (by rw [hx.len]; rfl)
          obtain ⟨y, rfl⟩ : ∃ v, ys = [v] := List.length_eq_one_iff.1 (by rw [hy.len]; rfl)
          simp only [Fit, List.map_cons, List.map_nil, List.cons.injEq, and_true] at hx hy
          cases x <;> simp only [kindOf, reduceCtorEq] at hx
          cases y <;> simp only [kindOf, reduceCtorEq] at hy
          simp only [Option.some.injEq] at hx hy
          subst hx hy
          rename_i a _ b
          refine ⟨a == b, ?_, by simp⟩
          simp only [mkv, hc, if_true, List.headD_cons]
          exact run_equalIn_int w d t _ _ a b hu
        · cases h
      | struct fs =>
        simp only at h
        cases hf : flatFs (flatK P d) fs.toList 0 with
        | none => rw [hf] at h; cases h
        | some ks' =>
          rw [hf] at h
          simp only at h
          split at h
          · rename_i hc
            simp only [Bool.and_eq_true, Bool.not_eq_true'] at hc
            injection h with h
            subst h
            have ho : tyOne P t = false := by simp [tyOne, hu]
            have hfo : P.fieldsOf t = fs := by simp [Program.fieldsOf, hu]
            simp only [mkv, ho, Bool.false_eq_true, if_false]
            rw [run_equalIn_struct (P := P) w d t _ _ (by rw [hfo]; exact hu) hc.2, hfo]
            have := eqFields_flat (fun t ks h => flat_eq d t ks h) fs.toList 0 _ hf w [] [] xs ys rfl rfl hx hy
            simpa using this
          · cases h
      | array n e =>
        simp only at h
        cases hf : flatK P d e with
        | none => rw [hf] at h; cases h
        | some ks' =>
          rw [hf] at h
          simp only at h
          split at h
          · rename_i hc
            simp only [Bool.and_eq_true, beq_iff_eq] at hc
            injection h with h
            subst h
            obtain ⟨i, hi⟩ := Option.isSome_iff_exists.1 hc.1.2
            have ho : tyOne P t = false := by simp [tyOne, hu]
            simp only [mkv, ho, Bool.false_eq_true, if_false]
            rw [run_equalIn_array (P := P) w d _ _ hu hi, hc.1.1, List.range_eq_range']
            have := eqItems_flat hf (flat_eq d e _ hf) n 0 w [] [] xs ys (by simp) (by simp) hx hy
            simpa using this
          · cases h
      | _ => cases h
/-- A struct, or an array, held against another. -/
def tyFlat (P : Program) (t : TypeId) (ks : List IntKind) : Bool := flatK P 10000 t == some ks && !tyOne P t && !P.eqGuardType P.depth t
theorem run_eqF {P : Program} {ρ : Operand → Value} {o : Oper} {w : World} {t t' : TypeId} {X Y : Operand} {xs ys : List Value} {ks : List IntKind} {b : Bool} (ho : o.op = .binOp .eql t X Y t') (hX : ρ X = .agg xs.toArray) (hY : ρ Y = .agg ys.toArray) (ht : tyFlat P t ks = true) (hx : Fit ks xs) (hy : Fit ks ys) (hb : b = true ↔ xs = ys) :
    (execOp ρ o).run P w = .ok (.value (.bool b)) w := by
  simp only [tyFlat, Bool.and_eq_true, Bool.not_eq_true', beq_iff_eq] at ht
  obtain ⟨⟨h1, h2⟩, h3⟩ := ht
  obtain ⟨r, hr, hrb⟩ := flat_eq 10000 t ks h1 w xs ys hx hy
  simp only [mkv, h2, Bool.false_eq_true, if_false] at hr
  have e : r = b := by rw [Bool.eq_iff_iff, hrb, hb]
  subst e
  have hg := run_eqGuard_agg (P := P) w .eql t X Y xs.toArray ys.toArray h3
  have he := run_eql_struct (P := P) w t xs.toArray ys.toArray
  rw [hr, Result.andThen_ok] at he
  simp only [execOp, ho, hX, hY, Sem.run_bind, hg, Result.andThen_ok, he]
  rfl
theorem fit_bc (l : List UInt8) : Fit (List.replicate l.length .u8) (bc l) := by
  unfold Fit bc
  rw [List.map_map, List.map_replicate]
  exact List.map_const'
theorem Fit.app {ks js : List IntKind} {A B : List Value} (h : Fit ks A) (k : Fit js B) : Fit (ks ++ js) (A ++ B) := by
  unfold Fit at *
  rw [List.map_append, h, k, List.map_append]
end Go.Rill
end
section
namespace Go.Rill
set_option linter.unusedVariables false
set_option linter.unusedSimpArgs false
open Go.RowKit
structure Rec where
  gen : Int
  stamp : Int
  epoch : Int
  super : List UInt8
  rat : Int
  rsum : List UInt8
  bseg : Int
  bslot : Int
  tseg : Int
  tslot : Int
  bsum : List UInt8
  tsum : List UInt8
def iv (n : Int) : Value := .int .i64 n
/-- Digests have 32 bytes. -/
structure Rec.Ok (r : Rec) : Prop where
  super : r.super.length = 32
  rsum : r.rsum.length = 32
  bsum : r.bsum.length = 32
  tsum : r.tsum.length = 32
def Rec.cells (r : Rec) : List Value := iv r.gen :: iv r.stamp :: iv r.epoch :: (bc r.super ++ (iv r.rat :: (bc r.rsum ++ (iv r.bseg :: iv r.bslot :: iv r.tseg :: iv r.tslot :: (bc r.bsum ++ bc r.tsum)))))
def Rec.val (r : Rec) : Value := .agg r.cells.toArray
section
variable {r : Rec} (h : r.Ok)
include h
theorem Rec.len : r.cells.length = 136 := by simp [Rec.cells, h.super, h.rsum, h.bsum, h.tsum]
theorem Rec.size : r.cells.toArray.size = 136 := by simp [Rec.len h]
end
theorem bc_inj {a b : List UInt8} (h : bc a = bc b) : a = b := by
  induction a generalizing b with
  | nil => cases b with
    | nil => rfl
    | cons => cases h
  | cons x r ih => cases b with
    | nil => cases h
    | cons y s =>
      simp only [bc_cons, List.cons.injEq, Value.int.injEq, true_and] at h
      rw [ih h.2, UInt8.toNat_inj.1 (Int.ofNat_inj.1 h.1)]
theorem Rec.ones (r : Rec) : ∀ v ∈ r.cells, v.oneCell' = true := by
  intro v hv
  simp only [Rec.cells, iv, List.mem_cons, List.mem_append] at hv
  rcases hv with rfl | rfl | rfl | hv | rfl | hv | rfl | rfl | rfl | rfl | hv | hv
  all_goals first | rfl | exact bc_one _ v hv
section
variable {r : Rec} (h : r.Ok)
include h
end
section
variable {r : Rec} (h : r.Ok)
include h
end
def Rec.zero : Rec := ⟨0, 0, 0, List.replicate 32 0, 0, List.replicate 32 0, 0, 0, 0, 0, List.replicate 32 0, List.replicate 32 0⟩
/-- What may be a record. -/
def RPl (s q : Int) : Prop := (0 ≤ s ∧ s ≤ 31) ∧ (0 ≤ q ∧ q ≤ 63)
instance (s q : Int) : Decidable (RPl s q) := by unfold RPl; infer_instance
def RNum (n : Int) : Prop := 1 ≤ n ∧ n ≤ 1099511627776
instance (n : Int) : Decidable (RNum n) := by unfold RNum; infer_instance
def Rec.Root (r : Rec) : Prop := (r.rat = 0 ∧ r.rsum = List.replicate 32 0) ∨ (3 ≤ r.rat ∧ r.rat ≤ 4095)
instance (r : Rec) : Decidable r.Root := by unfold Rec.Root; infer_instance
def Rec.May (r : Rec) : Prop := (RNum r.gen ∧ RNum r.stamp ∧ RNum r.epoch) ∧ r.Root ∧ RPl r.bseg r.bslot ∧ RPl r.tseg r.tslot
instance (r : Rec) : Decidable r.May := by unfold Rec.May; infer_instance
def Rec.bytes (r : Rec) : List UInt8 := be8 r.gen ++ be8 r.stamp ++ be8 r.epoch ++ r.super ++ be8 r.rat ++ r.rsum ++ be8 r.bseg ++ be8 r.bslot ++ be8 r.tseg ++ be8 r.tslot ++ r.bsum ++ r.tsum
end Go.Rill
end
section
namespace Go.Rill
set_option linter.unusedVariables false
set_option linter.unusedSimpArgs false
open Go.RowKit
/-- A map's entries, with numbers as keys. -/
structure IE where
  key : Int
  val : Value
  born : Nat
def imap (es : List IE) : Array MapEntry := (es.map fun e => { key := .int .i64 e.key, val := e.val, born := e.born }).toArray
def tyMap (P : Program) (t k e : TypeId) : Bool := match P.underlying t with | some (.map k' e') => k' == k && e' == e && (match P.underlying k with | some (.int .i64) => true | _ => false) | _ => false
theorem map_und {P : Program} {t k e : TypeId} (h : tyMap P t k e = true) : P.underlying t = some (.map k e) ∧ P.underlying k = some (.int .i64) := by
  unfold tyMap at h
  split at h
  · rename_i k' e' hu
    simp only [Bool.and_eq_true, beq_iff_eq] at h
    obtain ⟨⟨rfl, rfl⟩, h2⟩ := h
    refine ⟨hu, ?_⟩
    split at h2
    · assumption
    · cases h2
  · cases h
/-- Where a key is. -/
def iat (k : Int) : List IE → Nat → Option (Nat × Value)
  | [], _ => none
  | e :: r, i => if k = e.key then some (i, e.val) else iat k r (i + 1)
def iget (es : List IE) (k : Int) : Option Value := (iat k es 0).map (·.2)
section
variable {P : Program} {ρ : Operand → Value} {o : Oper} {w : World} {t k e : TypeId} {g clock : Nat} {es : List IE}
theorem findNow_i (q : Int) : ∀ (es : List IE) (i : Nat), Instr.findNow (.int .i64) (.int .i64 q) (imap es).toList i = some (iat q es i)
  | [], i => rfl
  | e :: r, i => by
    have ih := findNow_i q r (i + 1)
    show (match Instr.sameNow (.int .i64) (.int .i64 q) (.int .i64 e.key) with | some true => _ | some false => Instr.findNow (.int .i64) (.int .i64 q) (imap r).toList (i + 1) | none => none) = _
    by_cases h : q = e.key
    · subst h; simp [Instr.sameNow, iat]
    · simp only [Instr.sameNow, iat, if_neg h, if_true]
      rw [show (q == e.key) = false by simpa using h]
      exact ih
theorem run_find (q : Int) (hk : P.underlying k = some (.int .i64)) : (Instr.findKey k (.int .i64 q) (imap es).toList).run P w = .ok (iat q es 0) w := by
  simp only [Instr.findKey, Sem.run_bind, run_underlying hk, Result.andThen_ok, findNow_i q es 0]
  rfl
theorem run_ckey (b : Bool) (q : Int) (hk : P.underlying k = some (.int .i64)) : (Instr.checkKey b 10000 k (.int .i64 q)).run P w = .ok () w := by
  unfold Instr.checkKey
  simp [run_underlying hk]
theorem run_lookupI {X Y : Operand} {q : Int} {z v : Value} {b : Bool} (ho : o.op = .lookup t X Y true) (hX : ρ X = .map (some g)) (hY : ρ Y = .int .i64 q) (ht : tyMap P t k e = true) (hz : zeroOf P e = some z) (hg : w.heap[g]? = some (.map (imap es) clock)) (hr : (match iget es q with | some u => (u, true) | none => (z, false)) = (v, b)) :
    (execOp ρ o).run P w = .ok (.value (.tuple #[v, .bool b])) w := by
  obtain ⟨h1, h2⟩ := map_und ht
  have hzv : (zeroValue e).run P w = .ok z w := by
    unfold zeroOf at hz
    cases hi : P.info? e with
    | none => rw [hi] at hz; cases hz
    | some i => rw [hi] at hz; simp only [Option.bind_some] at hz; simp [zeroValue, typeInfo, hi, hz]
  have hgo : (getObj g).run P w = .ok (.map (imap es) clock) w := by simp [getObj, Sem.run, hg]
  simp only [execOp, ho, hX, hY, Instr.lookup, Sem.run_bind, run_underlying h1, Result.andThen_ok, hgo, Sem.run_pure, run_ckey _ q h2, run_find q h2]
  unfold iget at hr
  cases hf : iat q es 0 with
  | none =>
    rw [hf] at hr
    simp only [Option.map_none, Prod.mk.injEq] at hr
    obtain ⟨rfl, rfl⟩ := hr
    simp [hzv]
  | some p =>
    rw [hf] at hr
    simp only [Option.map_some, Prod.mk.injEq] at hr
    obtain ⟨rfl, rfl⟩ := hr
    simp
end
section
variable {P : Program} {ops : Array Oper} {Q : Exit → Act → World → Prop} {l : List (Nat × Value)} {n : Nat} {a : Act} {w w' w0 : World} {rest : List Oper} {o : Oper} {O : Nat → Prop} {L R : List Ent} {Φ : World → Prop}
theorem Mem.setObj (M : Mem w0 O L Φ w) {i g : Nat} {o o' : Obj} (h : L[i]? = some (.blk g o)) : Mem w0 O (L.set i (.blk g o')) Φ { w with heap := w.heap.setIfInBounds g o' } := by
  have hg : g < w.heap.size := M.lt _ (List.mem_of_getElem? h) g (by simp [Ent.blk])
  refine M.change h _ ⟨rfl, rfl, rfl, by simp, fun k hk hn => ?_⟩ (by show (w.heap.setIfInBounds g o')[g]? = some o'; simp [hg]) (fun k hk => ?_)
  · show (w.heap.setIfInBounds g o')[k]? = _
    rw [Array.getElem?_setIfInBounds_ne (fun c => hn (by simp [Ent.blk, c]))]
  · have e : k = g := by simpa [Ent.blk] using hk
    subst e
    exact ⟨by simpa using hg, .inl (by simp [Ent.blk])⟩
end
section
variable {P : Program} {Q : Exit → Act → World → Prop} {l : List (Nat × Value)} {n : Nat} {ops : Array Oper}
end
/-! ### Many slices of bytes that are not written over -/
theorem bytes_st {w w' : World} {v : Value} {l : List UInt8} (h : ∀ g, v.ownBlock = some g → w'.heap[g]? = w.heap[g]?) (k : Bytes w v l) : Bytes w' v l := (Ent.sub v l).st w w' (fun g hg => h g (by simpa [Ent.sub] using hg)) k
def Ent.pool (ps : List (Value × List UInt8)) : Ent := ⟨ps.filterMap (·.1.ownBlock), fun w => ∀ p ∈ ps, Bytes w p.1 p.2, fun w w' h k p hp => bytes_st (fun g hg => h g (List.mem_filterMap.2 ⟨p, hp, hg⟩)) (k p hp)⟩
section
variable {w w0 : World} {O : Nat → Prop} {L : List Ent} {Φ : World → Prop} {ps ps' : List (Value × List UInt8)} {e : TypeId} {v : Value} {l : List UInt8}
/-- One more. -/
theorem Mem.pour (M : Mem w0 O (.bytes e v l :: .pool ps :: L) Φ w) : Mem w0 O (.pool ((v, l) :: ps) :: L) Φ w := by
  have hp := List.pairwise_cons.1 M.apart
  have hp2 := List.pairwise_cons.1 hp.2
  have hb : Bytes w v l := M.bytes 0 rfl
  have hmem : ∀ g, g ∈ (Ent.pool ((v, l) :: ps)).foot → g ∈ (Ent.bytes e v l).foot ∨ g ∈ (Ent.pool ps).foot := by
    intro g hg
    obtain ⟨p, hp, hgp⟩ := List.mem_filterMap.1 hg
    rcases List.mem_cons.1 hp with rfl | hp
    · exact .inl (by simpa [Ent.row] using hgp)
    · exact .inr (List.mem_filterMap.2 ⟨p, hp, hgp⟩)
  refine M.swap (.refl _ _) (fun x hx => ?_) (fun x hx g hg => ?_) (fun x hx g hg => ?_) (List.pairwise_cons.2 ⟨fun x hx g hg hg' => ?_, hp2.2⟩)
  · rcases List.mem_cons.1 hx with rfl | hx
    · intro p hpp
      rcases List.mem_cons.1 hpp with rfl | hpp
      · exact hb
      · exact M.ents (.pool ps) (by simp) p hpp
    · exact M.ents x (by simp [hx])
  · rcases List.mem_cons.1 hx with rfl | hx
    · rcases hmem g hg with h | h
      · exact M.lt _ (by simp) g h
      · exact M.lt (.pool ps) (by simp) g h
    · exact M.lt x (by simp [hx]) g hg
  · rcases List.mem_cons.1 hx with rfl | hx
    · rcases hmem g hg with h | h
      · exact .inl ⟨_, by simp, h⟩
      · exact .inl ⟨.pool ps, by simp, h⟩
    · exact .inl ⟨x, by simp [hx], hg⟩
  · rcases hmem g hg with h | h
    · exact hp.1 x (by simp [hx]) g h hg'
    · exact hp2.1 x hx g h hg'
/-- A nil slice may grow too. -/
theorem Mem.nilRow (M : Mem w0 O L Φ w) (e : TypeId) : Mem w0 O (.bytes e (.slice none 0 0) [] :: L) Φ w :=
  M.adopt (Ext.refl w) _ (World.ownsRow_nil w 0 e 1) fun g hg => by simp [Ent.row, Value.ownBlock] at hg
theorem Mem.pooled {i : Nat} (M : Mem w0 O L Φ w) (h : L[i]? = some (.pool ps)) {p : Value × List UInt8} (hp : p ∈ ps) : Bytes w p.1 p.2 := M.ent i h p hp
end
section
variable {P : Program} {ρ : Operand → Value} {o : Oper} {w : World} {t t' e : TypeId} {X Y : Operand}
/-- A slice held against nil. -/
theorem run_sliceNil {b : Option Addr} {n c : Nat} {r : Bool} (ho : o.op = .binOp .eql t X Y t') (hX : ρ X = .slice b n c) (hY : ρ Y = .slice none 0 0) (ht : tySlice P t e = true) (hr : b.isNone = r) : (execOp ρ o).run P w = .ok (.value (.bool r)) w := by
  subst hr
  have hg : (eqGuard .eql t X Y (.slice b n c) (.slice none 0 0)).run P w = .ok () w := rfl
  have he := run_equal_slice_nil (P := P) w t e b n c (slice_und ht)
  have hb : binOp .eql t (.slice b n c) (.slice none 0 0) = (do pure (.bool (← Op.equal t (.slice b n c) (.slice none 0 0)))) := rfl
  simp only [execOp, ho, hX, hY, Sem.run_bind, hg, Result.andThen_ok, hb, he]
  rfl
theorem run_min3 {A B C : Operand} {k : IntKind} {x y z : Int} {args : List Operand} {ts : Array TypeId} (ho : o.op = .call { callee := .builtin .min, args := args.toArray, argTypes := ts }) (ha : args = [A, B, C]) (hA : ρ A = .int k x) (hB : ρ B = .int k y) (hC : ρ C = .int k z) :
    (execOp ρ o).run P w = .ok (.value (.int k (if z < (if y < x then y else x) then z else (if y < x then y else x)))) w := by
  subst ha
  have := run_min_int3 (P := P) w ts o.type k k k x y z
  simp [execOp, ho, resolve, invoke, builtin, hA, hB, hC, this]
theorem run_max2 {A B : Operand} {k : IntKind} {x y : Int} {args : List Operand} {ts : Array TypeId} (ho : o.op = .call { callee := .builtin .max, args := args.toArray, argTypes := ts }) (ha : args = [A, B]) (hA : ρ A = .int k x) (hB : ρ B = .int k y) :
    (execOp ρ o).run P w = .ok (.value (.int k (if y > x then y else x))) w := by
  subst ha
  have := run_max_int2 (P := P) w ts o.type k k x y
  simp [execOp, ho, resolve, invoke, builtin, hA, hB, this]
end
end Go.Rill
end
section
namespace Go.Rill
set_option linter.unusedVariables false
set_option linter.unusedSimpArgs false
open Go.RowKit

def argL : List Value → Nat → List (Nat × Value)
  | [], _ => []
  | v :: r, i => (i, v) :: argL r (i + 1)
theorem argL_lookup {az : List Value} {i t : Nat} {v : Value} (h : (argL az i).lookup t = some v) : i ≤ t ∧ az[t - i]? = some v := by
  induction az generalizing i with
  | nil => simp [argL] at h
  | cons u r ih =>
    simp only [argL, List.lookup_cons] at h
    by_cases e : t = i
    · subst e; simp at h; subst h; simp
    · have hb : (t == i) = false := by simpa using e
      rw [hb] at h
      obtain ⟨h1, h2⟩ := ih h
      refine ⟨by omega, ?_⟩
      have : t - i = (t - (i + 1)) + 1 := by omega
      rw [this]; simpa using h2

section
variable {P : Program} {Q : Exit → Act → World → Prop} {l : List (Nat × Value)} {n : Nat} {a : Act} {w w0 : World} {Φ : World → Prop}
theorem enter {f : FuncId} {fn : Func} {c : Code} {az : List Value} {R : Ending → World → Prop} (hf : P.funcs[f]? = some fn) (hb : fn.body = some c) (hn : fn.ntmps = n) (ha : Nat.ble az.length n = true)
    (h : ∀ a, Env (argL az 0) n a → c.wp P (bodyPost P fn R) a w) : Calls P f az.toArray w R := by
  have ha' : az.length ≤ n := by simpa using ha
  refine calls_of_wp hf hb (h _ ⟨fun t v ht => ?_, by simp [hn]; omega, rfl⟩)
  obtain ⟨_, h2⟩ := argL_lookup ht
  have hlt : t < az.length := by simpa using (List.getElem?_eq_some_iff.1 h2).1
  simp only [Array.getD_eq_getD_getElem?]
  rw [Array.getElem?_append_left (by simpa using hlt)]
  simp at h2
  simp [h2]
theorem code_region {id : Nat} {os : List Oper} {y : Code} (h : wpList P os.toArray (Exit.then (y.wp P Q) Q) os a w) : (Code.seq (.region id os.toArray false) y).wp P Q a w :=
  wp_seq (wp_region_lit h)
theorem code_last {id : Nat} {os : List Oper} (h : wpList P os.toArray Q os a w) : (Code.region id os.toArray false).wp P Q a w := wp_region_lit h
theorem seq_nil' {ops : Array Oper} {y : Code} (h : y.wp P Q a w) : wpList P ops (Exit.then (y.wp P Q) Q) [] a w := h
theorem then_ret {K : Act → World → Prop} (h : Q .ret a w) : Exit.then K Q .ret a w := h
theorem block_ret {id : Nat} (h : Q .ret a w) : Exit.inBlock id Q .ret a w := h
theorem then_exit {K : Act → World → Prop} {id : Nat} (h : Q (.exit id) a w) : Exit.then K Q (.exit id) a w := h
theorem block_exit {id : Nat} (h : Q .normal a w) : Exit.inBlock id Q (.exit id) a w := by simpa [Exit.inBlock] using h
theorem block_other {id id' : Nat} (hne : (id' == id) = false) (h : Q (.exit id') a w) : Exit.inBlock id Q (.exit id') a w := by
  have : ¬ id' = id := by simpa using hne
  simpa [Exit.inBlock, this] using h
theorem block_normal {id : Nat} (h : Q .normal a w) : Exit.inBlock id Q .normal a w := h
theorem then_normal {y : Code} (h : y.wp P Q a w) : Exit.then (y.wp P Q) Q .normal a w := h
theorem cond_true {s : Tmp} {x y : Code} {t : Bool} (E : Env l n a) (hc : l.lookup s = some (.bool t)) (ht : t = true) (h : x.wp P Q a w) : (Code.cond (.tmp s) x y).wp P Q a w :=
  wp_cond_true (by show a.tmps.getD s undef = _; rw [E.get _ _ hc, ht]) h
theorem cond_false {s : Tmp} {x y : Code} {t : Bool} (E : Env l n a) (hc : l.lookup s = some (.bool t)) (ht : t = false) (h : y.wp P Q a w) : (Code.cond (.tmp s) x y).wp P Q a w :=
  wp_cond_false (by show a.tmps.getD s undef = _; rw [E.get _ _ hc, ht]) h
/-- The ways meet again. -/
theorem code_cut {x y : Code} (J : Act → World → Prop) (h : x.wp P (Exit.then J Q) a w) (hy : ∀ a w, J a w → y.wp P Q a w) : (Code.seq x y).wp P Q a w := by
  refine wp_seq (Code.wp_mono (fun e a w q => ?_) h)
  cases e with
  | normal => exact hy a w q
  | _ => exact q
/-- A loop, by a number that falls. -/
theorem loop_dec {c : Code} (I : Nat → Act → World → Prop) (d : Nat) (h0 : I d a w) (round : ∀ d a w, I d a w → c.wp P (Exit.then (fun a' w' => ∃ d', d' < d ∧ I d' a' w') Q) a w) : (Code.loop c).wp P Q a w := by
  intro b kk cs
  have key : ∀ d a w, I d a w → ∃ e a' w', Q e a' w' ∧ Arrives P (lone (b.at a (.code c :: .inLoop c :: kk)) cs w) b kk cs e a' w' := by
    intro d
    induction d using Nat.strongRecOn with
    | _ d ih =>
      intro a w hI
      obtain ⟨e, a₁, w₁, hq, harr⟩ := round d a w hI b (.inLoop c :: kk) cs
      cases e with
      | normal =>
        obtain ⟨d', hlt, hI'⟩ := hq
        obtain ⟨e₂, a₂, w₂, hq₂, harr₂⟩ := ih d' hlt a₁ w₁ hI'
        exact ⟨e₂, a₂, w₂, hq₂, .of_steps (Steps.trans harr (.one step_inLoop)) harr₂⟩
      | exit id => exact ⟨_, a₁, w₁, hq, .pass (x := .inLoop c) rfl (fun _ _ => .inl (by simp)) harr⟩
      | goto l => exact ⟨_, a₁, w₁, hq, .pass (x := .inLoop c) rfl (fun _ _ => .inl (by simp)) harr⟩
      | ret => exact ⟨_, a₁, w₁, hq, .pass (x := .inLoop c) rfl (fun _ _ => .inl (by simp)) harr⟩
      | panic ch => exact ⟨_, a₁, w₁, hq, .pass (x := .inLoop c) rfl (fun _ _ => .inl (by simp)) harr⟩
      | outgrown => exact ⟨_, a₁, w₁, hq, .pass (x := .inLoop c) rfl (fun _ _ => .inl (by simp)) harr⟩
  obtain ⟨e, a', w', hq, harr⟩ := key d a w h0
  exact ⟨e, a', w', hq, .of_steps (.one step_loop) harr⟩
theorem then_any {K : Act → World → Prop} (h : K a w) : Exit.then K Q .normal a w := h
theorem results1 {fn : Func} {t : Tmp} {v : Value} (E : Env l n a) (hr : fn.results = #[.tmp t]) (hv : l.lookup t = some v) : (results fn a.tmps).run P w = .ok v w := by
  rw [results_tmp hr, E.get t v hv]
theorem ret1 {fn : Func} {R : Ending → World → Prop} {t : Tmp} {v : Value} (E : Env l n a) (hr : fn.results = #[.tmp t]) (hv : l.lookup t = some v) (h : R (.returned v) w) : bodyPost P fn R .ret a w :=
  ⟨E.defers, v, results1 E hr hv, h⟩
theorem ret2 {fn : Func} {R : Ending → World → Prop} {t1 t2 : Tmp} {v1 v2 : Value} (E : Env l n a) (hr : fn.results = #[.tmp t1, .tmp t2]) (h1 : l.lookup t1 = some v1) (h2 : l.lookup t2 = some v2) (h : R (.returned (.tuple #[v1, v2])) w) : bodyPost P fn R .ret a w :=
  ⟨E.defers, _, by rw [results_tmp2 hr, E.get _ _ h1, E.get _ _ h2], h⟩
theorem ret0 {fn : Func} {R : Ending → World → Prop} (E : Env l n a) (hr : fn.results = #[]) (h : R (.returned (.tuple #[])) w) : bodyPost P fn R .normal a w :=
  ⟨E.defers, _, results_none hr _ _ _, h⟩
/-- A result that lies in memory. -/
theorem run_loadVar {t T : TypeId} {g k : Nat} {cs : Array Value} {fr : Nat × Nat} (ht : tyAgg P t k = true) (hg : w.heap[g]? = some (.cells cs T fr)) (hk : cs.size = k) : (loadVar t ⟨g, 0, none⟩).run P w = .ok (.agg cs) w := by
  have h := run_loadAll (P := P) (ρ := evL []) (o := { op := .load t (.const (.pointer (some ⟨g, 0, none⟩))), dst := none, type := t, pos := default, after := #[], guard := none }) (A := .const (.pointer (some ⟨g, 0, none⟩))) rfl rfl ht hg hk
  simp only [execOp, evL, Instr.loadAt, Instr.sureAddr, Sem.run_bind, Sem.run_pure, Result.andThen_ok] at h
  cases hl : (loadVar t ⟨g, 0, none⟩).run P w with
  | ok v w2 =>
    rw [hl] at h
    injection h with h1 h2
    injection h1 with h1
    rw [h1, h2]
  | halt => rw [hl] at h; cases h
theorem retC {fn : Func} {R : Ending → World → Prop} {s : Tmp} {t T : TypeId} {g k : Nat} {cs : Array Value} {fr : Nat × Nat} (E : Env l n a) (hr : fn.results = #[.cell s t]) (hs : l.lookup s = some (.pointer (some ⟨g, 0, none⟩))) (ht : tyAgg P t k = true) (hg : w.heap[g]? = some (.cells cs T fr)) (hk : cs.size = k) (h : R (.returned (.agg cs)) w) : bodyPost P fn R .ret a w :=
  ⟨E.defers, .agg cs, by
    have h1 := E.get _ _ hs
    rw [Array.getD_eq_getD_getElem?] at h1
    simp [results, hr, h1, asAddr, run_loadVar ht hg hk], h⟩
theorem retC2 {fn : Func} {R : Ending → World → Prop} {s u : Tmp} {t T : TypeId} {g k : Nat} {cs : Array Value} {fr : Nat × Nat} {v : Value} (E : Env l n a) (hr : fn.results = #[.cell s t, .tmp u]) (hs : l.lookup s = some (.pointer (some ⟨g, 0, none⟩))) (hu : l.lookup u = some v) (ht : tyAgg P t k = true) (hg : w.heap[g]? = some (.cells cs T fr)) (hk : cs.size = k) (h : R (.returned (.tuple #[.agg cs, v])) w) : bodyPost P fn R .ret a w :=
  ⟨E.defers, .tuple #[.agg cs, v], by
    have h1 := E.get _ _ hs
    have h2 := E.get _ _ hu
    rw [Array.getD_eq_getD_getElem?] at h1 h2
    simp [results, hr, h1, h2, asAddr, run_loadVar ht hg hk], h⟩
end
/-- A region's operations, by its number. -/
def regIn : Code → Nat → Option (Array Oper)
  | .region id ops _, n => if id = n then some ops else none
  | .seq a b, n => match regIn a n with | some o => some o | none => regIn b n
  | .cond _ a b, n => match regIn a n with | some o => some o | none => regIn b n
  | .rangeFunc _ _ a b, n => match regIn a n with | some o => some o | none => regIn b n
  | .block _ a, n | .loop a, n | .scope a, n => regIn a n
  | _, _ => none
def regOps (f : Func) (n : Nat) : Array Oper := ((f.body.bind fun c => regIn c n)).getD #[]
/-! ### Ends of contracts -/
section
variable {α : Type} {P : Program} {val : α → Value} {outs : α → List Ent} {p : α → Prop} {ins L : List Ent} {Φ : World → Prop} {w0 w : World}
theorem _root_.Go.Rill.Mem.fin {outs : List Ent} {p : Prop} (M : Mem w0 (feet ins) L Φ w) (hs : outs.Sublist L) (hp : p) : Ch (feet ins) w0 w ∧ Has w outs ∧ (∀ g, feet outs g → feet ins g ∨ w0.heap.size ≤ g) ∧ p :=
  ⟨(M.out hs).1, (M.out hs).2.1, (M.out hs).2.2, hp⟩
/-- .. of a call that hands on just this. -/
theorem given {v : Value} (M : Mem w0 (feet []) L Φ w) : ∃ y : Unit, Ending.returned v = .returned ((fun _ : Unit => v) y) ∧ Ch (feet []) w0 w ∧ Has w ((fun _ : Unit => []) y) ∧ (∀ g, feet ((fun _ : Unit => []) y) g → feet [] g ∨ w0.heap.size ≤ g) ∧ True :=
  ⟨(), rfl, M.fin (List.nil_sublist _) trivial⟩
theorem sub1 {e : Ent} {i : Nat} (h : L[i]? = some e) : [e].Sublist L := List.singleton_sublist.2 (List.mem_of_getElem? h)
end
end Go.Rill
end
section
namespace Go.Rill
set_option linter.unusedVariables false
set_option linter.unusedSimpArgs false
open Go.Proofs.YtnebjbgcibjohaaW.PrintLast Go.RowKit
/-- What the operations of a region may count on, what they do, and what is so behind some of them. -/
structure Road where
  Pre : Nat → World → Prop
  R : Nat → World → World → Prop
  I : (Nat → Bool) → World → Prop
structure Road.Ok (D : Road) (N : Nat) (B : List Nat) (Vs : List Spec) (w0 : World) : Prop where
  begin : D.I (fun _ => false) w0
  pre : ∀ (b : Nat → Bool) i w, b i = false → (∀ j, j < N → waits B j i = true → b j = false) → (∀ j, waits B i j = true → b j = true) → D.I b w → D.Pre i w
  step : ∀ (b : Nat → Bool) i w w', b i = false → (∀ j, j < N → waits B j i = true → b j = false) → (∀ j, waits B i j = true → b j = true) → D.I b w → D.R i w w' → D.I (up b i) w'
  keep : ∀ i j p, i ≠ j → (j < N → waits B j i = false) → Vs[j]? = some (.rel p) → ∀ w w' v, D.Pre i w → D.R i w w' → p w v → p w' v
def FStepR (P : Program) (ops : Array Oper) (B : List Nat) (l : List (Nat × Value)) (n : Nat) (Vs : List Spec) (D : Road) (Q : Exit → Act → World → Prop) (i : Nat) : Prop :=
  ∀ (x : Nat → Value) (a : Act) (w : World), D.Pre i w → (∀ j, waits B i j = true → knows Vs x w j) → Env (envOf ops B l Vs x i) n a →
    ∃ o s, ops[i]? = some o ∧ Vs[i]? = some s ∧ ∀ K : Act → World → Prop, (∀ v w', D.R i w w' → s.ok w' v → K (a.put o.dst v) w') →
      if Region.wanted o (yielded ops a.tmps) = true then Oper.wp P o a w K Q else K (a.put o.dst undef) w
section
variable {P : Program} {Q : Exit → Act → World → Prop} {l : List (Nat × Value)} {n : Nat} {a : Act} {w : World} {ops : Array Oper} {B : List Nat} {Vs : List Spec} {id : Nat}
structure InvR (ops : Array Oper) (a0 : Act) (n : Nat) (Vs : List Spec) (D : Road) (b : Nat → Bool) (a : Act) (w : World) : Prop where
  road : D.I b w
  size : a.tmps.size = n
  defers : a.defers = []
  vals : ∃ x : Nat → Value, (∀ j, b j = true → knows Vs x w j) ∧ ∀ t, t < n → a.tmps.getD t undef = match lastW ops b t with
    | some j => valOf Vs x j
    | none => a0.tmps.getD t undef
/-- lst: the last operation stands apart: it waits for all others. -/
theorem free_genR (D : Road) (lst : Bool) {a0 : Act} (T : Bool × List (List Nat × List Nat)) (B : List Nat) (Vs : List Spec) (E : Env l n a0) (hm : P.follows .mixedOrders = true) (hT : rtab .any ops = T) (hw : waitsOk T.2 B = true) (hk : baseOk T.2 (List.range ops.size) = true)
    (hf : freeOk ops B = true) (hd : ((List.range ops.size).all fun i => fits n (dstOf ops i)) = true) (hD : D.Ok ops.size B Vs w.drew)
    (m : Nat) (hmm : m + (if lst then 1 else 0) = ops.size) (hwl : lst = true → ∀ i, i < m → waits B m i = true)
    (hs : ∀ i ∈ List.range m, FStepR P ops B l n Vs D Q i)
    (hend : ∀ (x : Nat → Value) (a : Act) (w' : World), (∃ b : Nat → Bool, (∀ j, j < m → b j = true) ∧ D.I b w') → (∀ j, j < m → knows Vs x w' j) → Env (endTo ops l Vs x m) n a → if lst then lastOp P ops Q m a w' else Q .normal a w') : (Code.region id ops true).wp P Q a0 w := by
  have hlen : T.2.length = ops.size := by subst hT; simp [rtab]
  refine wp_region_last (S := fun _ => True) (ds := []) hm ?_
  show wpAnyLast P .any ops Q (fun _ => True) [] ops.size (Array.replicate ops.size false) a0 w.drew
  have key : ∀ i, i < ops.size → (∀ t ∈ slotsOf ops i, match srcOf ops B i t with
      | some j => ∀ k, k < ops.size → writes ops t k = true → k ≤ j ∨ k = i ∨ waits B k i = true
      | none => ∀ k, k < ops.size → writes ops t k = true → k = i ∨ waits B k i = true) ∧ (∀ t, dstOf ops i = some t → ∀ k, k < ops.size → writes ops t k = true → k ≤ i ∨ waits B k i = true) := by
    intro i hi
    have h1 := List.all_eq_true.1 hf i (List.mem_range.2 hi)
    rw [Bool.and_eq_true] at h1
    refine ⟨fun t ht => ?_, fun t ht k hkn hwk => ?_⟩
    · have h2 := List.all_eq_true.1 h1.1 t ht
      cases hsrc : srcOf ops B i t with
      | some j =>
        rw [hsrc] at h2
        intro k hkn hwk
        have h3 := List.all_eq_true.1 h2 k (List.mem_range.2 hkn)
        rw [hwk] at h3
        simp only [Bool.not_true, Bool.false_or, Bool.or_eq_true, Nat.ble_eq, Nat.beq_eq] at h3
        rcases h3 with (h3 | h3) | h3
        · exact .inl h3
        · exact .inr (.inl h3)
        · exact .inr (.inr h3)
      | none =>
        rw [hsrc] at h2
        intro k hkn hwk
        have h3 := List.all_eq_true.1 h2 k (List.mem_range.2 hkn)
        rw [hwk] at h3
        simp only [Bool.not_true, Bool.false_or, Bool.or_eq_true, Nat.beq_eq] at h3
        exact h3
    · have h2 := h1.2
      rw [ht] at h2
      have h3 := List.all_eq_true.1 h2 k (List.mem_range.2 hkn)
      rw [hwk] at h3
      simp only [Bool.not_true, Bool.false_or, Bool.or_eq_true, Nat.ble_eq] at h3
      exact h3
  have final : ∀ b a w', (∀ j, j < m → b j = true) → (∀ j, j < ops.size → m ≤ j → b j = false) → InvR ops a0 n Vs D b a w' → if lst then lastOp P ops Q m a w' else Q .normal a w' := by
    intro b a w' hall' hno I
    obtain ⟨x, hx, hv⟩ := I.vals
    refine hend x a w' ⟨b, hall', I.road⟩ (fun j hj => hx j (hall' j hj)) ⟨fun t v ht => ?_, I.size, I.defers⟩
    unfold endTo at ht
    rw [List.lookup_append] at ht
    have hfind : ∀ m, ((List.range m).reverse.filterMap fun i => (dstOf ops i).map fun t => (t, valOf Vs x i)).lookup t = ((List.range m).reverse.find? fun j => writes ops t j).map (valOf Vs x) := by
      intro m
      induction m with
      | zero => rfl
      | succ m ih =>
        rw [List.range_succ, List.reverse_append]
        simp only [List.reverse_singleton, List.singleton_append, List.filterMap_cons, List.find?_cons]
        cases hdm : dstOf ops m with
        | none => simp only [Option.map_none, writes, hdm]; rw [ih]; rfl
        | some d =>
          simp only [Option.map_some, List.lookup_cons, writes, hdm]
          by_cases e : t = d
          · subst e; simp
          · have h1 : (t == d) = false := by simpa using e
            have h2 : (some d == some t) = false := by simpa using fun c => e c.symm
            rw [h1, h2]
            exact ih
    rw [hfind] at ht
    have hmle : m ≤ ops.size := by omega
    by_cases htn : t < n
    · rw [hv t htn]
      have hlw : lastW ops b t = (List.range m).reverse.find? fun j => writes ops t j := by
        unfold lastW
        cases hff : (List.range m).reverse.find? fun j => writes ops t j with
        | none =>
          refine find_none (fun k hkn => ?_)
          by_cases hkm : k < m
          · have := List.find?_eq_none.1 hff k (by simp; exact hkm)
            simp at this
            simp [this]
          · simp [hno k hkn (by omega)]
        | some j =>
          obtain ⟨h1, h2, h3⟩ := find_some hff
          refine find_last (by omega) (by simp [h2, hall' j h1]) (fun k hkn hp => ?_)
          simp only [Bool.and_eq_true] at hp
          by_cases hkm : k < m
          · exact h3 k hkm hp.1
          · rw [hno k hkn (by omega)] at hp; cases hp.2
      rw [hlw]
      cases hff : (List.range m).reverse.find? fun j => writes ops t j with
      | none => rw [hff] at ht; simp at ht; exact E.get t v ht
      | some j => rw [hff] at ht; simp at ht; exact ht
    · have hff : ((List.range m).reverse.find? fun j => writes ops t j) = none := by
        refine find_none (fun k hkn => ?_)
        cases hwk : writes ops t k with
        | false => rfl
        | true =>
          have h4 := List.all_eq_true.1 hd k (List.mem_range.2 (by omega))
          have h5 : dstOf ops k = some t := by simpa [writes] using hwk
          rw [h5] at h4
          simp [fits] at h4
          omega
      rw [hff] at ht
      simp at ht
      have h6 := E.get t v ht
      have g1 : a0.tmps.getD t undef = undef := by simp [Array.getD_eq_getD_getElem?]; rw [Array.getElem?_eq_none (by rw [E.size]; omega)]; rfl
      have g2 : a.tmps.getD t undef = undef := by simp [Array.getD_eq_getD_getElem?]; rw [Array.getElem?_eq_none (by rw [I.size]; omega)]; rfl
      rw [g2, ← g1]; exact h6
  refine inv_ (List.range ops.size) (fun b a w' => if (lst && b m) = true then Q .normal a w' else InvR ops a0 n Vs D b a w') hT hw hk ?_ ?_ ?_ ?_
  · rw [hlen]
    simp only [List.length_range, beq_self_eq_true, Bool.and_true, beq_iff_eq]
    apply List.ext_getElem
    · simp [lof]
    · intro j h1 h2
      simp [lof] at h1 h2 ⊢
      exact h1
  · show if (lst && false) = true then _ else _
    rw [Bool.and_false, if_neg (by simp)]
    refine ⟨hD.begin, E.size, E.defers, fun _ => undef, fun j hj => (by cases hj), fun t _ => ?_⟩
    have : lastW ops (fun _ => false) t = none := find_none (fun k _ => by simp)
    rw [this]
  · intro i hi b a w' I hbi hpre hsuc
    have hi' : i < ops.size := List.mem_range.1 hi
    have hbm : (lst && b m) = false := by
      cases hlst : lst with
      | false => rfl
      | true =>
        rw [hlst] at hmm
        simp only [if_true] at hmm
        by_cases him : i = m
        · subst him; simp [hbi]
        · have := hsuc m (by simp [← hmm]; exact hwl hlst i (by omega))
          simp [this]
    rw [if_neg (by simp [hbm])] at I
    by_cases him : lst = true ∧ i = m
    · obtain ⟨hlst, rfl⟩ := him
      rw [hlst] at hmm
      simp only [if_true] at hmm
      have hall : ∀ j, j < i → b j = true := fun j hj => hpre j (by simp [← hmm]; exact ⟨by omega, hwl hlst j hj⟩)
      have hfin := final b a w' hall (fun j hj1 hj2 => by have : j = i := by omega
                                                          rw [this]; exact hbi) I
      rw [hlst, if_pos rfl] at hfin
      obtain ⟨o, ho⟩ : ∃ o, ops[i]? = some o := ⟨ops[i], by simp [hi']⟩
      refine ⟨o, ho, fun K hKs => ?_⟩
      have hK2 : ∀ a w, Q .normal a w → K a w := fun a w hq => hKs.out _ _ (by dsimp only; rw [if_pos (by simp [hlst, up_self])]; exact hq)
      unfold lastOp at hfin
      rw [ho] at hfin
      simp only at hfin
      split at hfin
      · rename_i hwant
        rw [if_pos hwant]
        exact Oper.wp_mono hK2 hfin
      · rename_i hwant
        rw [if_neg hwant]
        exact hK2 _ _ hfin
    have hil : i < m := by
      cases hlst : lst with
      | false => rw [hlst] at hmm; simp at hmm; omega
      | true => rw [hlst] at hmm; simp at hmm; have : i ≠ m := fun c => him ⟨hlst, c⟩; omega
    obtain ⟨x, hx, hv⟩ := I.vals
    obtain ⟨k1, k2⟩ := key i hi'
    have hpre' : ∀ j, j < ops.size → waits B i j = true → b j = true := fun j hj hwj => hpre j (by simp [hj]; exact hwj)
    have hsuc' : ∀ k, k < ops.size → waits B k i = true → b k = false := fun k hkn hwk => hsuc k (by simp [hkn]; exact hwk)
    have hout : ∀ j, waits B i j = true → j < ops.size := by
      intro j hj
      have h1 := reach_bit hw (i + 1) i (by omega) (by omega) hj
      -- what an operation waits for is one of the region's
      have : ∀ fuel d, d < T.2.length → reachT T.2 j fuel d = true → j < ops.size := by
        intro fuel
        induction fuel with
        | zero => intro d _ h; simp [reachT] at h
        | succ fuel ih =>
          intro d hdl h
          unfold reachT at h
          cases hr : T.2[d]? with
          | none => rw [hr] at h; simp at h
          | some r =>
            rw [hr] at h
            simp only [List.any_eq_true] at h
            obtain ⟨m, hm1, hm2⟩ := h
            have hlt := (baseOk_row hk hr).2 m hm1
            rw [Bool.or_eq_true] at hm2
            rcases hm2 with hm2 | hm2
            · have : m = j := by simpa using hm2
              omega
            · exact ih m (by omega) hm2
      exact this (i + 1) i (by omega) h1
    have hE : Env (envOf ops B l Vs x i) n a := by
      refine ⟨fun t v ht => ?_, I.size, I.defers⟩
      rw [envOf_eq] at ht
      obtain ⟨h1, h2⟩ := lookup_filterMap (f := fun t => match srcOf ops B i t with
        | some j => some (valOf Vs x j)
        | none => l.lookup t) ht
      have h3 := k1 t h2
      by_cases htn : t < n
      · rw [hv t htn]
        cases hsrc : srcOf ops B i t with
        | some j =>
          rw [hsrc] at h1 h3
          obtain ⟨hj1, hj2, hj3⟩ := srcOf_lt hsrc
          have hbj := hpre' j (by omega) hj3
          have : lastW ops b t = some j := by
            refine find_last (by omega) (by simp [hj2, hbj]) (fun k hkn hp => ?_)
            simp only [Bool.and_eq_true] at hp
            rcases h3 k hkn hp.1 with h | h | h
            · exact h
            · subst h; rw [hbi] at hp; cases hp.2
            · rw [hsuc' k hkn h] at hp; cases hp.2
          rw [this]
          simpa using h1
        | none =>
          rw [hsrc] at h1 h3
          have : lastW ops b t = none := by
            refine find_none (fun k hkn => ?_)
            cases hwk : writes ops t k with
            | false => rfl
            | true =>
              rcases h3 k hkn hwk with h | h
              · subst h; rw [hbi]; rfl
              · rw [hsuc' k hkn h]; rfl
          rw [this]
          exact E.get t v h1
      · -- a slot outside the frame: nothing is written there
        have hnone : ∀ k, k < ops.size → writes ops t k = false := by
          intro k hkn
          cases hwk : writes ops t k with
          | false => rfl
          | true =>
            have h4 := List.all_eq_true.1 hd k (List.mem_range.2 hkn)
            have h5 : dstOf ops k = some t := by simpa [writes] using hwk
            rw [h5] at h4
            simp [fits] at h4
            omega
        have hsn : srcOf ops B i t = none := find_none (fun k hkn => by simp [hnone k (by omega)])
        rw [hsn] at h1
        have h6 := E.get t v h1
        have g1 : a0.tmps.getD t undef = undef := by simp [Array.getD_eq_getD_getElem?]; rw [Array.getElem?_eq_none (by rw [E.size]; omega)]; rfl
        have g2 : a.tmps.getD t undef = undef := by simp [Array.getD_eq_getD_getElem?]; rw [Array.getElem?_eq_none (by rw [I.size]; omega)]; rfl
        rw [g2, ← g1]; exact h6
    obtain ⟨o, s, ho, hso, hK⟩ := hs i (List.mem_range.2 hil) x a w' (hD.pre b i w' hbi hsuc' (fun j hj => hpre' j (hout j hj) hj) I.road) (fun j hj => hx j (hpre' j (hout j hj) hj)) hE
    refine ⟨o, ho, fun K hKs => ?_⟩
    refine hK K (fun v w2 hext hsv => ?_)
    refine hKs.out _ _ ?_
    dsimp only
    rw [if_neg (by rw [up_ne (by omega)]; simp [hbm])]
    refine ⟨hD.step b i _ _ hbi hsuc' (fun j hj => hpre' j (hout j hj) hj) I.road hext, by cases hod : o.dst <;> simp [Act.put, I.size], by cases hod : o.dst <;> simp [Act.put, I.defers], fun j => if j = i then v else x j, fun j hj => ?_, fun t ht => ?_⟩
    · by_cases e : j = i
      · subst e
        unfold knows
        rw [hso]
        cases s with
        | exact u => trivial
        | rel p => simpa [Spec.ok] using hsv
      · have hb : b j = true := by rw [up_ne e] at hj; exact hj
        have h1 := hx j hb
        unfold knows at h1 ⊢
        cases hj2 : Vs[j]? with
        | none => trivial
        | some s2 =>
          cases s2 with
          | exact u => trivial
          | rel p => rw [hj2] at h1; simp only [if_neg e]; exact hD.keep i j p (fun c => e c.symm) (fun hjn => by cases hwj : waits B j i with | false => rfl | true => rw [hsuc' j hjn hwj] at hb; cases hb) hj2 _ _ _ (hD.pre b i w' hbi hsuc' (fun j hj => hpre' j (hout j hj) hj) I.road) hext h1
    · rw [put_get (by rw [I.size]; exact ht)]
      have hod : o.dst = dstOf ops i := by simp [dstOf, ho]
      have hval : ∀ j, j ≠ i → valOf Vs (fun j => if j = i then v else x j) j = valOf Vs x j := by
        intro j e
        unfold valOf
        simp only [if_neg e]
      by_cases e : o.dst = some t
      · rw [if_pos e]
        have hwi : writes ops t i = true := by simp [writes, ← hod, e]
        have : lastW ops (up b i) t = some i := by
          refine find_last hi' (by simp [hwi, up_self]) (fun k hkn hp => ?_)
          simp only [Bool.and_eq_true] at hp
          rcases k2 t (by rw [← hod]; exact e) k hkn hp.1 with h | h
          · exact h
          · have e2 : k ≠ i := fun c => by
              subst c
              have hr := reach_bit hw (k + 1) k (by omega) (by omega) h
              -- none waits for itself
              have : ∀ fuel d, d < T.2.length → d ≤ k → reachT T.2 k fuel d = true → False := by
                intro fuel
                induction fuel with
                | zero => intro d _ _ h; simp [reachT] at h
                | succ fuel ih =>
                  intro d hdl hdk h
                  unfold reachT at h
                  cases hr : T.2[d]? with
                  | none => rw [hr] at h; simp at h
                  | some r =>
                    rw [hr] at h
                    simp only [List.any_eq_true] at h
                    obtain ⟨m, hm1, hm2⟩ := h
                    have hlt := (baseOk_row hk hr).2 m hm1
                    rw [Bool.or_eq_true] at hm2
                    rcases hm2 with hm2 | hm2
                    · have : m = k := by simpa using hm2
                      omega
                    · exact ih m (by omega) (by omega) hm2
              exact this _ _ (by omega) (Nat.le_refl _) hr
            rw [up_ne e2] at hp
            rw [hsuc' k hkn h] at hp
            cases hp.2
        rw [this]
        show v = valOf Vs _ i
        unfold valOf
        rw [hso]
        cases s with
        | exact u => simpa [Spec.ok] using hsv
        | rel p => simp
      · rw [if_neg e, hv t ht]
        have : lastW ops (up b i) t = lastW ops b t := by
          unfold lastW
          congr 1
          funext k
          by_cases ek : k = i
          · subst ek
            have : writes ops t k = false := by
              cases h : writes ops t k with
              | false => rfl
              | true => exact absurd (by simpa [writes, ← hod] using h) e
            simp [this]
          · rw [up_ne ek]
        rw [this]
        cases hlw : lastW ops b t with
        | none => rfl
        | some j =>
          have e2 : j ≠ i := fun c => by
            subst c
            have := (find_some hlw).2.1
            rw [hbi] at this
            simp at this
          exact (hval j e2).symm
  · intro b a w' hall I
    have hall' : ∀ j, j < ops.size → b j = true := fun j hj => hall j (by simp [hj])
    cases hlst : lst with
    | false =>
      rw [hlst, Bool.false_and, if_neg (by simp)] at I
      rw [hlst] at hmm
      simp at hmm
      have := final b a w' (fun j hj => hall' j (by omega)) (fun j h1 h2 => by omega) I
      rw [hlst] at this
      exact this
    | true =>
      rw [hlst] at hmm
      simp at hmm
      rw [hlst, Bool.true_and, hall' m (by omega), if_pos rfl] at I
      exact I
theorem free_regR {a0 : Act} (D : Road) (is : List Nat) (E : Env l n a0) (hm : P.follows .mixedOrders = true) (hT : tabOk ops B n = true) (his : is = List.range ops.size) (hD : D.Ok ops.size B Vs w.drew)
    (hs : AllF (FStepR P ops B l n Vs D Q) is)
    (hend : ∀ (x : Nat → Value) (a : Act) (w' : World), (∃ b : Nat → Bool, (∀ j, j < ops.size → b j = true) ∧ D.I b w') → (∀ j, j < ops.size → knows Vs x w' j) → Env (endTo ops l Vs x ops.size) n a → Q .normal a w') : (Code.region id ops true).wp P Q a0 w := by
  subst his
  simp only [tabOk, Bool.and_eq_true] at hT
  exact free_genR D false _ B Vs E hm rfl hT.1.1.1 hT.1.1.2 hT.1.2 hT.2 hD ops.size (by simp) (by simp) (AllF.mem hs) fun x a w' h1 h2 h3 => by rw [if_neg (by simp)]; exact hend x a w' h1 h2 h3
theorem free_lastR {a0 : Act} (D : Road) (is : List Nat) (m : Nat) (E : Env l n a0) (hm : P.follows .mixedOrders = true) (hT : tabOk ops B n = true) (hmm : m + 1 = ops.size) (hwa : waitsAll B m = true) (his : is = List.range m) (hD : D.Ok ops.size B Vs w.drew)
    (hs : AllF (FStepR P ops B l n Vs D Q) is)
    (hend : ∀ (x : Nat → Value) (a : Act) (w' : World), (∃ b : Nat → Bool, (∀ j, j < m → b j = true) ∧ D.I b w') → (∀ j, j < m → knows Vs x w' j) → Env (endTo ops l Vs x m) n a → lastOp P ops Q m a w') : (Code.region id ops true).wp P Q a0 w := by
  subst his
  simp only [tabOk, Bool.and_eq_true] at hT
  exact free_genR D true _ B Vs E hm rfl hT.1.1.1 hT.1.1.2 hT.1.2 hT.2 hD m (by simpa using hmm) (fun _ i hi => List.all_eq_true.1 hwa i (List.mem_range.2 hi)) (AllF.mem hs) fun x a w' h1 h2 h3 => by rw [if_pos rfl]; exact hend x a w' h1 h2 h3
end
/-! ### Operations that own what they change -/
def ownRoad (Fs : Nat → Nat → Prop) (w0 : World) : Road where
  Pre i w := Ch (fun g => ∃ j, j ≠ i ∧ Fs j g) w0 w
  R i w w' := Ch (Fs i) w w'
  I b w := Ch (fun g => ∃ j, b j = true ∧ Fs j g) w0 w
/-- What a spec says stays, whatever becomes of these. -/
def LastsR (B0 : Nat) (N : Nat → Prop) : Spec → Prop
  | .exact _ => True
  | .rel p => ∀ (G : Nat → Prop) w w' v, (∀ g, G g → N g) → B0 ≤ w.heap.size → Ch G w w' → p w v → p w' v
theorem ownRoad_ok {Fs : Nat → Nat → Prop} {N : Nat} {B : List Nat} {Vs : List Spec} {w0 : World} (hN : Nat.ble Vs.length N = true) (hl : ∀ j s, Vs[j]? = some s → LastsR w0.heap.size (fun g => ∃ i, i ≠ j ∧ waits B j i = false ∧ Fs i g) s) : (ownRoad Fs w0).Ok N B Vs w0 where
  begin := Ch.refl _ _
  pre b i w hb _ _ h := h.mono fun g _ ⟨j, h1, h2⟩ => ⟨j, fun e => (by subst e; rw [hb] at h1; cases h1), h2⟩
  step b i w w' hb _ _ h k := (h.mono fun g _ ⟨j, h1, h2⟩ => ⟨j, (by unfold up; split <;> first | rfl | exact h1), h2⟩).trans (k.mono fun g _ h2 => ⟨i, up_self .., h2⟩)
  keep i j p hij hw hs w w' v hp hr hv := hl j _ hs (Fs i) w w' v (fun g hg => ⟨i, hij, hw (Nat.lt_of_lt_of_le (List.getElem?_eq_some_iff.1 hs).1 (Nat.le_of_ble_eq_true hN)), hg⟩) hp.held.size hr hv
theorem Has.held {w w' : World} {L : List Ent} {F : Nat → Prop} (h : Has w L) (H : Held F w w') (hF : ∀ g, feet L g → ¬ F g) : Has w' L :=
  ⟨fun e he => e.st w w' (fun g hg => H.block g (h.lt e he g hg) (hF g ⟨e, he, hg⟩)) (h.ents e he), fun e he g hg => Nat.lt_of_lt_of_le (h.lt e he g hg) H.size, h.apart⟩
/-- What came up: things made of these, and of new memory. -/
def CameI {α : Type} (B0 : Nat) (ins : List Ent) (val : α → Value) (outs : α → List Ent) (p : α → Prop) : Spec := .rel fun w v => ∃ x, v = val x ∧ Has w (outs x) ∧ (∀ g, feet (outs x) g → feet ins g ∨ B0 ≤ g) ∧ p x
theorem LastsR.came {α : Type} {B0 : Nat} {N : Nat → Prop} {ins : List Ent} {val : α → Value} {outs : α → List Ent} {p : α → Prop} (h1 : ∀ g, N g → g < B0) (h2 : ∀ g, N g → ¬ feet ins g) : LastsR B0 N (CameI B0 ins val outs p) := fun G w w' v hG hB hc ⟨x, a1, a2, a3, a4⟩ =>
  ⟨x, a1, a2.held hc.held fun g hg hgG => (a3 g hg).elim (h2 g (hG g hgG)) fun h => Nat.not_le_of_lt (h1 g (hG g hgG)) h, a3, a4⟩
theorem LastsR.exact {B0 : Nat} {N : Nat → Prop} {v : Value} : LastsR B0 N (.exact v) := trivial
section
variable {P : Program} {Q : Exit → Act → World → Prop} {l : List (Nat × Value)} {n : Nat} {w w0 : World} {ops : Array Oper} {B : List Nat} {Vs : List Spec} {i : Nat} {Fs : Nat → Nat → Prop} {O : Nat → Prop} {I R0 : List Ent} {Φ : World → Prop}
/-- What is not changed by any, in the midst of a region. -/
theorem Mem.midst (M : Mem w0 O (I ++ R0) Φ w) (hFs : ∀ i g, Fs i g → feet I g) {w' : World} {q : Nat → Prop} (h : Ch (fun g => ∃ j, q j ∧ Fs j g) w.drew w') : Mem w0 O R0 Φ w' := by
  have hc : Ch (feet I) w w' := (Ch.of_ext (Ext.drew w)).trans (h.mono fun g _ ⟨j, _, hj⟩ => hFs j g hj)
  exact M.call (outs := []) hc (Has.nil _) fun g hg => (feet_nil hg).elim
/-- .. a thing that others do not change. -/
theorem Has.midst {J : List Ent} (H : Has w J) {w' : World} (h : Ch (fun g => ∃ j, j ≠ i ∧ Fs j g) w.drew w') (hJ : ∀ j, j ≠ i → ∀ g, Fs j g → ¬ feet J g) : Has w' J :=
  (H.ext (Ext.drew w)).held h.held fun g hg ⟨j, h1, h2⟩ => hJ j h1 g h2 hg
theorem fr_val {o : Oper} {s : Spec} (ho : ops[i]? = some o) (hs : Vs[i]? = some s) (M : Mem w0 O (I ++ R0) Φ w) (hFs : ∀ i g, Fs i g → feet I g)
    (h : ∀ (x : Nat → Value) (w' : World), Mem w0 O R0 Φ w' → w.heap.size ≤ w'.heap.size → (∀ j, waits B i j = true → knows Vs x w' j) → ∃ v w'', covers (envOf ops B l Vs x i) o = true ∧ guardIn ops (envOf ops B l Vs x i) o = true ∧ wantedL ops (envOf ops B l Vs x i) o = true ∧
      (execOp (evL (envOf ops B l Vs x i)) o).run P w' = .ok (.value v) w'' ∧ Ext w' w'' ∧ s.ok w'' v) : FStepR P ops B l n Vs (ownRoad Fs w.drew) Q i := by
  intro x a w' hx hk E
  obtain ⟨v, w'', h1, h2, h3, h4, h5, h6⟩ := h x w' (M.midst hFs hx) hx.held.size hk
  refine ⟨o, s, ho, hs, fun K hK => ?_⟩
  rw [E.wanted h2, if_pos h3]
  unfold Oper.wp
  rw [E.exec h1, h4]
  exact hK v w'' (Ch.of_ext h5) h6
theorem fr_ext {o : Oper} {s : Spec} (ho : ops[i]? = some o) (hs : Vs[i]? = some s) (M : Mem w0 O (I ++ R0) Φ w) (hFs : ∀ i g, Fs i g → feet I g)
    (h : ∀ (x : Nat → Value) (w' : World), Mem w0 O R0 Φ w' → w.heap.size ≤ w'.heap.size → (∀ j, waits B i j = true → knows Vs x w' j) → ∃ f args, covers (envOf ops B l Vs x i) o = true ∧ guardIn ops (envOf ops B l Vs x i) o = true ∧ wantedL ops (envOf ops B l Vs x i) o = true ∧
      (execOp (evL (envOf ops B l Vs x i)) o).run P w' = .ok (.enter f args) w' ∧ ExtCall P f args w' s) : FStepR P ops B l n Vs (ownRoad Fs w.drew) Q i := by
  intro x a w' hx hk E
  obtain ⟨f, args, h1, h2, h3, h4, h5⟩ := h x w' (M.midst hFs hx) hx.held.size hk
  refine ⟨o, s, ho, hs, fun K hK => ?_⟩
  rw [E.wanted h2, if_pos h3]
  unfold Oper.wp
  rw [E.exec h1, h4, Oper.upon_enter]
  refine h5.mono ?_
  rintro e w'' ⟨v, rfl, hx2, hv⟩
  exact hK v w'' (Ch.of_ext hx2) hv
/-- An operation that changes things of its own. -/
theorem fr_own {o : Oper} {s : Spec} {J : List Ent} (ho : ops[i]? = some o) (hs : Vs[i]? = some s) (M : Mem w0 O (I ++ R0) Φ w) (hFs : ∀ i g, Fs i g → feet I g) (H : Has w J) (hJ : ∀ j, j ≠ i → ∀ g, Fs j g → ¬ feet J g)
    (h : ∀ (x : Nat → Value) (w' : World), Mem w0 O R0 Φ w' → Has w' J → w.heap.size ≤ w'.heap.size → (∀ j, waits B i j = true → knows Vs x w' j) → ∃ v w'', covers (envOf ops B l Vs x i) o = true ∧ guardIn ops (envOf ops B l Vs x i) o = true ∧ wantedL ops (envOf ops B l Vs x i) o = true ∧
      (execOp (evL (envOf ops B l Vs x i)) o).run P w' = .ok (.value v) w'' ∧ Ch (Fs i) w' w'' ∧ s.ok w'' v) : FStepR P ops B l n Vs (ownRoad Fs w.drew) Q i := by
  intro x a w' hx hk E
  obtain ⟨v, w'', h1, h2, h3, h4, h5, h6⟩ := h x w' (M.midst hFs hx) (H.midst hx hJ) hx.held.size hk
  refine ⟨o, s, ho, hs, fun K hK => ?_⟩
  rw [E.wanted h2, if_pos h3]
  unfold Oper.wp
  rw [E.exec h1, h4]
  exact hK v w'' h5 h6
/-- A call that changes things of its own. -/
theorem fr_call {o : Oper} {s : Spec} {J : List Ent} (ho : ops[i]? = some o) (hs : Vs[i]? = some s) (M : Mem w0 O (I ++ R0) Φ w) (hFs : ∀ i g, Fs i g → feet I g) (H : Has w J) (hJ : ∀ j, j ≠ i → ∀ g, Fs j g → ¬ feet J g)
    (h : ∀ (x : Nat → Value) (w' : World), Mem w0 O R0 Φ w' → Has w' J → w.heap.size ≤ w'.heap.size → (∀ j, waits B i j = true → knows Vs x w' j) → ∃ f args, covers (envOf ops B l Vs x i) o = true ∧ guardIn ops (envOf ops B l Vs x i) o = true ∧ wantedL ops (envOf ops B l Vs x i) o = true ∧
      (execOp (evL (envOf ops B l Vs x i)) o).run P w' = .ok (.enter f args) w' ∧ Calls P f args w' fun e w'' => ∃ v, e = .returned v ∧ Ch (Fs i) w' w'' ∧ s.ok w'' v) : FStepR P ops B l n Vs (ownRoad Fs w.drew) Q i := by
  intro x a w' hx hk E
  obtain ⟨f, args, h1, h2, h3, h4, h5⟩ := h x w' (M.midst hFs hx) (H.midst hx hJ) hx.held.size hk
  refine ⟨o, s, ho, hs, fun K hK => ?_⟩
  rw [E.wanted h2, if_pos h3]
  unfold Oper.wp
  rw [E.exec h1, h4, Oper.upon_enter]
  refine h5.mono ?_
  rintro e w'' ⟨v, rfl, hx2, hv⟩
  exact hK v w'' hx2 hv
theorem Does.own {α : Type} {f : FuncId} {args : List Value} {ins : List Ent} {val : α → Value} {outs : α → List Ent} {p : α → Prop} {B0 : Nat} (h : Does P f args w ins val outs p) (hB : B0 ≤ w.heap.size) (hF : ∀ g, feet ins g → Fs i g) : Calls P f args.toArray w fun e w'' => ∃ v, e = .returned v ∧ Ch (Fs i) w w'' ∧ (CameI B0 ins val outs p).ok w'' v :=
  h.mono fun en w' ⟨x, h1, h2, h3, h4, h5⟩ => ⟨_, h1, h2.mono fun g _ hg => hF g hg, x, rfl, h3, fun g hg => (h4 g hg).imp id fun h => Nat.le_trans hB h, h5⟩
end
/-- One operation alone changes something. -/
def oneFs (c : Nat) (J : List Ent) : Nat → Nat → Prop := fun j g => j = c ∧ feet J g
def AllO (B0 c : Nat) (F : Nat → Prop) : List Spec → Nat → Prop
  | [], _ => True
  | s :: r, j => (if j = c then LastsR B0 (fun _ => False) s else LastsR B0 F s) ∧ AllO B0 c F r (j + 1)
theorem AllO.get {B0 c : Nat} {F : Nat → Prop} : ∀ {Vs : List Spec} {k j : Nat} {s : Spec}, AllO B0 c F Vs k → Vs[j]? = some s → if k + j = c then LastsR B0 (fun _ => False) s else LastsR B0 F s
  | [], _, _, _, _, h => by simp at h
  | a :: r, k, 0, s, h, hj => by
    simp only [List.getElem?_cons_zero, Option.some.injEq] at hj
    subst hj
    exact h.1
  | a :: r, k, j + 1, s, h, hj => by
    have := AllO.get (j := j) h.2 (by simpa using hj)
    rwa [show k + 1 + j = k + (j + 1) by omega] at this
theorem LastsR.mono {B0 : Nat} {N N' : Nat → Prop} {s : Spec} (h : LastsR B0 N s) (hn : ∀ g, N' g → N g) : LastsR B0 N' s := by
  cases s with
  | exact v => trivial
  | rel p => exact fun G w w' v hG => h G w w' v fun g hg => hn g (hG g hg)
theorem LastsR.came1 {α : Type} {B0 : Nat} {ins : List Ent} {val : α → Value} {outs : α → List Ent} {p : α → Prop} : LastsR B0 (fun _ => False) (CameI B0 ins val outs p) := LastsR.came (fun g h => h.elim) fun g h => h.elim
/-- What reads so, in new memory. -/
def NewR (B0 sz n : Nat) (xs : List Value) : Spec := .rel fun w v => Reads sz w v n xs ∧ ∀ g, v.ownBlock = some g → B0 ≤ g
theorem LastsR.newR {B0 sz n : Nat} {xs : List Value} {N : Nat → Prop} (h1 : ∀ g, N g → g < B0) : LastsR B0 N (NewR B0 sz n xs) := fun G w w' v hG hB hc ⟨a1, a2⟩ =>
  ⟨a1.held hc.held fun g hg hgG => Nat.not_le_of_lt (h1 g (hG g hgG)) (a2 g hg), a2⟩
section
variable {P : Program} {Q : Exit → Act → World → Prop} {l : List (Nat × Value)} {n : Nat} {w w0 : World} {ops : Array Oper} {B : List Nat} {Vs : List Spec} {i c : Nat} {O : Nat → Prop} {J R0 : List Ent} {Φ : World → Prop}
theorem Mem.old (M : Mem w0 O (J ++ R0) Φ w) : ∀ g, feet J g → g < w.heap.size := fun g ⟨e, he, hg⟩ => M.lt e (List.mem_append_left _ he) g hg
theorem Mem.front (M : Mem w0 O (J ++ R0) Φ w) : Has w J := (M.has).sub (List.sublist_append_left _ _)
/-- What a region with one such operation leaves. -/
theorem Mem.behind {α : Type} {val : α → Value} {outs : α → List Ent} {p : α → Prop} {b : Nat → Bool} {w' : World} {v : Value} (M : Mem w0 O (J ++ R0) Φ w) (h : (ownRoad (oneFs c J) w.drew).I b w') (hk : (match CameI w.heap.size J val outs p with | .rel q => q w' v | .exact _ => False)) : ∃ x, v = val x ∧ p x ∧ Mem w0 O (outs x ++ R0) Φ w' := by
  obtain ⟨x, h1, h2, h3, h4⟩ := hk
  have hc : Ch (feet J) w w' := (Ch.of_ext (Ext.drew w)).trans (Ch.mono h fun g _ ⟨j, _, hj⟩ => hj.2)
  exact ⟨x, h1, h4, M.call hc h2 h3⟩
/-- A slice of the call's own grows, in a region. -/
theorem fr_app {o : Oper} {t tx e e' : TypeId} {X Y : Operand} {sz bytes k m : Nat} {v y : Value} {xs news : List Value} {args : List Operand} {ts : List TypeId} (ho : ops[i]? = some o) (hs : Vs[i]? = some (CameI w.heap.size [.row e sz v k xs] (fun v : Value => v) (fun v' => [.row e sz v' (k + m) (xs ++ news)]) (fun _ => True)))
    (M : Mem w0 O ([.row e sz v k xs] ++ R0) Φ w) (hop : o.op = .call { callee := .builtin .append, args := args.toArray, argTypes := ts.toArray }) (ha : args = [X, Y]) (hts : ts = [t, tx]) (ht : tySlice P t e = true) (htx : tySlice P tx e' = true) (hz : tyZero P e sz = true) (hb : tyBytes' P e bytes = true) (hsz : 0 < sz) (h1 : ∀ u ∈ news, u.oneCell' = true) (hmax : (k + m) * (bytes + 1) ≤ 140737488355328)
    (h : ∀ (x : Nat → Value) (w' : World), (∀ j, waits B i j = true → knows Vs x w' j) → covers (envOf ops B l Vs x i) o = true ∧ guardIn ops (envOf ops B l Vs x i) o = true ∧ wantedL ops (envOf ops B l Vs x i) o = true ∧ evL (envOf ops B l Vs x i) X = v ∧ ∃ y, evL (envOf ops B l Vs x i) Y = y ∧ Reads sz w' y m news) :
    FStepR P ops B l n Vs (ownRoad (oneFs i [.row e sz v k xs]) w.drew) Q i := by
  refine fr_own (J := [.row e sz v k xs]) ho hs M (fun j g hj => hj.2) M.front (fun j hj g hjg => absurd hjg.1 hj) fun x w' M' H' hB hk => ?_
  obtain ⟨c1, c2, c3, c4, y, c5, c6⟩ := h x w' hk
  obtain ⟨v', w'', r1, r2, r3, r4⟩ := run_appendR (P := P) hop ha hts c4 c5 ht htx hz hb hsz (H'.ent 0 rfl) c6 h1 hmax
  refine ⟨v', w'', c1, c2, c3, r1, ⟨r3.os, r3.tape, r3.output, ⟨r3.size, fun g hg hn => r3.block g hg (fun he => hn ⟨rfl, feet_one.2 (by simp [Ent.row, ← he])⟩)⟩⟩, v', rfl, ⟨fun x hx => by simp at hx; subst hx; exact r2, fun x hx g hg => ?_, List.pairwise_singleton _ _⟩, fun g hg => ?_, trivial⟩
  · simp at hx
    subst hx
    have hg' : v'.ownBlock = some g := by simpa [Ent.row] using hg
    rcases r2.2 with ⟨rfl, _⟩ | ⟨g2, cap, cur, rfl, _, h6, _⟩
    · simp [Value.ownBlock] at hg'
    · simp [Value.ownBlock] at hg'
      subst hg'
      exact (Array.getElem?_eq_some_iff.1 h6).1
  · have hg' : v'.ownBlock = some g := by simpa [Ent.row, feet_one] using hg
    exact (r4 g hg').imp (fun h => feet_one.2 (by simp [Ent.row, h])) fun h => Nat.le_trans hB h
end
section
variable {P : Program} {ρ : Operand → Value} {o : Oper} {w : World} {t e : TypeId}
theorem new_reads {cs : Array Value} {n sz : Nat} (hs : cs.size = n * sz) (hn : n ≤ maxLen) : Reads sz (w.alloc (.cells cs e)) (.slice (some ⟨w.heap.size, 0, none⟩) n n) n cs.toList :=
  reads_blk (w := w.alloc (.cells cs e)) (g := w.heap.size) (T := e) (fr := (0, 0)) (by show (w.heap.push _)[w.heap.size]? = _; simp) hs hn
theorem new_own {n : Nat} : ∀ g, (Value.slice (some ⟨w.heap.size, 0, none⟩) n n).ownBlock = some g → w.heap.size ≤ g := fun g hg => by
  simp [Value.ownBlock] at hg
  omega
/-- A slice of zeros, made in a region. -/
theorem made_fs {X Y : Operand} {kl kc : IntKind} {k : Nat} {x y : Int} (ho : o.op = .makeSlice t X Y) (hX : ρ X = .int kl x) (hY : ρ Y = .int kc y) (hx : x = k) (hy : y = k) (ht : tySlice P t e = true) (hz : tyZero P e 1 = true) (hz1 : (zeroOf P e).map (·.cells) = some #[.int .u8 0]) (hb : tyBytes' P e 1 = true) (hmax : k ≤ 70368744177664) :
    ∃ v w', (execOp ρ o).run P w = .ok (.value v) w' ∧ Ext w w' ∧ Bytes w' v (List.replicate k 0) := by
  obtain ⟨cs, hcs, hr, i, u, hi, hu, rfl⟩ := run_makeR (P := P) (w := w) ho hX hY hx hy ht hz hb (Nat.le_refl k) (by omega)
  have hu1 : u.cells = #[.int .u8 0] := by simpa [zeroOf, hi, hu] using hz1
  refine ⟨_, _, hr, Ext.alloc _ _, ?_⟩
  have := new_reads (w := w) (e := e) hcs (by simp only [maxLen]; omega)
  rw [hu1, Nat.mul_one, made_one] at this
  have e1 : bc (List.replicate k 0) = List.replicate k (.int .u8 0) := by simp [bc]
  unfold Bytes
  rw [List.length_replicate, e1]
  rwa [hu1, Nat.mul_one]
/-- A slice of some values, of one cell each. -/
theorem built_fs {n : Nat} {ps : List (Nat × Operand)} {vs : List Value} {z : List Value} (ho : o.op = .buildSlice t n ps.toArray) (hv : ps.map (fun p => (p.1, ρ p.2)) = (vs.zipIdx 0).map fun x => (x.2, x.1)) (hn : vs.length = n) (ht : tySlice P t e = true) (hs : tySize P e 1 = true) (hz : (zeroOf P e).map (·.cells.toList) = some z) (hzl : z.length = 1)
    (h1 : ∀ u ∈ vs, u.oneCell' = true) (hm : Nat.ble n 4194304 = true) (h0 : Nat.blt 0 n = true) : ∃ v w', (execOp ρ o).run P w = .ok (.value v) w' ∧ Ext w w' ∧ Reads 1 w' v n vs := by
  have hm' := Nat.le_of_ble_eq_true hm
  have e1 : vs.map (·.cells.size) = List.replicate n 1 := by
    rw [← hn]
    exact List.eq_replicate_iff.2 ⟨by simp, fun b hb => by
      obtain ⟨u, hu, rfl⟩ := List.mem_map.1 hb
      simp [cells_one (h1 u hu)]⟩
  have e2 : (vs.map (·.cells.toList)).flatten = vs := by
    clear hn hv e1
    induction vs with
    | nil => rfl
    | cons u r ih => simp [cells_one (h1 u (List.mem_cons_self ..)), ih fun x hx => h1 x (List.mem_cons_of_mem _ hx)]
  have hr := run_buildSliceA (w := w) (us := vs) ho hv hn ht hs hz hzl e1 (by simp; omega) (by simpa using h0) e2
  exact ⟨_, _, hr, Ext.alloc _ _, new_reads (by simp [hn]) (by simp only [maxLen]; omega)⟩
end
end Go.Rill
end
section
namespace Go.Rill
set_option linter.unusedVariables false
set_option linter.unusedSimpArgs false
open Go.RowKit
/-- Each with its own blocks. -/
def Apart (L : List Ent) : Prop := L.Pairwise fun e e' => ∀ g ∈ e.foot, g ∉ e'.foot
/-- Things, each with its own blocks, as one thing. -/
def Ent.all (L : List Ent) : Ent := ⟨L.flatMap (·.foot), fun w => (∀ e ∈ L, e.ok w) ∧ Apart L, fun w w' h k => ⟨fun e he => e.st w w' (fun g hg => h g (List.mem_flatMap.2 ⟨e, he, hg⟩)) (k.1 e he), k.2⟩⟩
theorem apart_nodup : ∀ {L : List Ent}, (L.flatMap (·.foot)).Nodup → Apart L
  | [], _ => List.Pairwise.nil
  | e :: r, h => by
    rw [List.flatMap_cons, List.nodup_append] at h
    exact List.pairwise_cons.2 ⟨fun e' he g hg hg' => h.2.2 g hg g (List.mem_flatMap.2 ⟨e', he, hg'⟩) rfl, apart_nodup h.2.1⟩
section
variable {w0 w w' : World} {O : Nat → Prop} {L A R ins outs : List Ent} {Φ : World → Prop} {g : Nat}
theorem Ent.mem_all : g ∈ (Ent.all L).foot ↔ feet L g := List.mem_flatMap
theorem feet_all : feet (Ent.all A :: R) g ↔ feet (A ++ R) g := by
  rw [feet_app]
  constructor
  · rintro ⟨e, he, hg⟩
    rcases List.mem_cons.1 he with rfl | he
    · exact .inl (Ent.mem_all.1 hg)
    · exact .inr ⟨e, he, hg⟩
  · rintro (h | ⟨e, he, hg⟩)
    · exact ⟨_, List.mem_cons_self .., Ent.mem_all.2 h⟩
    · exact ⟨e, List.mem_cons_of_mem _ he, hg⟩
theorem feet_all1 : feet [Ent.all A] g ↔ feet A g := by rw [feet_all, List.append_nil]
theorem feet_all2 {B : List Ent} : feet (B ++ [Ent.all A]) g ↔ feet (B ++ A) g := by rw [feet_app, feet_app, feet_all1]
theorem Mem.pack (M : Mem w0 O (A ++ R) Φ w) : Mem w0 O (Ent.all A :: R) Φ w := by
  have hp := List.pairwise_append.1 M.apart
  refine M.swap (.refl _ _) (fun e he => ?_) (fun e he g hg => ?_) (fun e he g hg => ?_) (List.pairwise_cons.2 ⟨fun e he g hg hg' => ?_, hp.2.1⟩)
  · rcases List.mem_cons.1 he with rfl | he
    · exact ⟨fun e he => M.ents e (List.mem_append_left _ he), hp.1⟩
    · exact M.ents e (List.mem_append_right _ he)
  · obtain ⟨x, hx, hgx⟩ := feet_all.1 ⟨e, he, hg⟩
    exact M.lt x hx g hgx
  · exact .inl (feet_all.1 ⟨e, he, hg⟩)
  · obtain ⟨x, hx, hgx⟩ := Ent.mem_all.1 hg
    exact hp.2.2 x hx e he g hgx hg'
theorem Mem.unpack (M : Mem w0 O (Ent.all A :: R) Φ w) : Mem w0 O (A ++ R) Φ w := by
  have hp := List.pairwise_cons.1 M.apart
  have ha : (Ent.all A).ok w := M.ents _ (List.mem_cons_self ..)
  refine M.swap (.refl _ _) (fun e he => ?_) (fun e he g hg => ?_) (fun e he g hg => ?_) (List.pairwise_append.2 ⟨ha.2, hp.2, fun a h b hb g hg hg' => ?_⟩)
  · rcases List.mem_append.1 he with he | he
    · exact ha.1 e he
    · exact M.ents e (List.mem_cons_of_mem _ he)
  · obtain ⟨x, hx, hgx⟩ := feet_all.2 ⟨e, he, hg⟩
    exact M.lt x hx g hgx
  · exact .inl (feet_all.2 ⟨e, he, hg⟩)
  · exact hp.1 b hb g (Ent.mem_all.2 ⟨a, h, hg⟩) hg'
theorem Has.mem (h : Has w L) : Mem w (feet L) L (fun _ => True) w := Mem.begin h fun _ _ => trivial
theorem Has.unpack (h : Has w (Ent.all A :: R)) : Has w (A ++ R) := h.mem.unpack.has
theorem Has.pack (h : Has w (A ++ R)) : Has w (Ent.all A :: R) := h.mem.pack.has
theorem Has.unpack1 (h : Has w [Ent.all A]) : Has w A := by
  have := h.unpack
  rwa [List.append_nil] at this
theorem Has.perm {L' : List Ent} (h : Has w L) (hp : L'.Perm L) : Has w L' := (h.mem.perm hp).has
/-- .. behind others. -/
theorem Has.packAt {B : List Ent} (h : Has w (B ++ A)) : Has w (B ++ [Ent.all A]) := by
  have h1 : Has w (A ++ B) := h.perm List.perm_append_comm
  exact h1.pack.perm (List.perm_append_comm (l₁ := B) (l₂ := [Ent.all A]))
end
section
variable {α β : Type} {P : Program} {f : FuncId} {args : List Value} {w : World} {ins A : List Ent} {val : α → Value} {outs : α → List Ent} {p : α → Prop}
/-- A contract over things, as one over the bound thing: what comes of it is bound, too. -/
theorem Does.packed {B C : β → List Ent} {val' : β → Value} {q : β → Prop} (h : Has w A → Does P f args w A val outs p) (H : Has w [Ent.all A]) (k : ∀ x, p x → ∃ y, val x = val' y ∧ outs x = B y ++ C y ∧ q y) : Does P f args w [Ent.all A] val' (fun y => B y ++ [Ent.all (C y)]) q :=
  (h H.unpack1).mono fun en w' ⟨x, h1, h2, h3, h4, h5⟩ => by
    obtain ⟨y, k1, k2, k3⟩ := k x h5
    rw [k2] at h3 h4
    exact ⟨y, by rw [h1, k1], h2.mono fun g _ hg => feet_all1.2 hg, h3.packAt, fun g hg => (h4 g (feet_all2.1 hg)).imp feet_all1.2 id, k3⟩
/-- A call that looks at other things that stay. -/
theorem Does.with {X : List Ent} (h : Does P f args w ins val outs p) (H : Has w (ins ++ X)) : Does P f args w (ins ++ X) val (fun x => outs x ++ X) p :=
  h.mono fun en w' ⟨x, h1, h2, h3, h4, h5⟩ => by
    have M := (H.mem).call h2 h3 h4
    refine ⟨x, h1, h2.mono fun g _ hg => feet_app.2 (.inl hg), M.has, fun g hg => ?_, h5⟩
    rcases feet_app.1 hg with hg | hg
    · exact (h4 g hg).imp (fun h => feet_app.2 (.inl h)) id
    · exact .inl (feet_app.2 (.inr hg))
end
end Go.Rill
end
section
namespace Go.Rill
set_option linter.unusedVariables false
set_option linter.unusedSimpArgs false
open Go.RowKit
def tyMeth (P : Program) (T : TypeId) (name : String) (f : Nat) : Bool := match P.info? T with
  | some i => (match i.methods.find? (·.name == name) with
    | some m => m.path.isEmpty && (match m.func with | some (g, true) => Nat.beq g f | _ => false)
    | none => false) && (match P.underlying T with | some (.pointer _) => true | _ => false)
  | none => false
section
variable {P : Program} {w : World}
theorem tyMeth_spec {T : TypeId} {name : String} {f : Nat} (h : tyMeth P T name f = true) : ∃ i m el, P.info? T = some i ∧ i.methods.find? (·.name == name) = some m ∧ m.path.toList = [] ∧ m.path.isEmpty = true ∧ m.func = some (f, true) ∧ P.underlying T = some (.pointer el) := by
  unfold tyMeth at h
  split at h
  · rename_i i hi
    rw [Bool.and_eq_true] at h
    obtain ⟨h1, h2⟩ := h
    split at h1
    · rename_i m hm
      rw [Bool.and_eq_true] at h1
      obtain ⟨h3, h4⟩ := h1
      split at h4
      · rename_i g hg
        have e := Nat.eq_of_beq_eq_true h4
        subst e
        split at h2
        · rename_i el hel
          exact ⟨i, m, el, hi, hm, by simpa using h3, h3, hg, hel⟩
        · cases h2
      · cases h4
    · cases h1
  · cases h
theorem fn_call {f : FuncId} {args : Array Value} (hf : goFn P f = true) : (callFunc f args).run P w = .ok (.enter f args) w := by
  unfold goFn at hf
  cases h : P.funcs[f]? with
  | none => rw [h] at hf; cases hf
  | some fn =>
    rw [h] at hf
    simp only [Bool.and_eq_true, Bool.not_eq_true'] at hf
    obtain ⟨h1, h2⟩ := hf
    have h3 : ¬ fn.body = none := by cases hb : fn.body <;> simp_all
    have h4 : ¬ fn.name = "runtime.NumGoroutine" := by simpa using h2
    simp [callFunc, h, h4, h3, program, Sem.run]
/-- A call by an interface. -/
theorem run_invoke {ρ : Operand → Value} {o : Oper} {x : Operand} {name : String} {args : List Operand} {ts : Array TypeId} {T f : Nat} {ad : Addr} (ho : o.op = .call { callee := .invoke x name, args := args.toArray, argTypes := ts }) (hx : ρ x = .iface T (.pointer (some ad))) (hm : tyMeth P T name f = true) (hg : goFn P f = true) :
    (execOp ρ o).run P w = .ok (.enter f (.pointer (some ad) :: args.map ρ).toArray) w := by
  obtain ⟨i, m, el, g1, g2, g3, g4, g5, g6⟩ := tyMeth_spec hm
  have hmth : ∀ n, (method (n + 1) T (.pointer (some ad)) name).run P w = .ok (f, .pointer (some ad)) w := fun n => by
    unfold method
    simp [typeInfo, g1, g2, g3, g4, follow, g5, receiverAt, run_underlying g6, Place.get]
  have hfuel : ∃ n, P.types.size + Made.depth = n + 1 := ⟨P.types.size + Made.depth - 1, by simp [Made.depth]⟩
  obtain ⟨n, hfuel⟩ := hfuel
  have hcf := fn_call (P := P) (w := w) (args := #[.pointer (some ad)] ++ (args.map ρ).toArray) hg
  have hcm : (callMethod (.iface T (.pointer (some ad))) name (args.map ρ).toArray).run P w = .ok (.enter f (.pointer (some ad) :: args.map ρ).toArray) w := by
    simp only [callMethod, Sem.run_bind]
    simp [hfuel, hmth n]
    simpa using hcf
  have hargs : (#[ρ x] ++ args.toArray.map ρ)[0]? = some (ρ x) := by simp
  simp only [execOp, ho, resolve, Sem.run_bind, Sem.run_pure, Result.andThen_ok, invoke]
  have ht : (args.map ρ).take args.length = args.map ρ := List.take_of_length_le (by simp)
  simp [hx]
  rw [ht]
  exact hcm
theorem run_makeMeth {ρ : Operand → Value} {o : Oper} {x : Operand} {nm : String} {v : Value} (ho : o.op = .makeFunc (.method nm) #[x] #[]) (hx : ρ x = v) : (execOp ρ o).run P w = .ok (.value (.func (.method nm) #[v] #[])) w := by
  subst hx
  simp [execOp, ho, Instr.makeFunc]
theorem run_nilCheckM {ρ : Operand → Value} {o : Oper} {x : Operand} {nm : String} {T f : Nat} {ad : Addr} (ho : o.op = .nilCheck x) (hx : ρ x = .func (.method nm) #[.iface T (.pointer (some ad))] #[]) (ht : tyMeth P T nm f = true) : (execOp ρ o).run P w = .ok (.value (.func (.method nm) #[.iface T (.pointer (some ad))] #[])) w := by
  obtain ⟨i, m, el, g1, g2, g3, g4, g5, g6⟩ := tyMeth_spec ht
  have hna : ∀ n, (nilAhead (n + 1) T (.pointer (some ad)) nm).run P w = .ok (some false) w := fun n => by
    unfold nilAhead
    simp [typeInfo, g1, g2, g3, followBlind, g5]
  have hfuel : ∃ n, P.types.size + Made.depth = n + 1 := ⟨P.types.size + Made.depth - 1, by simp [Made.depth]⟩
  obtain ⟨n, hfuel⟩ := hfuel
  simp only [execOp, ho, hx, Sem.run_bind]
  simp [hfuel, hna n]
theorem run_moveV {ρ : Operand → Value} {o : Oper} {X : Operand} {v : Value} (ho : o.op = .move X) (hX : ρ X = v) : (execOp ρ o).run P w = .ok (.value v) w := by simp [execOp, ho, hX]
theorem run_assignV {ρ : Operand → Value} {o : Oper} {X : Operand} {v : Value} (ho : o.op = .assign X) (hX : ρ X = v) : (execOp ρ o).run P w = .ok (.value v) w := by simp [execOp, ho, hX]
theorem run_extractV {ρ : Operand → Value} {o : Oper} {X : Operand} {i : Nat} {vs : Array Value} {v : Value} (ho : o.op = .extract X i) (hX : ρ X = .tuple vs) (hv : vs[i]? = some v) : (execOp ρ o).run P w = .ok (.value v) w := by
  simp [execOp, ho, hX, Instr.extract, hv]
end
theorem Bytes.one {w : World} {v : Value} {l : List UInt8} (h : Bytes w v l) : v.oneCell' = true := by
  obtain ⟨b, c, rfl⟩ := Reads.slice h
  rfl
/-- A slice of one struct. -/
theorem built1_fs {P : Program} {ρ : Operand → Value} {o : Oper} {w : World} {t e : TypeId} {X : Operand} {sz B0 : Nat} {cs z : List Value} (hB : B0 ≤ w.heap.size) (ho : o.op = .buildSlice t 1 #[(0, X)]) (hX : ρ X = .agg cs.toArray) (hc : cs.length = sz) (ht : tySlice P t e = true) (hs : tySize P e sz = true) (hz : (zeroOf P e).map (·.cells.toList) = some z) (hzl : z.length = sz)
    (hm : Nat.ble sz 16777216 = true) (h0 : Nat.blt 0 sz = true) : ∃ v w', (execOp ρ o).run P w = .ok (.value v) w' ∧ Ext w w' ∧ (Reads sz w' v 1 cs ∧ ∀ g, v.ownBlock = some g → B0 ≤ g) := by
  have hr := run_buildSliceA (P := P) (ρ := ρ) (w := w) (ps := [(0, X)]) (vs := [.agg cs.toArray]) (us := cs) ho (by simp [hX]) rfl ht hs hz hzl (by simp [Value.cells, hc]) (by simpa using hm) (by simpa using h0) (by simp [Value.cells])
  refine ⟨_, _, hr, Ext.alloc _ _, ?_, fun g hg => Nat.le_trans hB (new_own g hg)⟩
  have := new_reads (w := w) (e := e) (cs := cs.toArray) (n := 1) (sz := sz) (by simp [hc]) (by decide)
  simpa using this
/-- A slice of slices that read so. -/
def RowsOf (w : World) (v : Value) (ls : List (List UInt8)) : Prop := ∃ ps : List (Value × List UInt8), ps.map (·.2) = ls ∧ Reads 1 w v ps.length (ps.map (·.1)) ∧ ∀ q ∈ ps, Bytes w q.1 q.2
theorem RowsOf.ext {w w' : World} {v : Value} {ls : List (List UInt8)} (h : RowsOf w v ls) (hx : Ext w w') : RowsOf w' v ls := by
  obtain ⟨ps, h1, h2, h3⟩ := h
  exact ⟨ps, h1, Reads.ext h2 hx, fun q hq => Reads.ext (h3 q hq) hx⟩
/-- A slice of one byte. -/
theorem byte_fs {P : Program} {ρ : Operand → Value} {o : Oper} {w : World} {t e : TypeId} {X : Operand} {b : UInt8} {z : List Value} {B0 : Nat} (hB : B0 ≤ w.heap.size) (ho : o.op = .buildSlice t 1 #[(0, X)]) (hX : ρ X = .int .u8 (b.toNat : Int)) (ht : tySlice P t e = true) (hs : tySize P e 1 = true) (hz : (zeroOf P e).map (·.cells.toList) = some z) (hzl : z.length = 1) : ∃ v w', (execOp ρ o).run P w = .ok (.value v) w' ∧ Ext w w' ∧ (Bytes w' v [b] ∧ ∀ g, v.ownBlock = some g → B0 ≤ g) := by
  have hr := run_buildSliceA (P := P) (ρ := ρ) (w := w) (ps := [(0, X)]) (vs := [.int .u8 (b.toNat : Int)]) (us := [.int .u8 (b.toNat : Int)]) ho (by simp [hX]) rfl ht hs hz hzl (by simp [Value.cells]) rfl rfl (by simp [Value.cells])
  exact ⟨_, _, hr, Ext.alloc _ _, new_reads (w := w) (e := e) (cs := #[.int .u8 (b.toNat : Int)]) (n := 1) (sz := 1) rfl (by decide), fun g hg => Nat.le_trans hB (new_own g hg)⟩
theorem rows_fs {P : Program} {ρ : Operand → Value} {o : Oper} {w : World} {t e : TypeId} {n : Nat} {ps : List (Nat × Operand)} {z : List Value} {ls : List (List UInt8)} (qs : List (Value × List UInt8)) (ho : o.op = .buildSlice t n ps.toArray) (hv : ps.map (fun p => (p.1, ρ p.2)) = ((qs.map (·.1)).zipIdx 0).map fun x => (x.2, x.1)) (hn : qs.length = n) (hl : qs.map (·.2) = ls) (ht : tySlice P t e = true) (hs : tySize P e 1 = true) (hz : (zeroOf P e).map (·.cells.toList) = some z) (hzl : z.length = 1)
    (hb : ∀ q ∈ qs, Bytes w q.1 q.2) (hm : Nat.ble n 4194304 = true) (h0 : Nat.blt 0 n = true) : ∃ v w', (execOp ρ o).run P w = .ok (.value v) w' ∧ Ext w w' ∧ RowsOf w' v ls := by
  subst hn
  obtain ⟨v, w', h1, h2, h3⟩ := built_fs (P := P) (w := w) (vs := qs.map (·.1)) ho hv (by simp) ht hs hz hzl (fun u hu => by obtain ⟨q, hq, rfl⟩ := List.mem_map.1 hu; exact (hb q hq).one) hm h0
  exact ⟨v, w', h1, h2, qs, hl, h3, fun q hq => (hb q hq).ext h2⟩
theorem rows2 {w : World} {a b : Value} {x y : List UInt8} (h1 : Bytes w a x) (h2 : Bytes w b y) : ∀ q ∈ [(a, x), (b, y)], Bytes w q.1 q.2 := fun q hq => by
  simp only [List.mem_cons, List.not_mem_nil, or_false] at hq
  rcases hq with rfl | rfl <;> assumption
theorem rows3 {w : World} {a b c : Value} {x y z : List UInt8} (h1 : Bytes w a x) (h2 : Bytes w b y) (h3 : Bytes w c z) : ∀ q ∈ [(a, x), (b, y), (c, z)], Bytes w q.1 q.2 := fun q hq => by
  simp only [List.mem_cons, List.not_mem_nil, or_false] at hq
  rcases hq with rfl | rfl | rfl <;> assumption
theorem Mem.off {w0 w : World} {O : Nat → Prop} {L : List Ent} {Φ : World → Prop} {e : Ent} {i j sz n : Nat} {t : TypeId} {v : Value} {xs : List Value} (M : Mem w0 O L Φ w) (hi : L[i]? = some e) (hj : L[j]? = some (.row t sz v n xs)) (hij : Nat.beq i j = false) : ∀ g, v.ownBlock = some g → g ∉ e.foot := fun g hg hc => by
  have hne : i ≠ j := fun c => by subst c; rw [Nat.beq_refl] at hij; cases hij
  obtain ⟨hi1, hi2⟩ := List.getElem?_eq_some_iff.1 hi
  obtain ⟨hj1, hj2⟩ := List.getElem?_eq_some_iff.1 hj
  have hp := List.pairwise_iff_getElem.1 M.apart
  have hg' : g ∈ (L[j]).foot := by rw [hj2]; simp [Ent.row, hg]
  have hc' : g ∈ (L[i]).foot := by rw [hi2]; exact hc
  rcases Nat.lt_or_gt_of_ne hne with h | h
  · exact hp i j hi1 hj1 h g hc' hg'
  · exact hp j i hj1 hi1 h g hg' hc'
theorem Mem.has1 {w0 w : World} {O : Nat → Prop} {L : List Ent} {Φ : World → Prop} {e : Ent} {i : Nat} (M : Mem w0 O L Φ w) (hi : L[i]? = some e) : Has w [e] := M.has.sub (List.singleton_sublist.2 (List.mem_of_getElem? hi))
/-! ### A call's results move on -/
section
variable {α : Type} {P : Program} {Q : Exit → Act → World → Prop} {l : List (Nat × Value)} {n : Nat} {w w0 : World} {ops : Array Oper} {B : List Nat} {Vs : List Spec} {i j B0 : Nat} {J : List Ent} {val val' : α → Value} {outs : α → List Ent} {p : α → Prop}
theorem fs_rel {o : Oper} {q : World → Value → Prop} (ho : ops[i]? = some o) (hs : Vs[i]? = some (.rel q))
    (h : ∀ (x : Nat → Value) (w : World), Ext w0 w → (∀ j, waits B i j = true → knows Vs x w j) → covers (envOf ops B l Vs x i) o = true ∧ guardIn ops (envOf ops B l Vs x i) o = true ∧ wantedL ops (envOf ops B l Vs x i) o = true ∧
      ∃ v w', (execOp (evL (envOf ops B l Vs x i)) o).run P w = .ok (.value v) w' ∧ Ext w w' ∧ q w' v) : FStep P ops B l n Vs w0 Q i :=
  fs_val ho hs fun x w hx hk => by
    obtain ⟨h1, h2, h3, v, w', h4, h5, h6⟩ := h x w hx hk
    exact ⟨v, w', h1, h2, h3, h4, h5, h6⟩
/-- With what came up at j known to be so, the operation i hands on this of it. -/
theorem fs_on {o : Oper} (ho : ops[i]? = some o) (hs : Vs[i]? = some (CameI B0 J val' outs p)) (hj : Vs[j]? = some (CameI B0 J val outs p)) (hw : waits B i j = true)
    (h : ∀ (x : Nat → Value) (w : World) (y : α), x j = val y → covers (envOf ops B l Vs x i) o = true ∧ guardIn ops (envOf ops B l Vs x i) o = true ∧ wantedL ops (envOf ops B l Vs x i) o = true ∧ (execOp (evL (envOf ops B l Vs x i)) o).run P w = .ok (.value (val' y)) w) : FStep P ops B l n Vs w0 Q i :=
  fs_val ho hs fun x w hx hk => by
    have k := hk j hw
    unfold knows at k
    rw [hj] at k
    obtain ⟨y, k1, k2⟩ := k
    obtain ⟨h1, h2, h3, h4⟩ := h x w y k1
    exact ⟨_, _, h1, h2, h3, h4, Ext.refl _, y, rfl, k2⟩
/-- .. one value, whatever it was. -/
theorem fs_of {o : Oper} {v : Value} (ho : ops[i]? = some o) (hs : Vs[i]? = some (.exact v)) (hj : Vs[j]? = some (CameI B0 J val outs p)) (hw : waits B i j = true)
    (h : ∀ (x : Nat → Value) (w : World) (y : α), x j = val y → covers (envOf ops B l Vs x i) o = true ∧ guardIn ops (envOf ops B l Vs x i) o = true ∧ wantedL ops (envOf ops B l Vs x i) o = true ∧ (execOp (evL (envOf ops B l Vs x i)) o).run P w = .ok (.value v) w) : FStep P ops B l n Vs w0 Q i :=
  fs_val ho hs fun x w hx hk => by
    have k := hk j hw
    unfold knows at k
    rw [hj] at k
    obtain ⟨y, k1, k2⟩ := k
    obtain ⟨h1, h2, h3, h4⟩ := h x w y k1
    exact ⟨_, _, h1, h2, h3, h4, Ext.refl _, rfl⟩
theorem LastsR.cameV {N : Nat → Prop} {outs : Value → List Ent} {p : Value → Prop} (h1 : ∀ g, N g → g < B0) : LastsR B0 N (CameV B0 outs p) := fun G w w' v hG hB hc ⟨a1, a2, a3⟩ => ⟨a1.held hc.held fun g hg hgG => Nat.not_le_of_lt (h1 g (hG g hgG)) (a2 g hg), a2, a3⟩
theorem LastsS.cameI : LastsS (CameI B0 J val outs p) := fun w w' v hx ⟨x, h1, h2, h3⟩ => ⟨x, h1, h2.ext hx, h3⟩
theorem Does.extI {f : FuncId} {args : List Value} {B : Nat} (h : Does P f args w [] val outs p) (hB : B ≤ w.heap.size) : ExtCall P f args.toArray w (CameI B [] val outs p) :=
  h.mono fun en w' ⟨x, h1, h2, h3, h4, h5⟩ => ⟨_, h1, (h2.mono fun g _ h => (feet_nil h).elim : Ch none' w w').ext, x, rfl, h3, fun g hg => (h4 g hg).elim (fun h => (feet_nil h).elim) fun h => .inr (Nat.le_trans hB h), h5⟩
section
variable {Fs : Nat → Nat → Prop} {O : Nat → Prop} {I R0 : List Ent} {Φ : World → Prop}
theorem fr_rel {o : Oper} {q : World → Value → Prop} (ho : ops[i]? = some o) (hs : Vs[i]? = some (.rel q)) (M : Mem w0 O (I ++ R0) Φ w) (hFs : ∀ i g, Fs i g → feet I g)
    (h : ∀ (x : Nat → Value) (w' : World), Mem w0 O R0 Φ w' → w.heap.size ≤ w'.heap.size → (∀ j, waits B i j = true → knows Vs x w' j) → covers (envOf ops B l Vs x i) o = true ∧ guardIn ops (envOf ops B l Vs x i) o = true ∧ wantedL ops (envOf ops B l Vs x i) o = true ∧
      ∃ v w'', (execOp (evL (envOf ops B l Vs x i)) o).run P w' = .ok (.value v) w'' ∧ Ext w' w'' ∧ q w'' v) : FStepR P ops B l n Vs (ownRoad Fs w.drew) Q i :=
  fr_val ho hs M hFs fun x w' M' hB hk => by
    obtain ⟨h1, h2, h3, v, w', h4, h5, h6⟩ := h x w' M' hB hk
    exact ⟨v, w', h1, h2, h3, h4, h5, h6⟩
theorem fr_on {o : Oper} (ho : ops[i]? = some o) (hs : Vs[i]? = some (CameI B0 J val' outs p)) (hj : Vs[j]? = some (CameI B0 J val outs p)) (hw : waits B i j = true)
    (h : ∀ (x : Nat → Value) (w : World) (y : α), x j = val y → covers (envOf ops B l Vs x i) o = true ∧ guardIn ops (envOf ops B l Vs x i) o = true ∧ wantedL ops (envOf ops B l Vs x i) o = true ∧ (execOp (evL (envOf ops B l Vs x i)) o).run P w = .ok (.value (val' y)) w) : FStepR P ops B l n Vs (ownRoad Fs w0) Q i := by
  intro x a w' hx hk E
  have k := hk j hw
  unfold knows at k
  rw [hj] at k
  obtain ⟨y, k1, k2⟩ := k
  obtain ⟨h1, h2, h3, h4⟩ := h x w' y k1
  refine ⟨o, _, ho, hs, fun K hK => ?_⟩
  rw [E.wanted h2, if_pos h3]
  unfold Oper.wp
  rw [E.exec h1, h4]
  exact hK _ w' (Ch.refl _ _) ⟨y, rfl, k2⟩
theorem fr_of {o : Oper} {v : Value} (ho : ops[i]? = some o) (hs : Vs[i]? = some (.exact v)) (hj : Vs[j]? = some (CameI B0 J val outs p)) (hw : waits B i j = true)
    (h : ∀ (x : Nat → Value) (w : World) (y : α), x j = val y → covers (envOf ops B l Vs x i) o = true ∧ guardIn ops (envOf ops B l Vs x i) o = true ∧ wantedL ops (envOf ops B l Vs x i) o = true ∧ (execOp (evL (envOf ops B l Vs x i)) o).run P w = .ok (.value v) w) : FStepR P ops B l n Vs (ownRoad Fs w0) Q i := by
  intro x a w' hx hk E
  have k := hk j hw
  unfold knows at k
  rw [hj] at k
  obtain ⟨y, k1, k2⟩ := k
  obtain ⟨h1, h2, h3, h4⟩ := h x w' y k1
  refine ⟨o, _, ho, hs, fun K hK => ?_⟩
  rw [E.wanted h2, if_pos h3]
  unfold Oper.wp
  rw [E.exec h1, h4]
  exact hK _ w' (Ch.refl _ _) rfl
end
/-- A slot's value, said otherwise. -/
theorem Env.say {a : Act} {t : Nat} {u v : Value} (E : Env l n a) (h : l.lookup t = some u) (e : u = v) : Env ((t, v) :: l) n a := by
  subst e
  refine ⟨fun s z hs => ?_, E.size, E.defers⟩
  simp only [List.lookup_cons] at hs
  by_cases c : s = t
  · subst c
    simp at hs
    subst hs
    exact E.get _ _ h
  · have hb : (s == t) = false := by simpa using c
    rw [hb] at hs
    exact E.get _ _ hs
/-- All that stands behind the one operation that changes things, or ahead of it. -/
def AllY (B0 c : Nat) (F : Nat → Prop) (B : List Nat) : List Spec → Nat → Prop
  | [], _ => True
  | s :: r, j => (bif Nat.beq j c || waits B j c then LastsR B0 (fun _ => False) s else LastsR B0 F s) ∧ AllY B0 c F B r (j + 1)
theorem AllY.get {c : Nat} {F : Nat → Prop} : ∀ {Vs : List Spec} {k j : Nat} {s : Spec}, AllY B0 c F B Vs k → Vs[j]? = some s → bif Nat.beq (k + j) c || waits B (k + j) c then LastsR B0 (fun _ => False) s else LastsR B0 F s
  | [], _, _, _, _, h => by simp at h
  | a :: r, k, 0, s, h, hj => by
    simp only [List.getElem?_cons_zero, Option.some.injEq] at hj
    subst hj
    exact h.1
  | a :: r, k, j + 1, s, h, hj => by
    have := AllY.get (j := j) h.2 (by simpa using hj)
    rwa [show k + 1 + j = k + (j + 1) by omega] at this
theorem allY_nil {c j : Nat} {F : Nat → Prop} : AllY B0 c F B [] j := trivial
theorem allY_ex {c j : Nat} {F : Nat → Prop} {v : Value} {r : List Spec} (h : AllY B0 c F B r (j + 1)) : AllY B0 c F B (.exact v :: r) j := ⟨by cases (Nat.beq j c || waits B j c) <;> trivial, h⟩
theorem allY_in {c j : Nat} {F : Nat → Prop} {s : Spec} {r : List Spec} (hw : (Nat.beq j c || waits B j c) = true) (h1 : LastsR B0 (fun _ => False) s) (h : AllY B0 c F B r (j + 1)) : AllY B0 c F B (s :: r) j := ⟨by rw [hw]; exact h1, h⟩
theorem allY_any {c j : Nat} {F : Nat → Prop} {s : Spec} {r : List Spec} (h1 : LastsR B0 F s) (h : AllY B0 c F B r (j + 1)) : AllY B0 c F B (s :: r) j := ⟨by
  cases (Nat.beq j c || waits B j c)
  · exact h1
  · exact LastsR.mono h1 fun g h => h.elim, h⟩
theorem one_okW {N c : Nat} {J : List Ent} (hN : Nat.ble Vs.length N = true) (h : AllY w0.heap.size c (feet J) B Vs 0) : (ownRoad (oneFs c J) w0).Ok N B Vs w0 :=
  ownRoad_ok hN fun j s hs => by
    have := h.get hs
    rw [Nat.zero_add] at this
    cases hb : (Nat.beq j c || waits B j c) with
    | true =>
      rw [hb] at this
      refine LastsR.mono this fun g ⟨i, h1, h2, h3, _⟩ => ?_
      subst h3
      rw [Bool.or_eq_true] at hb
      rcases hb with hb | hb
      · exact h1 (Nat.eq_of_beq_eq_true hb).symm
      · rw [h2] at hb; cases hb
    | false =>
      rw [hb] at this
      exact LastsR.mono this fun g ⟨i, _, _, _, h4⟩ => h4
/-- A store in the midst of a region. -/
theorem fr_set {g : Nat} {cs cs' : Array Value} {T : TypeId} {fr : Nat × Nat} {o : Oper} {O : Nat → Prop} {R0 : List Ent} {Φ : World → Prop} (ho : ops[i]? = some o) (hs : Vs[i]? = some (CameI w.heap.size [.blk g (.cells cs T fr)] (fun _ : Unit => undef) (fun _ => [.blk g (.cells cs' T fr)]) (fun _ => True))) (M : Mem w0 O ([.blk g (.cells cs T fr)] ++ R0) Φ w)
    (h : ∀ (x : Nat → Value) (w' : World), Mem w0 O R0 Φ w' → Has w' [.blk g (.cells cs T fr)] → w.heap.size ≤ w'.heap.size → (∀ j, waits B i j = true → knows Vs x w' j) → covers (envOf ops B l Vs x i) o = true ∧ guardIn ops (envOf ops B l Vs x i) o = true ∧ wantedL ops (envOf ops B l Vs x i) o = true ∧
      (execOp (evL (envOf ops B l Vs x i)) o).run P w' = .ok .skip (w'.setRow g cs')) : FStepR P ops B l n Vs (ownRoad (oneFs i [.blk g (.cells cs T fr)]) w.drew) Q i := by
  intro x a w' hx hk E
  have H' : Has w' [.blk g (.cells cs T fr)] := M.front.midst hx fun j hj g hjg => absurd hjg.1 hj
  obtain ⟨h1, h2, h3, h4⟩ := h x w' (M.midst (fun i g h => h.2) hx) H' hx.held.size hk
  refine ⟨o, _, ho, hs, fun K hK => ?_⟩
  rw [E.wanted h2, if_pos h3]
  unfold Oper.wp
  rw [E.exec h1, h4, Oper.upon_skip]
  have M2 := H'.mem.set (i := 0) (cs' := cs') rfl
  have hg : g < w'.heap.size := H'.lt _ (List.mem_singleton.2 rfl) g (List.mem_singleton.2 rfl)
  exact hK undef _ (Ch.setRow ⟨rfl, feet_one.2 (List.mem_singleton.2 rfl)⟩) ⟨(), rfl, M2.has, fun q hq => .inl (feet_one.2 (by have := feet_one.1 hq; exact this)), trivial⟩
/-! ### Two operations that change things: a call, and an append of what it hands on -/
def twoFs (c d : Nat) (J K : List Ent) : Nat → Nat → Prop := fun j g => (j = c ∧ feet J g) ∨ (j = d ∧ feet K g)
def AllT (B0 c d : Nat) (J K : List Ent) (B : List Nat) : List Spec → Nat → Prop
  | [], _ => True
  | s :: r, j => LastsR B0 (fun g => ∃ i, i ≠ j ∧ waits B j i = false ∧ twoFs c d J K i g) s ∧ AllT B0 c d J K B r (j + 1)
section
variable {c d : Nat} {K : List Ent}
theorem allT_nil {k : Nat} : AllT B0 c d J K B [] k := trivial
theorem allT_ex {k : Nat} {v : Value} {r : List Spec} (h : AllT B0 c d J K B r (k + 1)) : AllT B0 c d J K B (.exact v :: r) k := ⟨trivial, h⟩
theorem allT_any {k : Nat} {s : Spec} {r : List Spec} (h1 : LastsR B0 (fun g => feet J g ∨ feet K g) s) (h : AllT B0 c d J K B r (k + 1)) : AllT B0 c d J K B (s :: r) k :=
  ⟨LastsR.mono h1 fun g ⟨i, _, _, h⟩ => h.imp (·.2) (·.2), h⟩
theorem allT_c {k : Nat} {s : Spec} {r : List Spec} (hc : k = c) (h1 : LastsR B0 (feet K) s) (h : AllT B0 c d J K B r (k + 1)) : AllT B0 c d J K B (s :: r) k :=
  ⟨LastsR.mono h1 fun g ⟨i, h2, _, h⟩ => h.elim (fun h => absurd (h.1.trans hc.symm) h2) (·.2), h⟩
theorem allT_d {k : Nat} {s : Spec} {r : List Spec} (hd : (Nat.beq k d || waits B k d) = true) (hc : waits B k c = true) (h1 : LastsR B0 (fun _ => False) s) (h : AllT B0 c d J K B r (k + 1)) : AllT B0 c d J K B (s :: r) k :=
  And.intro (LastsR.mono h1 fun g ⟨i, h2, h3, h4⟩ => by
    rcases h4 with ⟨h5, _⟩ | ⟨h5, _⟩
    · subst h5
      rw [hc] at h3; cases h3
    · subst h5
      rw [Bool.or_eq_true] at hd
      rcases hd with hd | hd
      · exact h2 (Nat.eq_of_beq_eq_true hd).symm
      · rw [hd] at h3; cases h3) h
theorem AllT.get : ∀ {Vs : List Spec} {k j : Nat} {s : Spec}, AllT B0 c d J K B Vs k → Vs[j]? = some s → LastsR B0 (fun g => ∃ i, i ≠ k + j ∧ waits B (k + j) i = false ∧ twoFs c d J K i g) s
  | [], _, _, _, _, h => by simp at h
  | a :: r, k, 0, s, h, hj => by
    simp only [List.getElem?_cons_zero, Option.some.injEq] at hj
    subst hj
    exact h.1
  | a :: r, k, j + 1, s, h, hj => by
    have := AllT.get (j := j) h.2 (by simpa using hj)
    rwa [show k + 1 + j = k + (j + 1) by omega] at this
theorem two_ok {N : Nat} (hN : Nat.ble Vs.length N = true) (h : AllT w0.heap.size c d J K B Vs 0) : (ownRoad (twoFs c d J K) w0).Ok N B Vs w0 :=
  ownRoad_ok hN fun j s hs => by
    have := h.get hs
    rwa [Nat.zero_add] at this
theorem twoFs_in {i g : Nat} (h : twoFs c d J K i g) : feet (J ++ K) g := h.elim (fun h => feet_app.2 (.inl h.2)) fun h => feet_app.2 (.inr h.2)
end
theorem Mem.part {w0 w : World} {O : Nat → Prop} {J K R0 : List Ent} {Φ : World → Prop} (M : Mem w0 O ((J ++ K) ++ R0) Φ w) : ∀ g, feet J g → ¬ feet K g := fun g ⟨a, ha, hga⟩ ⟨b, hb, hgb⟩ =>
  (List.pairwise_append.1 (List.pairwise_append.1 M.apart).1).2.2 a ha b hb g hga hgb
/-- What such a region leaves. -/
theorem Mem.behindG {Fs : Nat → Nat → Prop} {O : Nat → Prop} {J R0 : List Ent} {Φ : World → Prop} {b : Nat → Bool} {w' w wb : World} {v : Value} (M : Mem wb O (J ++ R0) Φ w) (hF : ∀ i g, Fs i g → feet J g) (h : (ownRoad Fs w.drew).I b w') (hk : (match CameI w.heap.size J val outs p with | .rel q => q w' v | .exact _ => False)) : ∃ x, v = val x ∧ p x ∧ Mem wb O (outs x ++ R0) Φ w' := by
  obtain ⟨x, h1, h2, h3, h4⟩ := hk
  have hc : Ch (feet J) w w' := (Ch.of_ext (Ext.drew w)).trans (Ch.mono h fun g _ ⟨j, _, hj⟩ => hF j g hj)
  exact ⟨x, h1, h4, M.call hc h2 h3⟩
/-- Bytes of the call's own grow by what a call has handed on. -/
theorem fr_app2 {c : α → Value} {rest : α → List Ent} {p1 : α → Prop} {sb lb : List UInt8} {v : Value} {e e1 e2 t tx : TypeId} {o : Oper} {X Y : Operand} {args : List Operand} {ts : List TypeId} {O : Nat → Prop} {R0 : List Ent} {Φ : World → Prop}
    (ho : ops[i]? = some o) (hs : Vs[i]? = some (CameI w.heap.size (J ++ [.bytes e v lb]) (fun y : Value × α => y.1) (fun y => [.bytes e y.1 (lb ++ sb)] ++ rest y.2) (fun y => p1 y.2)))
    (hj : Vs[j]? = some (CameI w.heap.size J c (fun y => [.bytes e1 (c y) sb] ++ rest y) p1)) (hwt : waits B i j = true) (M : Mem w0 O ((J ++ [.bytes e v lb]) ++ R0) Φ w)
    (hop : o.op = .call { callee := .builtin .append, args := args.toArray, argTypes := ts.toArray }) (ha : args = [X, Y]) (hts : ts = [t, tx]) (ht : tySlice P t e = true) (htx : tySlice P tx e2 = true) (hz : tyZero P e 1 = true) (hb : tyBytes' P e 1 = true) (hmax : (lb.length + sb.length) * (1 + 1) ≤ 140737488355328)
    (h : ∀ (x : Nat → Value) (y : α), x j = c y → covers (envOf ops B l Vs x i) o = true ∧ guardIn ops (envOf ops B l Vs x i) o = true ∧ wantedL ops (envOf ops B l Vs x i) o = true ∧ evL (envOf ops B l Vs x i) X = v ∧ evL (envOf ops B l Vs x i) Y = c y) :
    FStepR P ops B l n Vs (ownRoad (twoFs j i J [.bytes e v lb]) w.drew) Q i := by
  have HK : Has w [.bytes e v lb] := M.has.sub ((List.sublist_append_right _ _).trans (List.sublist_append_left _ _))
  have hold : ∀ g, feet (J ++ [.bytes e v lb]) g → g < w.heap.size := M.old
  refine fr_own (J := [.bytes e v lb]) ho hs M (fun i g h => twoFs_in h) HK (fun j' hj' g hg hc => ?_) fun x w' M' H' hB hk => ?_
  · rcases hg with ⟨_, hg⟩ | ⟨e, _⟩
    · exact M.part g hg hc
    · exact hj' e
  · have k := hk j hwt
    unfold knows at k
    rw [hj] at k
    obtain ⟨y, k1, k2, k3, k4⟩ := k
    obtain ⟨c1, c2, c3, c4, c5⟩ := h x y k1
    have hsrc : Reads 1 w' (c y) sb.length (bc sb) := k2.reads 0 rfl
    obtain ⟨v', w'', r1, r2, r3, r4⟩ := run_appendR (P := P) hop ha hts c4 c5 ht htx hz hb (by decide) (H'.ent 0 rfl) hsrc (bc_one sb) hmax
    have hrest : Has w' (rest y) := k2.sub (List.sublist_append_right _ _)
    have hown : ∀ g, v.ownBlock = some g → feet [Ent.bytes e v lb] g := fun g hg => feet_one.2 (by simp [Ent.row, hg])
    have hheld : Held (fun g => v.ownBlock = some g) w' w'' := ⟨r3.size, fun g hg hn => r3.block g hg fun he => hn he.symm⟩
    have hdis : ∀ g, feet (rest y) g → v.ownBlock ≠ some g := fun g hg hc => by
      rcases k3 g (feet_app.2 (.inr hg)) with h1 | h1
      · exact M.part g h1 (hown g hc)
      · exact Nat.not_le_of_lt (hold g (feet_app.2 (.inr (hown g hc)))) h1
    have hr2 : Has w'' (rest y) := hrest.held hheld fun g hg hc => hdis g hg hc
    have e1 : bc (lb ++ sb) = bc lb ++ bc sb := by simp [bc]
    have e2 : Ent.bytes e v' (lb ++ sb) = .row e 1 v' (lb.length + sb.length) (bc lb ++ bc sb) := by unfold Ent.bytes; rw [e1, List.length_append]
    have hlt : ∀ g, v'.ownBlock = some g → g < w''.heap.size := fun g hg' => by
      rcases r2.2 with ⟨rfl, _⟩ | ⟨g2, cap, cur, rfl, _, h6, _⟩
      · simp [Value.ownBlock] at hg'
      · simp [Value.ownBlock] at hg'
        subst hg'
        exact (Array.getElem?_eq_some_iff.1 h6).1
    refine ⟨v', w'', c1, c2, c3, r1, ⟨r3.os, r3.tape, r3.output, ⟨r3.size, fun g hg hn => r3.block g hg (fun he => hn (.inr ⟨rfl, hown g he.symm⟩))⟩⟩, (v', y), rfl, ?_, fun g hg => ?_, k4⟩
    · show Has w'' (Ent.bytes e v' (lb ++ sb) :: rest y)
      rw [e2]
      refine ⟨fun z hz => ?_, fun z hz g hg => ?_, List.pairwise_cons.2 ⟨fun z hz g hg hg' => ?_, hr2.apart⟩⟩
      · rcases List.mem_cons.1 hz with rfl | hz
        · exact r2
        · exact hr2.ents z hz
      · rcases List.mem_cons.1 hz with rfl | hz
        · exact hlt g (by simpa [Ent.row] using hg)
        · exact hr2.lt z hz g hg
      · have hg1 : v'.ownBlock = some g := by simpa [Ent.row] using hg
        rcases r4 g hg1 with h1 | h1
        · exact hdis g ⟨z, hz, hg'⟩ h1
        · have := hrest.lt z hz g hg'; omega
    · rcases feet_app.1 hg with hg | hg
      · have hg1 : v'.ownBlock = some g := by simpa [Ent.row, feet_one] using hg
        exact (r4 g hg1).imp (fun h1 => feet_app.2 (.inr (hown g h1))) fun h1 => Nat.le_trans hB h1
      · exact (k3 g (feet_app.2 (.inr hg))).imp (fun h1 => feet_app.2 (.inl h1)) id
/-- What a region that changes nothing leaves, of a call's results. -/
theorem Mem.came {O : Nat → Prop} {L : List Ent} {Φ : World → Prop} {wb w' : World} {v : Value} (M : Mem wb O L Φ w) (hx : Ext w w') (hk : (match CameI w.heap.size [] val outs p with | .rel q => q w' v | .exact _ => False)) : ∃ x, v = val x ∧ p x ∧ Mem wb O (outs x ++ L) Φ w' := by
  obtain ⟨x, h1, h2, h3, h4⟩ := hk
  exact ⟨x, h1, h4, M.adopts hx h2 fun g hg => (h3 g hg).elim (fun h => (feet_nil h).elim) id⟩
end
end Go.Rill
end
section
namespace Go.Rill
set_option linter.unusedVariables false
set_option linter.unusedSimpArgs false
open Go.RowKit
section
variable {P : Program} {ρ : Operand → Value} {o : Oper} {w : World} {X : Operand} {t s e : TypeId}
theorem run_capNil {ts : List TypeId} {args : List Operand} (ho : o.op = .call { callee := .builtin .cap, args := args.toArray, argTypes := ts.toArray }) (ha : args = [X]) (hts : ts = [t]) (hX : ρ X = .slice none 0 0) (ht : tySlice P t e = true) : (execOp ρ o).run P w = .ok (.value (.int .i64 0)) w := by
  subst ha hts
  simp [execOp, ho, resolve, invoke, builtin, Builtin.cap_, hX, run_underlying (slice_und ht), goInt]
theorem push_foldB (l : List UInt8) : ∀ (s : ByteArray), (l.map fun b => (b.toNat : Int)).foldl (fun r n => r.push (UInt8.ofNat n.toNat)) s = ⟨s.data ++ l.toArray⟩ := by
  induction l with
  | nil => intro s; simp
  | cons b l ih => intro s; rw [List.map_cons, List.foldl_cons, ih]; simp [ByteArray.push]
theorem run_makeMap (ho : o.op = .makeMap t none) : (execOp ρ o).run P w = .ok (.value (.map (some w.heap.size))) (w.alloc (.map #[] 0)) := by
  simp [execOp, ho, Instr.makeMap]
/-- A struct out of any of its fields. -/
theorem run_buildQ {ps : List (Nat × Operand)} {qs : List (Nat × Value)} {szs : List Nat} {z : List Value} {us : Array Value} (ho : o.op = .build t ps.toArray) (hq : ps.map (fun p => (p.1, ρ p.2)) = qs) (ht : tyStruct P t szs z = true) (hz : zeroOf P t = some (.agg z.toArray))
    (hf : Instr.fill (fun i => (pieces 0 szs 0)[i]?) z.toArray qs = some us) : (execOp ρ o).run P w = .ok (.value (.agg us)) w := by
  subst hq
  unfold tyStruct at ht
  cases hun : P.underlying t with
  | none => rw [hun] at ht; cases ht
  | some d =>
    rw [hun] at ht
    cases d with
    | struct fs =>
      simp only [Bool.and_eq_true, beq_iff_eq, List.all_eq_true] at ht
      obtain ⟨⟨h1, h2⟩, _⟩ := ht
      have hzv : (zeroValue t).run P w = .ok (.agg z.toArray) w := by
        unfold zeroOf at hz
        cases hi : P.info? t with
        | none => rw [hi] at hz; cases hz
        | some i => rw [hi] at hz; simp only [Option.bind_some] at hz; simp [zeroValue, typeInfo, hi, hz]
      have hplaces : (fs.mapM (m := Sem) fun f => do pure (f.offset, ← sizeOf f.type)).run P w = .ok (pieces 0 szs 0).toArray w := by
        have key := run_mapM (P := P) (w := w) (fun f : Field => (do pure (f.offset, ← sizeOf f.type) : Sem (Nat × Nat))) (fun f => (f.offset, (match P.info? f.type with | some i => i.size | none => 0))) fs.toList (fun f hf => by
          obtain ⟨i, hi⟩ := Option.isSome_iff_exists.1 (h2 f hf)
          simp [sizeOf, typeInfo, hi])
        have key := key.trans (congrArg (fun l => Result.ok l w) h1)
        rw [Array.mapM_eq_mapM_toList, map_eq_pure_bind, Sem.run_bind, key, Result.andThen_ok, Sem.run_pure]
      have hps : (ps.toArray.map fun x => (x.1, ρ x.2)).toList = ps.map fun x => (x.1, ρ x.2) := by simp
      have hf' : Instr.fill (fun i => (pieces 0 szs 0).toArray[i]?) z.toArray (ps.map fun p => (p.1, ρ p.2)) = some us := by
        rw [← hf]; congr 1; funext i; simp
      simp only [execOp, ho, Instr.build, Sem.run_bind, hzv, Result.andThen_ok, run_underlying hun, hplaces, hps, Value.cells]
      simp only [hf']
      rfl
    | _ => cases ht
/-- Bytes as a string. -/
theorem run_b2s {v : Value} {l : List UInt8} (ho : o.op = .convert s t X) (hX : ρ X = v) (h : Bytes w v l) (hs : tySlice P s e = true) (he : P.underlying e = some (.int .u8)) (ht : P.underlying t = some .string) : (execOp ρ o).run P w = .ok (.value (.string ⟨l.toArray⟩)) w := by
  have conv : ∀ (b : Option Addr) (n c : Nat) (u : Value), ρ X = .slice b n c → (Conv.bytesToString (.slice b n c)).run P w = .ok u w → (execOp ρ o).run P w = .ok (.value u) w := fun b n c u h1 h2 => by
    simp [execOp, ho, h1, convert, run_underlying (slice_und hs), run_underlying ht, run_underlying he, h2]
  rcases h.2 with ⟨rfl, h0⟩ | ⟨g, off, cap, rfl, _, _, _, hc⟩
  · have : l = [] := List.eq_nil_of_length_eq_zero h0
    subst this
    exact conv _ _ _ _ hX rfl
  · refine conv _ _ _ _ hX ?_
    have e1 : bc l = (l.map fun b => (b.toNat : Int)).map (Value.int .u8) := by simp [bc]
    have hl := run_loadCells_list (P := P) (w := w) ⟨g, off, none⟩ (bc l) fun j u hj => by rw [add_plain]; exact hc j u hj
    rw [e1] at hl
    simp only [List.length_map] at hl
    rw [run_bytesToString (P := P) w ⟨g, off, none⟩ l.length cap _ hl, push_foldB]
    simp
end
section
variable {P : Program} {ops : Array Oper} {Q : Exit → Act → World → Prop} {l : List (Nat × Value)} {n : Nat} {a : Act} {w w' w0 : World} {rest : List Oper} {o : Oper} {O : Nat → Prop} {L R : List Ent} {Φ : World → Prop}
/-- The begin of a slice of the call's own, as one of its own. -/
theorem Mem.cutRow {e : TypeId} {sz m : Nat} {v : Value} {xs : List Value} (M : Mem w0 O L Φ w) (i k : Nat) (h : L[i]? = some (.row e sz v m xs)) (hk : k ≤ m) : Mem w0 O (L.set i (.row e sz (cutV sz v 0 k) k (xs.take (k * sz)))) Φ w := by
  refine M.view h _ (fun hr => ?_) fun g hg => ?_
  · obtain ⟨h1, h2⟩ := hr
    have hks : k * sz ≤ m * sz := Nat.mul_le_mul_right _ hk
    refine ⟨by rw [List.length_take, h1]; omega, ?_⟩
    rcases h2 with ⟨rfl, rfl⟩ | ⟨g, cap, cur, rfl, h3, h4, h5, h6, h7, h8⟩
    · obtain rfl : k = 0 := by omega
      exact .inl ⟨rfl, rfl⟩
    · refine .inr ⟨g, cap, cur, ?_, h3, h4, by omega, h6, h7, by rw [← h8, List.take_take, Nat.min_eq_left hks]⟩
      show Value.slice (if cap = 0 then _ else _) _ _ = _
      simp [add_plain]
  · obtain ⟨b, c, hv⟩ := Reads.slice (M.reads i h)
    simp only [Ent.row] at hg ⊢
    rwa [cutV_block _ _ _ _ ⟨b, _, c, hv⟩] at hg
/-- Zeros behind nothing. -/
theorem sappzB {d : Tmp} {t tn e : TypeId} {X Y : Operand} {k kn : IntKind} {x : Int} {m : Nat} {args : List Operand} {ts : List TypeId} (E : Env l n a) (M : Mem w0 O L Φ w) (hd : o.dst = some d) (hn : Nat.blt d n = true) (hc : covers l o = true) (hg : guardIn ops l o = true) (hw : wantedL ops l o = true)
    (ho : o.op = .call { callee := .builtin .append, args := args.toArray, argTypes := ts.toArray }) (ha : args = [X, Y]) (hts : ts = [t, tn]) (hX : evL l X = .slice none 0 0) (hY : evL l Y = .int k x) (hx : x = m) (ht : tySlice P t e = true) (htn : P.underlying tn = some (.int kn)) (hz : tyZero P e 1 = true) (hzz : (zeroOf P e).map (·.cells) = some #[.int .u8 0]) (hb : tyBytes' P e 1 = true) (h0 : 0 < m) (hmax : m ≤ 70368744177664)
    (kk : ∀ v a' w', Mem w0 O (.bytes e v (List.replicate m 0) :: L) Φ w' → Env ((d, v) :: l) n a' → wpList P ops Q rest a' w') : wpList P ops Q (o :: rest) a w := by
  subst ha hts hx
  unfold tyZero at hz
  unfold tyBytes' at hb
  cases hi : P.info? e with
  | none => rw [hi] at hz; cases hz
  | some i =>
    rw [hi] at hz hb
    simp only [Bool.and_eq_true, beq_iff_eq] at hz hb
    cases hz2 : i.zero with
    | none => rw [hz2] at hz; cases hz.2
    | some zz =>
      have hzv : zz.cells = #[.int .u8 0] := by
        unfold zeroOf at hzz
        rw [hi] at hzz
        simpa [hz2] using hzz
      have hr := Lib.run_append_nil_zeros (P := P) w t tn o.type e i zz k kn (slice_und ht) htn hi hz2 m h0 (by omega) (by omega) (by rw [hb]; omega)
      have hge := grownCap_ge w m 0 e
      have hcm : grownCap w m 0 e ≤ maxLen := grownCap_le_maxLen w m 0 e (by simp only [maxLen]; omega)
      generalize grownCap w m 0 e = cap at *
      generalize hcs : Builtin.zeroCells zz.cells m ++ Builtin.zeroCells zz.cells (cap - m) = cs at *
      have hsz : ∀ q, (Builtin.zeroCells zz.cells q).toList = List.replicate q (.int .u8 0) := fun q => by
        rw [hzv]
        apply List.ext_getElem
        · simp [Builtin.zeroCells]
        · intro j h1 h2
          simp [Builtin.zeroCells, Nat.mod_one]
      have hct : cs.toList = List.replicate cap (.int .u8 0) := by
        rw [← hcs, Array.toList_append, hsz, hsz, List.replicate_append_replicate]
        congr 1
        omega
      have hrun : (execOp (evL l) o).run P w = .ok (.value (.slice (some ⟨w.heap.size, 0, none⟩) m cap)) (w.drew.alloc (.cells cs e)) := by
        simp only [execOp, ho, resolve, Sem.run_bind, Sem.run_pure, Result.andThen_ok, invoke, builtin, List.map_toArray, List.map_cons, List.map_nil, hX, hY, hr]
      refine sv E hd hn hc hg hw hrun fun a' E' => kk _ a' _ ?_ E'
      have hx' : Ext w (w.drew.alloc (.cells cs e)) := (Ext.drew w).trans (Ext.alloc _ _)
      have hcz : cs.size = cap * 1 := by
        have := congrArg List.length hct
        simpa using this
      have hrow := row_of (e := e) (k := m) (sz := 1) (w := w.drew.alloc (.cells cs e)) (g := w.heap.size) (by show (w.heap.push _)[w.heap.size]? = _; simp) hcz hge hcm
      have e1 : cs.toList.take (m * 1) = bc (List.replicate m 0) := by rw [hct, List.take_replicate, Nat.mul_one, Nat.min_eq_left hge]; simp [bc]
      rw [e1] at hrow
      refine M.adopt hx' (.bytes e _ (List.replicate m 0)) (by unfold Ent.bytes; rw [List.length_replicate]; exact hrow) fun g hg => by
        have : g = w.heap.size := by simpa [Ent.row, Value.ownBlock] using hg
        subst this
        exact ⟨Nat.le_refl _, by simp [World.alloc]⟩
end
end Go.Rill
end
section
namespace Go.Rill
set_option linter.unusedVariables false
set_option linter.unusedSimpArgs false
open Go.RowKit
section
variable {P : Program} {ρ : Operand → Value} {o : Oper} {w : World} {t e : TypeId} {B0 : Nat}
/-- A slice of so many noughts, alone in its block. -/
def NewS (B0 e k : Nat) (z : Value) (w : World) (v : Value) : Prop := ∃ g, v = .slice (some ⟨g, 0, none⟩) k k ∧ w.heap[g]? = some (.cells (List.replicate k z).toArray e) ∧ B0 ≤ g
def NewM (B0 : Nat) (w : World) (v : Value) : Prop := ∃ g, v = .map (some g) ∧ w.heap[g]? = some (.map #[] 0) ∧ B0 ≤ g
theorem NewS.ext {k : Nat} {z v : Value} {w w' : World} (h : NewS B0 e k z w v) (hx : Ext w w') : NewS B0 e k z w' v := by
  obtain ⟨g, h1, h2, h3⟩ := h
  exact ⟨g, h1, (hx.block g (Array.getElem?_eq_some_iff.1 h2).1).trans h2, h3⟩
theorem NewM.ext {v : Value} {w w' : World} (h : NewM B0 w v) (hx : Ext w w') : NewM B0 w' v := by
  obtain ⟨g, h1, h2, h3⟩ := h
  exact ⟨g, h1, (hx.block g (Array.getElem?_eq_some_iff.1 h2).1).trans h2, h3⟩
theorem new_blk (w : World) (ob : Obj) : (w.alloc ob).heap[w.heap.size]? = some ob := by
  show (w.heap.push ob)[w.heap.size]? = some ob
  simp
theorem made_new {X Y : Operand} {kl kc : IntKind} {k bytes : Nat} {x y : Int} {z : Value} (hB : B0 ≤ w.heap.size) (ho : o.op = .makeSlice t X Y) (hX : ρ X = .int kl x) (hY : ρ Y = .int kc y) (hx : x = k) (hy : y = k) (ht : tySlice P t e = true) (hz : tyZero P e 1 = true) (hz1 : (zeroOf P e).map (·.cells) = some #[z]) (hb : tyBytes' P e bytes = true) (hmax : k * (bytes + 1) ≤ 140737488355328) :
    ∃ v w', (execOp ρ o).run P w = .ok (.value v) w' ∧ Ext w w' ∧ NewS B0 e k z w' v := by
  obtain ⟨cs, hcs, hr, i, u, hi, hu, rfl⟩ := run_makeR (P := P) (w := w) ho hX hY hx hy ht hz hb (Nat.le_refl k) hmax
  have hu1 : u.cells = #[z] := by simpa [zeroOf, hi, hu] using hz1
  refine ⟨_, _, hr, Ext.alloc _ _, w.heap.size, rfl, ?_, hB⟩
  rw [new_blk, hu1]
  have := made_one z k
  congr 2
  exact Array.toList_inj.1 (by rw [Nat.mul_one, this])
theorem map_new (hB : B0 ≤ w.heap.size) (ho : o.op = .makeMap t none) : ∃ v w', (execOp ρ o).run P w = .ok (.value v) w' ∧ Ext w w' ∧ NewM B0 w' v :=
  ⟨_, _, run_makeMap ho, Ext.alloc _ _, w.heap.size, rfl, new_blk _ _, hB⟩
end
end Go.Rill
end
section
namespace Go.Rill
set_option linter.unusedVariables false
set_option linter.unusedSimpArgs false
open Go.RowKit
def rcs (l : List Rec) : List Value := (l.map Rec.cells).flatten
def Oks (l : List Rec) : Prop := ∀ r ∈ l, r.Ok
@[simp] theorem rcs_nil : rcs [] = [] := rfl
theorem rcs_cons (r : Rec) (l : List Rec) : rcs (r :: l) = r.cells ++ rcs l := by simp [rcs]
theorem rcs_append (a b : List Rec) : rcs (a ++ b) = rcs a ++ rcs b := by simp [rcs]
theorem Oks.sub {a b : List Rec} (h : Oks b) (s : ∀ r ∈ a, r ∈ b) : Oks a := fun r hr => h r (s r hr)
theorem Oks.take {l : List Rec} (h : Oks l) (k : Nat) : Oks (l.take k) := fun r hr => h r (List.mem_of_mem_take hr)
theorem Oks.drop {l : List Rec} (h : Oks l) (k : Nat) : Oks (l.drop k) := fun r hr => h r (List.mem_of_mem_drop hr)
theorem Oks.set {l : List Rec} (h : Oks l) {k : Nat} {r : Rec} (hr : r.Ok) : Oks (l.set k r) := fun x hx => by
  rcases List.mem_or_eq_of_mem_set hx with h1 | rfl
  · exact h x h1
  · exact hr
theorem Oks.get {l : List Rec} (h : Oks l) {k : Nat} (hk : k < l.length) : (l[k]).Ok := h _ (List.getElem_mem hk)
theorem rcs_len {l : List Rec} (h : Oks l) : (rcs l).length = l.length * 136 := by
  induction l with
  | nil => rfl
  | cons r l ih => rw [rcs_cons, List.length_append, Rec.len (h r (List.mem_cons_self ..)), ih fun x hx => h x (List.mem_cons_of_mem _ hx), List.length_cons]; omega
theorem rcs_take {l : List Rec} (h : Oks l) {k : Nat} (hk : k ≤ l.length) : (rcs l).take (k * 136) = rcs (l.take k) := by
  have e : rcs l = rcs (l.take k) ++ rcs (l.drop k) := by rw [← rcs_append, List.take_append_drop]
  rw [e]
  exact List.take_left' (by rw [rcs_len (h.take k), List.length_take, Nat.min_eq_left hk])
/-- What a slice of records reads as. -/
abbrev Recs (w : World) (v : Value) (l : List Rec) : Prop := Reads 136 w v l.length (rcs l)
theorem Recs.held0 {w w' : World} {v : Value} {l : List Rec} (h : Recs w v l) (H : Held (feet []) w w') : Recs w' v l := Reads.held0 h H
theorem Recs.nil (w : World) : Recs w (.slice none 0 0) [] := Reads.nil 136 w
theorem Recs.pre {w : World} {v : Value} {l : List Rec} {k : Nat} (h : Recs w v l) (ho : Oks l) (hk : k ≤ l.length) : Recs w (cutV 136 v 0 k) (l.take k) := by
  have := Reads.cut h (Nat.zero_le k) hk
  simp only [Nat.zero_mul, List.drop_zero, Nat.sub_zero] at this
  rw [rcs_take ho hk] at this
  unfold Recs
  rwa [List.length_take, Nat.min_eq_left hk]
theorem Recs.as {w : World} {v : Value} {l k : List Rec} (h : Recs w v l) (e : l = k) : Recs w v k := e ▸ h
/-- A part of a block, of the call's own, that reads as cells. -/
def Ent.part (sz : Nat) (v : Value) (n : Nat) (xs : List Value) : Ent := ⟨v.ownBlock.toList, fun w => Reads sz w v n xs, fun w w' h k => by
  refine ⟨k.1, ?_⟩
  rcases k.2 with h2 | ⟨g, off, cap, rfl, h3, h4, h5, h6⟩
  · exact .inl h2
  · have hb := h g (by simp [Value.ownBlock])
    refine .inr ⟨g, off, cap, rfl, h3, h4, ?_, fun j u hu => (World.cell?_of_block (w := w) hb).trans (h6 j u hu)⟩
    have h7 : (w.heap[g]?).isSome = true := by simp [h5]
    rw [← hb] at h7
    simpa using h7⟩
/-- .. not held against another. -/
theorem run_neF {P : Program} {ρ : Operand → Value} {o : Oper} {w : World} {t t' : TypeId} {X Y : Operand} {xs ys : List Value} {ks : List IntKind} {b : Bool} (ho : o.op = .binOp .neq t X Y t') (hX : ρ X = .agg xs.toArray) (hY : ρ Y = .agg ys.toArray) (ht : tyFlat P t ks = true) (hx : Fit ks xs) (hy : Fit ks ys) (hb : b = true ↔ xs = ys) :
    (execOp ρ o).run P w = .ok (.value (.bool !b)) w := by
  simp only [tyFlat, Bool.and_eq_true, Bool.not_eq_true', beq_iff_eq] at ht
  obtain ⟨⟨h1, h2⟩, h3⟩ := ht
  obtain ⟨r, hr, hrb⟩ := flat_eq 10000 t ks h1 w xs ys hx hy
  simp only [mkv, h2, Bool.false_eq_true, if_false] at hr
  have e : r = b := by rw [Bool.eq_iff_iff, hrb, hb]
  subst e
  have hg := run_eqGuard_agg (P := P) w .neq t X Y xs.toArray ys.toArray h3
  have he := run_neq_struct (P := P) w t xs.toArray ys.toArray
  rw [hr, Result.andThen_ok] at he
  simp only [execOp, ho, hX, hY, Sem.run_bind, hg, Result.andThen_ok, he]
  rfl
section
variable {P : Program} {ops : Array Oper} {Q : Exit → Act → World → Prop} {l : List (Nat × Value)} {n : Nat} {a : Act} {w w' w0 : World} {rest : List Oper} {o : Oper} {O : Nat → Prop} {L R : List Ent} {Φ : World → Prop}
theorem Mem.parts {sz m : Nat} {v : Value} {xs : List Value} (M : Mem w0 O L Φ w) (i : Nat) (h : L[i]? = some (.part sz v m xs)) : Reads sz w v m xs := M.ent i h
/-- A field of an item of a slice. -/
theorem run_fieldAddrR {ρ : Operand → Value} {A : Operand} {s : TypeId} {f k q m sz : Nat} {v : Value} {xs : List Value} (ho : o.op = .fieldAddr s A f) (h : Reads sz w v m xs) (hA : ρ A = cellAt v q) (hf : tyFld P s f k = true) (hq : q < m * sz) : (execOp ρ o).run P w = .ok (.value (cellAt v (q + k))) w := by
  rcases h.2 with ⟨rfl, rfl⟩ | ⟨g, off, cap, rfl, _⟩
  · simp at hq
  · have hA' : ρ A = .pointer (some ⟨g, off + q, none⟩) := by rw [hA, cellAt, add_plain]
    rw [run_fieldAddr ho hA' hf, cellAt, add_plain, Nat.add_assoc]
theorem zero_run {P : Program} {w : World} {e : TypeId} {z : Value} (h : zeroOf P e = some z) : (zeroValue e).run P w = .ok z w := by
  unfold zeroOf at h
  cases hi : P.info? e with
  | none => rw [hi] at h; cases h
  | some i =>
    rw [hi] at h
    have h : i.zero = some z := h
    simp [zeroValue, typeInfo, hi, h]
end
end Go.Rill
end
section
namespace Go.Rill
set_option linter.unusedVariables false
set_option linter.unusedSimpArgs false
open Go.RowKit Go.ChangeShapes Go.WideShapes
section
variable {H : Type} {enc : TypeId × Value → H} {P : Program} {W : World} {base b0 : Nat} {spare : Nat → Bool} {held : Bool} {r : Reach} {t e : TypeId} {v : Value}
theorem u8_wf {n : Int} (h : (Lit.int .u8 n).wf = true) : 0 ≤ n ∧ n < 256 := by
  have h : (decide (IntKind.u8.min ≤ n) && decide (n ≤ IntKind.u8.max)) = true := h
  have a : IntKind.min .u8 = 0 := rfl
  have b : IntKind.max .u8 = 255 := rfl
  rw [a, b, Bool.and_eq_true, decide_eq_true_eq, decide_eq_true_eq] at h
  omega
theorem u8_back {n : Int} (h : (Lit.int .u8 n).wf = true) : ((UInt8.ofNat n.toNat).toNat : Int) = n := by
  have := u8_wf h
  simp only [UInt8.toNat_ofNat']
  omega
end
end Go.Rill
end
section
namespace Go.Rill
set_option linter.unusedVariables false
set_option linter.unusedSimpArgs false
open Go.RowKit Go.ChangeShapes Go.WideShapes
section
variable {H : Type} {enc : TypeId × Value → H} {P : Program} {W : World} {base b0 : Nat} {spare : Nat → Bool} {held : Bool} {r : Reach} {t e : TypeId} {v : Value}
theorem choose_list {α : Type} {p : Nat → α → Prop} : ∀ (n : Nat), (∀ i, i < n → ∃ x, p i x) → ∃ l : List α, l.length = n ∧ ∀ i (h : i < l.length), p i l[i]
  | 0, _ => ⟨[], rfl, fun i h => absurd h (Nat.not_lt_zero _)⟩
  | n + 1, h => by
    obtain ⟨l, e, hl⟩ := choose_list (p := p) n fun i hi => h i (by omega)
    obtain ⟨x, hx⟩ := h n (by omega)
    refine ⟨l ++ [x], by simp [e], fun i hi => ?_⟩
    by_cases hn : i < l.length
    · rw [List.getElem_append_left hn]; exact hl i hn
    · have : i = n := by simp at hi; omega
      subst this
      rw [List.getElem_append_right (by omega)]
      simpa using hx
end
end Go.Rill
end
section
namespace Go.Rill
set_option linter.unusedVariables false
set_option linter.unusedSimpArgs false
open Go.RowKit
open Go.ChangeMaps (setBlock)
section
variable {P : Program} {ρ : Operand → Value} {o : Oper} {w : World} {t k e : TypeId} {g gi clock : Nat} {es : List IE} {seen : Array Nat} {X : Operand}
theorem run_min2 {A B : Operand} {q : IntKind} {x y : Int} {args : List Operand} {ts : Array TypeId} (ho : o.op = .call { callee := .builtin .min, args := args.toArray, argTypes := ts }) (ha : args = [A, B]) (hA : ρ A = .int q x) (hB : ρ B = .int q y) :
    (execOp ρ o).run P w = .ok (.value (.int q (if y < x then y else x))) w := by
  subst ha
  have := run_min_int2 (P := P) (w := w) ts o.type q q x y
  simp [execOp, ho, resolve, invoke, builtin, hA, hB, this]
end
section
variable {P : Program} {ops : Array Oper} {Q : Exit → Act → World → Prop} {l : List (Nat × Value)} {n : Nat} {a : Act} {w w' w0 : World} {rest : List Oper} {o : Oper} {O : Nat → Prop} {L R : List Ent} {Φ : World → Prop}
end
end Go.Rill
end
