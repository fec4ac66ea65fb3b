/- What is known of a frame's slots, as a list; one law an operation. Of whatever program. -/
import Derived.Below
import Derived.Deep.Draws
import Derived.Orders
import Derived.Tactics
import Derived.KernelRfl
namespace Go.Rill
set_option linter.unusedVariables false
set_option linter.unusedSimpArgs false

/-! ### Slots -/
structure Env (l : List (Nat × Value)) (n : Nat) (a : Act) : Prop where
  get : ∀ t v, l.lookup t = some v → a.tmps.getD t undef = v
  size : a.tmps.size = n
  defers : a.defers = []

def evL (l : List (Nat × Value)) : Operand → Value
  | .tmp t => (l.lookup t).getD undef
  | .const v => v
  | .global g => .pointer (some ⟨g, 0, none⟩)
  | .func f => .func (.func f) #[] #[]
def upd (l : List (Nat × Value)) (d : Option Tmp) (v : Value) : List (Nat × Value) :=
  match d with
  | some d => (d, v) :: l
  | none => l
def fits (n : Nat) (d : Option Tmp) : Bool :=
  match d with
  | some d => Nat.blt d n
  | none => true
def slotIn (l : List (Nat × Value)) (t : Nat) : Bool := (l.lookup t).isSome
def guardIn (ops : Array Oper) (l : List (Nat × Value)) (o : Oper) : Bool :=
  match o.guard with
  | none => true
  | some (j, _) => match (ops[j]?).bind (·.dst) with
    | some d => slotIn l d
    | none => true
/-- An operation's operands, as a list. -/
def opList : Op → List Operand
  | .alloc _ | .ready _ | .waits _ => []
  | .move x | .assign x | .box _ x | .load _ x | .nilCheck x | .unOp _ _ x | .convert _ _ x | .sliceToArrayPointer _ x | .makeInterface _ x
  | .makeChan _ x | .fieldAddr _ x _ | .field _ x _ | .range _ x | .next x _ | .entry x | .typeAssert x _ _ _ | .extract x _ | .panic x | .recv _ x _ => [x]
  | .pick c a b => [c, a, b]
  | .build _ ps | .buildSlice _ _ ps => ps.toList.map (·.2)
  | .store _ a v | .binOp _ _ a v _ | .makeSlice _ a v | .indexAddr _ a v | .index _ a v | .lookup _ a v _ | .mapEntry _ a v | .send a v => [a, v]
  | .makeFunc _ first captured => first.toList ++ captured.toList
  | .makeMap _ r => r.toList
  | .slice _ x l h m => x :: (l.toList ++ h.toList ++ m.toList)
  | .mapUpdate _ m k v | .entryStore _ m k v | .insert _ m k v => [m, k, v]
  | .call c | .go c | .defer c => (match c.callee with | .value f => [f] | .invoke r _ => [r] | .builtin _ => []) ++ c.args.toList
  | .select cs _ => []
theorem mem_opList {p : Op} (h : (match p with | .select .. => false | _ => true) = true) {x : Operand} (hx : x ∈ p.operands) : x ∈ opList p := by
  cases p with
  | select => cases h
  | call c => cases hc : c.callee <;> simp_all [Op.operands, Call.operands, opList]
  | go c => cases hc : c.callee <;> simp_all [Op.operands, Call.operands, opList]
  | defer c => cases hc : c.callee <;> simp_all [Op.operands, Call.operands, opList]
  | _ => simp_all [Op.operands, opList]
def tmpIn (l : List (Nat × Value)) : Operand → Bool
  | .tmp t => slotIn l t
  | _ => true
def noSel : Op → Bool
  | .select .. => false
  | _ => true
def covers (l : List (Nat × Value)) (o : Oper) : Bool := noSel o.op && (opList o.op).all (tmpIn l)
def yieldedL (ops : Array Oper) (l : List (Nat × Value)) (j : Nat) : Option Bool :=
  match ((ops[j]?).bind (·.dst)).bind (fun d => l.lookup d) with
  | some (.bool b) => some b
  | _ => none
def wantedL (ops : Array Oper) (l : List (Nat × Value)) (o : Oper) : Bool := Region.wanted o (yieldedL ops l)

theorem Env.put {l : List (Nat × Value)} {n : Nat} {a : Act} (E : Env l n a) {d : Option Tmp} (hd : fits n d = true) (v : Value) : Env (upd l d v) n (a.put d v) := by
  cases d with
  | none => exact E
  | some d =>
    have hd' : d < n := by simpa [fits] using hd
    refine ⟨fun t u h => ?_, by simp [Act.put, E.size], E.defers⟩
    simp only [upd, List.lookup_cons] at h
    by_cases ht : t = d
    · subst ht
      simp at h
      subst h
      simp [Act.put, Array.getD_eq_getD_getElem?, E.size, hd']
    · have hb : (t == d) = false := by simpa using ht
      rw [hb] at h
      have := E.get t u h
      simp only [Act.put, Array.getD_eq_getD_getElem?] at this ⊢
      rw [Array.getElem?_setIfInBounds_ne (fun e => ht e.symm)]
      exact this
theorem Env.eval {l : List (Nat × Value)} {n : Nat} {a : Act} (E : Env l n a) {x : Operand} (h : ∀ t, x = .tmp t → slotIn l t = true) : a.eval x = evL l x := by
  cases x with
  | tmp t =>
    have h1 := h t rfl
    simp only [slotIn, Option.isSome_iff_exists] at h1
    obtain ⟨v, hv⟩ := h1
    simp only [Act.eval, evL, hv, Option.getD_some]
    exact E.get t v hv
  | _ => rfl
theorem Env.exec {l : List (Nat × Value)} {n : Nat} {a : Act} (E : Env l n a) {o : Oper} (h : covers l o = true) : execOp a.eval o = execOp (evL l) o := by
  simp only [covers, Bool.and_eq_true] at h
  refine execOp_congr o (fun cs b e => by simp [e, noSel] at h) (fun x hx => E.eval fun t ht => ?_)
  have := List.all_eq_true.1 h.2 x (mem_opList (by cases hp : o.op <;> simp_all [noSel]) hx)
  subst ht
  exact this
theorem Env.yields {l : List (Nat × Value)} {n : Nat} {a : Act} (E : Env l n a) {ops : Array Oper} {j : Nat} (h : ∀ d, (ops[j]?).bind (·.dst) = some d → slotIn l d = true) : yielded ops a.tmps j = yieldedL ops l j := by
  unfold yielded yieldedL
  cases hd : (ops[j]?).bind (·.dst) with
  | none => rfl
  | some d =>
    have h1 := h d hd
    simp only [slotIn, Option.isSome_iff_exists] at h1
    obtain ⟨v, hv⟩ := h1
    have hg := E.get d v hv
    simp only [Option.bind_some, hv]
    rw [Array.getD_eq_getD_getElem?] at hg
    cases hx : a.tmps[d]? with
    | some u => rw [hx] at hg; simp at hg; subst hg; rfl
    | none => rw [hx] at hg; simp at hg; subst hg; rfl
theorem Env.wanted {l : List (Nat × Value)} {n : Nat} {a : Act} (E : Env l n a) {ops : Array Oper} {o : Oper} (h : guardIn ops l o = true) : Region.wanted o (yielded ops a.tmps) = wantedL ops l o := by
  unfold wantedL Region.wanted
  cases hg : o.guard with
  | none => rfl
  | some p =>
    obtain ⟨j, want⟩ := p
    simp only
    rw [E.yields (j := j) (fun d hd => by simpa [guardIn, hg, hd] using h)]

/-- A smaller list. -/
theorem Env.of {n : Nat} {a : Act} (hs : a.tmps.size = n) (hd : a.defers = []) : Env [] n a := ⟨fun t v h => by simp at h, hs, hd⟩
theorem Env.add {l l' : List (Nat × Value)} {n : Nat} {a : Act} (E' : Env l' n a) (E : Env l n a) {t : Nat} {v : Value} (h : l.lookup t = some v) : Env ((t, v) :: l') n a := by
  refine ⟨fun s u hu => ?_, E.size, E.defers⟩
  simp only [List.lookup_cons] at hu
  by_cases e : s = t
  · subst e; simp at hu; subst hu; exact E.get _ _ h
  · have hb : (s == t) = false := by simpa using e
    rw [hb] at hu; exact E'.get _ _ hu
theorem Env.nil {l : List (Nat × Value)} {n : Nat} {a : Act} (E : Env l n a) : Env [] n a := Env.of E.size E.defers

/-! ### A region in the order of the text -/
section
variable {P : Program} {ops : Array Oper} {Q : Exit → Act → World → Prop} {l : List (Nat × Value)} {n : Nat} {a : Act} {w w' : World} {rest : List Oper} {o : Oper} {v : Value}

/-- An operation that hands a value on. -/
theorem seq_val (E : Env l n a) (hc : covers l o = true) (hg : guardIn ops l o = true) (hw : wantedL ops l o = true) (hf : fits n o.dst = true)
    (h : (execOp (evL l) o).run P w = .ok (.value v) w') (k : ∀ a', Env (upd l o.dst v) n a' → wpList P ops Q rest a' w') : wpList P ops Q (o :: rest) a w := by
  unfold wpList
  rw [E.wanted hg, if_pos hw]
  refine .inl ?_
  unfold Oper.wp
  rw [E.exec hc, h]
  exact k _ (E.put hf v)
/-- .. into the slot d. -/
theorem sv {d : Tmp} (E : Env l n a) (hd : o.dst = some d) (hn : Nat.blt d n = true) (hc : covers l o = true) (hg : guardIn ops l o = true) (hw : wantedL ops l o = true)
    (h : (execOp (evL l) o).run P w = .ok (.value v) w') (k : ∀ a', Env ((d, v) :: l) n a' → wpList P ops Q rest a' w') : wpList P ops Q (o :: rest) a w :=
  seq_val E hc hg hw (by rw [hd]; exact hn) h (by rw [hd]; exact k)
theorem sno {d : Tmp} (E : Env l n a) (hd : o.dst = some d) (hn : Nat.blt d n = true) (hg : guardIn ops l o = true) (hw : wantedL ops l o = false)
    (k : ∀ a', Env ((d, undef) :: l) n a' → wpList P ops Q rest a' w) : wpList P ops Q (o :: rest) a w := by
  unfold wpList
  rw [E.wanted hg, if_neg (by simp [hw])]
  have := E.put (d := o.dst) (by rw [hd]; exact hn) undef
  rw [hd] at this
  rw [hd]
  exact k _ this
/-- An operation that hands nothing on (a store). -/
theorem seq_skip (E : Env l n a) (hc : covers l o = true) (hg : guardIn ops l o = true) (hw : wantedL ops l o = true) (hf : fits n o.dst = true)
    (h : (execOp (evL l) o).run P w = .ok .skip w') (k : ∀ a', Env (upd l o.dst undef) n a' → wpList P ops Q rest a' w') : wpList P ops Q (o :: rest) a w := by
  unfold wpList
  rw [E.wanted hg, if_pos hw]
  refine .inl ?_
  unfold Oper.wp
  rw [E.exec hc, h]
  exact k _ (E.put hf undef)
/-- An operation whose guard says no. -/
theorem seq_no (E : Env l n a) (hg : guardIn ops l o = true) (hw : wantedL ops l o = false) (hf : fits n o.dst = true)
    (k : ∀ a', Env (upd l o.dst undef) n a' → wpList P ops Q rest a' w) : wpList P ops Q (o :: rest) a w := by
  unfold wpList
  rw [E.wanted hg, if_neg (by simp [hw])]
  exact k _ (E.put hf undef)
/-- A call by its contract. -/
theorem seq_call {f : FuncId} {args : Array Value} {R : Value → World → Prop} (E : Env l n a) (hc : covers l o = true) (hg : guardIn ops l o = true) (hw : wantedL ops l o = true) (hf : fits n o.dst = true)
    (h : (execOp (evL l) o).run P w = .ok (.enter f args) w') (C : Calls P f args w' fun e w'' => ∃ v, e = .returned v ∧ R v w'')
    (k : ∀ a' v w'', R v w'' → Env (upd l o.dst v) n a' → wpList P ops Q rest a' w'') : wpList P ops Q (o :: rest) a w := by
  unfold wpList
  rw [E.wanted hg, if_pos hw]
  refine .inl ?_
  unfold Oper.wp
  rw [E.exec hc, h]
  rw [Oper.upon_enter]
  refine C.mono ?_
  rintro e w'' ⟨v, rfl, hr⟩
  exact k _ v w'' hr (E.put hf v)
theorem seq_nil (h : Q .normal a w) : wpList P ops Q [] a w := h
end

/-! ### Code -/
section
variable {P : Program} {Q : Exit → Act → World → Prop} {l : List (Nat × Value)} {n : Nat} {a : Act} {w : World}
end
end Go.Rill
