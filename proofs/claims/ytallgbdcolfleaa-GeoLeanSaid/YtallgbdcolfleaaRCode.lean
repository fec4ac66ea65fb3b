/- A function's begin and end, its branches and loops. Of whatever program. -/
import Derived.Test.YtallgbdcolfleaaRMem
namespace Go.Rill
set_option linter.unusedVariables false
set_option linter.unusedSimpArgs false
open Go.RowKit

def argL : List Value → Nat → List (Nat × Value)
  | [], _ => []
  | v :: r, i => (i, v) :: argL r (i + 1)
theorem argL_lookup {as : List Value} {i t : Nat} {v : Value} (h : (argL as i).lookup t = some v) : i ≤ t ∧ as[t - i]? = some v := by
  induction as generalizing i with
  | nil => simp [argL] at h
  | cons u r ih =>
    simp only [argL, List.lookup_cons] at h
    by_cases e : t = i
    · subst e; simp at h; subst h; simp
    · have hb : (t == i) = false := by simpa using e
      rw [hb] at h
      obtain ⟨h1, h2⟩ := ih h
      refine ⟨by omega, ?_⟩
      have : t - i = (t - (i + 1)) + 1 := by omega
      rw [this]; simpa using h2

section
variable {P : Program} {Q : Exit → Act → World → Prop} {l : List (Nat × Value)} {n : Nat} {a : Act} {w w0 : World} {k : Nat} {L : List (Nat × Obj)} {Φ : World → Prop}
theorem enter {f : FuncId} {fn : Func} {c : Code} {as : List Value} {R : Ending → World → Prop} (hf : P.funcs[f]? = some fn) (hb : fn.body = some c) (hn : fn.ntmps = n) (ha : Nat.ble as.length n = true)
    (h : ∀ a, Env (argL as 0) n a → c.wp P (bodyPost P fn R) a w) : Calls P f as.toArray w R := by
  have ha' : as.length ≤ n := by simpa using ha
  refine calls_of_wp hf hb (h _ ⟨fun t v ht => ?_, by simp [hn]; omega, rfl⟩)
  obtain ⟨_, h2⟩ := argL_lookup ht
  have hlt : t < as.length := by simpa using (List.getElem?_eq_some_iff.1 h2).1
  simp only [Array.getD_eq_getD_getElem?]
  rw [Array.getElem?_append_left (by simpa using hlt)]
  simp at h2
  simp [h2]
theorem code_region {id : Nat} {os : List Oper} {y : Code} (h : wpList P os.toArray (Exit.then (y.wp P Q) Q) os a w) : (Code.seq (.region id os.toArray false) y).wp P Q a w :=
  wp_seq (wp_region_lit h)
theorem code_last {id : Nat} {os : List Oper} (h : wpList P os.toArray Q os a w) : (Code.region id os.toArray false).wp P Q a w := wp_region_lit h
theorem seq_nil' {ops : Array Oper} {y : Code} (h : y.wp P Q a w) : wpList P ops (Exit.then (y.wp P Q) Q) [] a w := h
theorem skip' {y : Code} (h : y.wp P Q a w) : Code.skip.wp P (Exit.then (y.wp P Q) Q) a w := wp_skip h
theorem then_ret {K : Act → World → Prop} (h : Q .ret a w) : Exit.then K Q .ret a w := h
theorem block_ret {id : Nat} (h : Q .ret a w) : Exit.inBlock id Q .ret a w := h
theorem then_exit {K : Act → World → Prop} {id : Nat} (h : Q (.exit id) a w) : Exit.then K Q (.exit id) a w := h
theorem block_exit {id : Nat} (h : Q .normal a w) : Exit.inBlock id Q (.exit id) a w := by simpa [Exit.inBlock] using h
theorem block_other {id id' : Nat} (hne : (id' == id) = false) (h : Q (.exit id') a w) : Exit.inBlock id Q (.exit id') a w := by
  have : ¬ id' = id := by simpa using hne
  simpa [Exit.inBlock, this] using h
theorem block_normal {id : Nat} (h : Q .normal a w) : Exit.inBlock id Q .normal a w := h
theorem then_normal {y : Code} (h : y.wp P Q a w) : Exit.then (y.wp P Q) Q .normal a w := h
theorem code_true {c : Operand} {x y : Code} {t : Bool} (E : Env l n a) (hs : (∀ s, c = .tmp s → slotIn l s = true)) (hc : evL l c = .bool t) (ht : t = true) (h : x.wp P Q a w) : (Code.cond c x y).wp P Q a w :=
  wp_cond_true (by rw [E.eval hs, hc, ht]) h
theorem code_false {c : Operand} {x y : Code} {t : Bool} (E : Env l n a) (hs : (∀ s, c = .tmp s → slotIn l s = true)) (hc : evL l c = .bool t) (ht : t = false) (h : y.wp P Q a w) : (Code.cond c x y).wp P Q a w :=
  wp_cond_false (by rw [E.eval hs, hc, ht]) h
theorem cond_true {s : Tmp} {x y : Code} {t : Bool} (E : Env l n a) (hc : l.lookup s = some (.bool t)) (ht : t = true) (h : x.wp P Q a w) : (Code.cond (.tmp s) x y).wp P Q a w :=
  wp_cond_true (by show a.tmps.getD s undef = _; rw [E.get _ _ hc, ht]) h
theorem cond_false {s : Tmp} {x y : Code} {t : Bool} (E : Env l n a) (hc : l.lookup s = some (.bool t)) (ht : t = false) (h : y.wp P Q a w) : (Code.cond (.tmp s) x y).wp P Q a w :=
  wp_cond_false (by show a.tmps.getD s undef = _; rw [E.get _ _ hc, ht]) h
theorem cond_split {s : Tmp} {x y : Code} {t : Bool} (E : Env l n a) (hc : l.lookup s = some (.bool t)) (h1 : t = true → x.wp P Q a w) (h2 : t = false → y.wp P Q a w) : (Code.cond (.tmp s) x y).wp P Q a w := by
  cases t with
  | true => exact cond_true E hc rfl (h1 rfl)
  | false => exact cond_false E hc rfl (h2 rfl)
/-- The ways meet again. -/
theorem code_cut {x y : Code} (J : Act → World → Prop) (h : x.wp P (Exit.then J Q) a w) (hy : ∀ a w, J a w → y.wp P Q a w) : (Code.seq x y).wp P Q a w := by
  refine wp_seq (Code.wp_mono (fun e a w q => ?_) h)
  cases e with
  | normal => exact hy a w q
  | _ => exact q
/-- A loop, by a number that falls. -/
theorem loop_dec {c : Code} (I : Nat → Act → World → Prop) (d : Nat) (h0 : I d a w) (round : ∀ d a w, I d a w → c.wp P (Exit.then (fun a' w' => ∃ d', d' < d ∧ I d' a' w') Q) a w) : (Code.loop c).wp P Q a w := by
  intro b kk cs
  have key : ∀ d a w, I d a w → ∃ e a' w', Q e a' w' ∧ Arrives P (lone (b.at a (.code c :: .inLoop c :: kk)) cs w) b kk cs e a' w' := by
    intro d
    induction d using Nat.strongRecOn with
    | _ d ih =>
      intro a w hI
      obtain ⟨e, a₁, w₁, hq, harr⟩ := round d a w hI b (.inLoop c :: kk) cs
      cases e with
      | normal =>
        obtain ⟨d', hlt, hI'⟩ := hq
        obtain ⟨e₂, a₂, w₂, hq₂, harr₂⟩ := ih d' hlt a₁ w₁ hI'
        exact ⟨e₂, a₂, w₂, hq₂, .of_steps (Steps.trans harr (.one step_inLoop)) harr₂⟩
      | exit id => exact ⟨_, a₁, w₁, hq, .pass (x := .inLoop c) rfl (fun _ _ => .inl (by simp)) harr⟩
      | goto l => exact ⟨_, a₁, w₁, hq, .pass (x := .inLoop c) rfl (fun _ _ => .inl (by simp)) harr⟩
      | ret => exact ⟨_, a₁, w₁, hq, .pass (x := .inLoop c) rfl (fun _ _ => .inl (by simp)) harr⟩
      | panic ch => exact ⟨_, a₁, w₁, hq, .pass (x := .inLoop c) rfl (fun _ _ => .inl (by simp)) harr⟩
      | outgrown => exact ⟨_, a₁, w₁, hq, .pass (x := .inLoop c) rfl (fun _ _ => .inl (by simp)) harr⟩
  obtain ⟨e, a', w', hq, harr⟩ := key d a w h0
  exact ⟨e, a', w', hq, .of_steps (.one step_loop) harr⟩
theorem then_any {K : Act → World → Prop} (h : K a w) : Exit.then K Q .normal a w := h
theorem results1 {fn : Func} {t : Tmp} {v : Value} (E : Env l n a) (hr : fn.results = #[.tmp t]) (hv : l.lookup t = some v) : (results fn a.tmps).run P w = .ok v w := by
  rw [results_tmp hr, E.get t v hv]
theorem ret1 {fn : Func} {R : Ending → World → Prop} {t : Tmp} {v : Value} (E : Env l n a) (hr : fn.results = #[.tmp t]) (hv : l.lookup t = some v) (h : R (.returned v) w) : bodyPost P fn R .ret a w :=
  ⟨E.defers, v, results1 E hr hv, h⟩
theorem ret2 {fn : Func} {R : Ending → World → Prop} {t1 t2 : Tmp} {v1 v2 : Value} (E : Env l n a) (hr : fn.results = #[.tmp t1, .tmp t2]) (h1 : l.lookup t1 = some v1) (h2 : l.lookup t2 = some v2) (h : R (.returned (.tuple #[v1, v2])) w) : bodyPost P fn R .ret a w :=
  ⟨E.defers, _, by rw [results_tmp2 hr, E.get _ _ h1, E.get _ _ h2], h⟩
theorem ret0 {fn : Func} {R : Ending → World → Prop} (E : Env l n a) (hr : fn.results = #[]) (h : R (.returned (.tuple #[])) w) : bodyPost P fn R .normal a w :=
  ⟨E.defers, _, results_none hr _ _ _, h⟩
theorem ret0r {fn : Func} {R : Ending → World → Prop} (E : Env l n a) (hr : fn.results = #[]) (h : R (.returned (.tuple #[])) w) : bodyPost P fn R .ret a w :=
  ⟨E.defers, _, results_none hr _ _ _, h⟩
end
def isExact : Spec → Bool
  | .exact _ => true
  | .rel _ => false
theorem Lasts.of_exact {Vs : List Spec} (h : Vs.all isExact = true) : Lasts Vs := by
  intro j p hj
  have := List.all_eq_true.1 h _ (List.mem_of_getElem? hj)
  cases this
/-- A region's operations, by its number. -/
def regIn : Code → Nat → Option (Array Oper)
  | .region id ops _, n => if id = n then some ops else none
  | .seq a b, n => match regIn a n with | some o => some o | none => regIn b n
  | .cond _ a b, n => match regIn a n with | some o => some o | none => regIn b n
  | .rangeFunc _ _ a b, n => match regIn a n with | some o => some o | none => regIn b n
  | .block _ a, n | .loop a, n | .scope a, n => regIn a n
  | _, _ => none
def regOps (f : Func) (n : Nat) : Array Oper := ((f.body.bind fun c => regIn c n)).getD #[]
end Go.Rill
