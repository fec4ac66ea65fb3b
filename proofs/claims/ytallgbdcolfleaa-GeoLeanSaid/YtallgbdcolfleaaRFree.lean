/- A region whose order is open, none of whose operations changes what was there: each operation is shown once, whatever came up before it. Of whatever program. -/
import Derived.Test.YtallgbdcolfleaaWInv
import Derived.Test.YtallgbdcolfleaaRStep
namespace Go.Rill
set_option linter.unusedVariables false
set_option linter.unusedSimpArgs false
open Go.Proofs.YtallgbdcolfleaaW.PrintLast Go.RowKit

/-- What was there is as it was: the world has grown, or orders were drawn. -/
def Ext (w w' : World) : Prop := Below w.heap.size w w'
theorem Ext.refl (w : World) : Ext w w := Below.refl _ _
theorem Ext.trans {a b c : World} (h : Ext a b) (k : Ext b c) : Ext a c := Below.trans h (k.mono h.size)
theorem Ext.drew (w : World) : Ext w w.drew := (Below.refl _ _).drew
theorem Ext.alloc (w : World) (o : Obj) : Ext w (w.alloc o) := (Below.refl _ _).alloc (Nat.le_refl _) o

/-- What an operation hands on: just this value; or one of which this is known. -/
inductive Spec where
  | exact (v : Value)
  | rel (p : World → Value → Prop)
def Spec.ok (s : Spec) (w : World) (v : Value) : Prop :=
  match s with
  | .exact u => v = u
  | .rel p => p w v
def valOf (Vs : List Spec) (x : Nat → Value) (j : Nat) : Value :=
  match Vs[j]? with
  | some (.exact v) => v
  | _ => x j
def knows (Vs : List Spec) (x : Nat → Value) (w : World) (j : Nat) : Prop :=
  match Vs[j]? with
  | some (.rel p) => p w (x j)
  | _ => True
def Lasts (Vs : List Spec) : Prop := ∀ (j : Nat) (p : World → Value → Prop), Vs[j]? = some (.rel p) → ∀ w w' v, Ext w w' → p w v → p w' v

def dstOf (ops : Array Oper) (i : Nat) : Option Nat := (ops[i]?).bind (·.dst)
def writes (ops : Array Oper) (t i : Nat) : Bool := dstOf ops i == some t
/-- The slots that an operation looks at. -/
def slotsOf (ops : Array Oper) (i : Nat) : List Nat :=
  match ops[i]? with
  | none => []
  | some o => ((opList o.op).filterMap fun | .tmp t => some t | _ => none) ++ (match o.guard with | some (g, _) => (dstOf ops g).toList | none => [])
def waits (B : List Nat) (i j : Nat) : Bool := (B.getD i 0).testBit j
/-- Which operation has last filled a slot that operation i looks at. -/
def srcOf (ops : Array Oper) (B : List Nat) (i t : Nat) : Option Nat := (List.range i).reverse.find? fun j => writes ops t j && waits B i j
def freeOk (ops : Array Oper) (B : List Nat) : Bool :=
  (List.range ops.size).all fun i =>
    ((slotsOf ops i).all fun t => match srcOf ops B i t with
      | some j => (List.range ops.size).all fun k => !writes ops t k || Nat.ble k j || Nat.beq k i || waits B k i
      | none => (List.range ops.size).all fun k => !writes ops t k || Nat.beq k i || waits B k i) &&
    (match dstOf ops i with
      | some t => (List.range ops.size).all fun k => !writes ops t k || Nat.ble k i || waits B k i
      | none => true)
def envOf (ops : Array Oper) (B : List Nat) (l : List (Nat × Value)) (Vs : List Spec) (x : Nat → Value) (i : Nat) : List (Nat × Value) :=
  (slotsOf ops i).filterMap fun t => match srcOf ops B i t with
    | some j => some (t, valOf Vs x j)
    | none => (l.lookup t).map fun v => (t, v)
def endEnv (ops : Array Oper) (l : List (Nat × Value)) (Vs : List Spec) (x : Nat → Value) : List (Nat × Value) :=
  ((List.range ops.size).reverse.filterMap fun i => (dstOf ops i).map fun t => (t, valOf Vs x i)) ++ l

/-- One operation, shown: from any world behind w0 in which what it waits for has come up. -/
def FStep (P : Program) (ops : Array Oper) (B : List Nat) (l : List (Nat × Value)) (n : Nat) (Vs : List Spec) (w0 : World) (Q : Exit → Act → World → Prop) (i : Nat) : Prop :=
  ∀ (x : Nat → Value) (a : Act) (w : World), Ext w0 w → (∀ j, waits B i j = true → knows Vs x w j) → Env (envOf ops B l Vs x i) n a →
    ∃ o s, ops[i]? = some o ∧ Vs[i]? = some s ∧ ∀ K : Act → World → Prop, (∀ v w', Ext w w' → s.ok w' v → K (a.put o.dst v) w') →
      if Region.wanted o (yielded ops a.tmps) = true then Oper.wp P o a w K Q else K (a.put o.dst undef) w

/-- The last operation listed that fills a slot. -/
def lastW (ops : Array Oper) (b : Nat → Bool) (t : Nat) : Option Nat := (List.range ops.size).reverse.find? fun j => writes ops t j && b j
theorem find_last {p : Nat → Bool} {n j : Nat} (hj : j < n) (hp : p j = true) (hm : ∀ k, k < n → p k = true → k ≤ j) : (List.range n).reverse.find? p = some j := by
  induction n with
  | zero => omega
  | succ n ih =>
    rw [List.range_succ, List.reverse_append]
    simp only [List.reverse_singleton, List.singleton_append, List.find?_cons]
    by_cases e : j = n
    · subst e; rw [hp]
    · have hn : p n = false := by
        cases h : p n with
        | false => rfl
        | true => have := hm n (by omega) h; omega
      rw [hn]
      exact ih (by omega) (fun k hk h => hm k (by omega) h)
theorem find_none {p : Nat → Bool} {n : Nat} (h : ∀ k, k < n → p k = false) : (List.range n).reverse.find? p = none := by
  rw [List.find?_eq_none]
  intro k hk
  simp at hk
  simp [h k hk]
theorem find_some {p : Nat → Bool} {n j : Nat} (h : (List.range n).reverse.find? p = some j) : j < n ∧ p j = true ∧ ∀ k, k < n → p k = true → k ≤ j := by
  induction n with
  | zero => simp at h
  | succ n ih =>
    rw [List.range_succ, List.reverse_append] at h
    simp only [List.reverse_singleton, List.singleton_append, List.find?_cons] at h
    cases hn : p n with
    | true => rw [hn] at h; simp at h; subst h; exact ⟨by omega, hn, fun k hk _ => by omega⟩
    | false =>
      rw [hn] at h
      obtain ⟨h1, h2, h3⟩ := ih h
      refine ⟨by omega, h2, fun k hk hp => ?_⟩
      by_cases e : k = n
      · subst e; rw [hn] at hp; cases hp
      · exact h3 k (by omega) hp

theorem srcOf_lt {ops : Array Oper} {B : List Nat} {i t j : Nat} (h : srcOf ops B i t = some j) : j < i ∧ writes ops t j = true ∧ waits B i j = true := by
  obtain ⟨h1, h2, _⟩ := find_some h
  simp only [Bool.and_eq_true] at h2
  exact ⟨h1, h2.1, h2.2⟩

section
variable {P : Program} {Q : Exit → Act → World → Prop} {l : List (Nat × Value)} {n : Nat} {a : Act} {w : World} {ops : Array Oper} {B : List Nat} {Vs : List Spec} {id : Nat}

/-- The relation over what is listed. -/
structure Inv (ops : Array Oper) (a0 : Act) (n : Nat) (Vs : List Spec) (w0 : World) (b : Nat → Bool) (a : Act) (w : World) : Prop where
  ext : Ext w0 w
  size : a.tmps.size = n
  defers : a.defers = []
  vals : ∃ x : Nat → Value, (∀ j, b j = true → knows Vs x w j) ∧ ∀ t, t < n → a.tmps.getD t undef = match lastW ops b t with
    | some j => valOf Vs x j
    | none => a0.tmps.getD t undef

theorem put_get {a : Act} {d : Option Tmp} {v : Value} {t : Nat} (ht : t < a.tmps.size) : (a.put d v).tmps.getD t undef = if d = some t then v else a.tmps.getD t undef := by
  cases d with
  | none => simp [Act.put]
  | some d =>
    by_cases e : d = t
    · subst e; simp [Act.put, ht]
    · simp [Act.put, e, Array.getD_eq_getD_getElem?, Array.getElem?_setIfInBounds_ne e]

theorem lookup_filterMap {f : Nat → Option Value} {L : List Nat} {t : Nat} {v : Value} (h : (L.filterMap fun s => (f s).map fun u => (s, u)).lookup t = some v) : f t = some v ∧ t ∈ L := by
  induction L with
  | nil => simp at h
  | cons s L ih =>
    simp only [List.filterMap_cons] at h
    cases hf : f s with
    | none => rw [hf] at h; simp at h; obtain ⟨h1, h2⟩ := ih h; exact ⟨h1, List.mem_cons_of_mem _ h2⟩
    | some u =>
      rw [hf] at h
      simp only [Option.map_some, List.lookup_cons] at h
      by_cases e : t = s
      · subst e; simp at h; subst h; exact ⟨hf, List.mem_cons_self⟩
      · have : (t == s) = false := by simpa using e
        rw [this] at h; obtain ⟨h1, h2⟩ := ih h; exact ⟨h1, List.mem_cons_of_mem _ h2⟩
theorem envOf_eq (x : Nat → Value) (i : Nat) : envOf ops B l Vs x i = (slotsOf ops i).filterMap fun t => ((match srcOf ops B i t with
    | some j => some (valOf Vs x j)
    | none => l.lookup t) : Option Value).map fun v => (t, v) := by
  unfold envOf
  congr 1
  funext t
  cases srcOf ops B i t <;> rfl

theorem free_region {a0 : Act} (T : Bool × List (List Nat × List Nat)) (B : List Nat) (Vs : List Spec) (E : Env l n a0) (hm : P.follows .mixedOrders = true) (hT : rtab .any ops = T) (hw : waitsOk T.2 B = true) (hk : baseOk T.2 (List.range ops.size) = true)
    (hf : freeOk ops B = true) (hd : ((List.range ops.size).all fun i => fits n (dstOf ops i)) = true) (hl : Lasts Vs)
    (hs : ∀ i ∈ List.range ops.size, FStep P ops B l n Vs w.drew Q i)
    (hend : ∀ (x : Nat → Value) (a : Act) (w' : World), Ext w w' → (∀ j, j < ops.size → knows Vs x w' j) → Env (endEnv ops l Vs x) n a → Q .normal a w') : (Code.region id ops true).wp P Q a0 w := by
  have hlen : T.2.length = ops.size := by subst hT; simp [rtab]
  refine wp_region_last (S := fun _ => True) (ds := []) hm ?_
  show wpAnyLast P .any ops Q (fun _ => True) [] ops.size (Array.replicate ops.size false) a0 w.drew
  have key : ∀ i, i < ops.size → (∀ t ∈ slotsOf ops i, match srcOf ops B i t with
      | some j => ∀ k, k < ops.size → writes ops t k = true → k ≤ j ∨ k = i ∨ waits B k i = true
      | none => ∀ k, k < ops.size → writes ops t k = true → k = i ∨ waits B k i = true) ∧ (∀ t, dstOf ops i = some t → ∀ k, k < ops.size → writes ops t k = true → k ≤ i ∨ waits B k i = true) := by
    intro i hi
    have h1 := List.all_eq_true.1 hf i (List.mem_range.2 hi)
    rw [Bool.and_eq_true] at h1
    refine ⟨fun t ht => ?_, fun t ht k hkn hwk => ?_⟩
    · have h2 := List.all_eq_true.1 h1.1 t ht
      cases hsrc : srcOf ops B i t with
      | some j =>
        rw [hsrc] at h2
        intro k hkn hwk
        have h3 := List.all_eq_true.1 h2 k (List.mem_range.2 hkn)
        rw [hwk] at h3
        simp only [Bool.not_true, Bool.false_or, Bool.or_eq_true, Nat.ble_eq, Nat.beq_eq] at h3
        rcases h3 with (h3 | h3) | h3
        · exact .inl h3
        · exact .inr (.inl h3)
        · exact .inr (.inr h3)
      | none =>
        rw [hsrc] at h2
        intro k hkn hwk
        have h3 := List.all_eq_true.1 h2 k (List.mem_range.2 hkn)
        rw [hwk] at h3
        simp only [Bool.not_true, Bool.false_or, Bool.or_eq_true, Nat.beq_eq] at h3
        exact h3
    · have h2 := h1.2
      rw [ht] at h2
      have h3 := List.all_eq_true.1 h2 k (List.mem_range.2 hkn)
      rw [hwk] at h3
      simp only [Bool.not_true, Bool.false_or, Bool.or_eq_true, Nat.ble_eq] at h3
      exact h3
  refine inv_ (List.range ops.size) (Inv ops a0 n Vs w.drew) hT hw hk ?_ ?_ ?_ ?_
  · rw [hlen]
    simp only [List.length_range, beq_self_eq_true, Bool.and_true, beq_iff_eq]
    apply List.ext_getElem
    · simp [lof]
    · intro j h1 h2
      simp [lof] at h1 h2 ⊢
      exact h1
  · refine ⟨Ext.refl _, E.size, E.defers, fun _ => undef, fun j hj => (by cases hj), fun t _ => ?_⟩
    have : lastW ops (fun _ => false) t = none := find_none (fun k _ => by simp)
    rw [this]
  · intro i hi b a w' I hbi hpre hsuc
    have hi' : i < ops.size := List.mem_range.1 hi
    obtain ⟨x, hx, hv⟩ := I.vals
    obtain ⟨k1, k2⟩ := key i hi'
    have hpre' : ∀ j, j < ops.size → waits B i j = true → b j = true := fun j hj hwj => hpre j (by simp [hj]; exact hwj)
    have hsuc' : ∀ k, k < ops.size → waits B k i = true → b k = false := fun k hkn hwk => hsuc k (by simp [hkn]; exact hwk)
    have hout : ∀ j, waits B i j = true → j < ops.size := by
      intro j hj
      have h1 := reach_bit hw (i + 1) i (by omega) (by omega) hj
      -- what an operation waits for is one of the region's
      have : ∀ fuel d, d < T.2.length → reachT T.2 j fuel d = true → j < ops.size := by
        intro fuel
        induction fuel with
        | zero => intro d _ h; simp [reachT] at h
        | succ fuel ih =>
          intro d hdl h
          unfold reachT at h
          cases hr : T.2[d]? with
          | none => rw [hr] at h; simp at h
          | some r =>
            rw [hr] at h
            simp only [List.any_eq_true] at h
            obtain ⟨m, hm1, hm2⟩ := h
            have hlt := (baseOk_row hk hr).2 m hm1
            rw [Bool.or_eq_true] at hm2
            rcases hm2 with hm2 | hm2
            · have : m = j := by simpa using hm2
              omega
            · exact ih m (by omega) hm2
      exact this (i + 1) i (by omega) h1
    have hE : Env (envOf ops B l Vs x i) n a := by
      refine ⟨fun t v ht => ?_, I.size, I.defers⟩
      rw [envOf_eq] at ht
      obtain ⟨h1, h2⟩ := lookup_filterMap (f := fun t => match srcOf ops B i t with
        | some j => some (valOf Vs x j)
        | none => l.lookup t) ht
      have h3 := k1 t h2
      by_cases htn : t < n
      · rw [hv t htn]
        cases hsrc : srcOf ops B i t with
        | some j =>
          rw [hsrc] at h1 h3
          obtain ⟨hj1, hj2, hj3⟩ := srcOf_lt hsrc
          have hbj := hpre' j (by omega) hj3
          have : lastW ops b t = some j := by
            refine find_last (by omega) (by simp [hj2, hbj]) (fun k hkn hp => ?_)
            simp only [Bool.and_eq_true] at hp
            rcases h3 k hkn hp.1 with h | h | h
            · exact h
            · subst h; rw [hbi] at hp; cases hp.2
            · rw [hsuc' k hkn h] at hp; cases hp.2
          rw [this]
          simpa using h1
        | none =>
          rw [hsrc] at h1 h3
          have : lastW ops b t = none := by
            refine find_none (fun k hkn => ?_)
            cases hwk : writes ops t k with
            | false => rfl
            | true =>
              rcases h3 k hkn hwk with h | h
              · subst h; rw [hbi]; rfl
              · rw [hsuc' k hkn h]; rfl
          rw [this]
          exact E.get t v h1
      · -- a slot outside the frame: nothing is written there
        have hnone : ∀ k, k < ops.size → writes ops t k = false := by
          intro k hkn
          cases hwk : writes ops t k with
          | false => rfl
          | true =>
            have h4 := List.all_eq_true.1 hd k (List.mem_range.2 hkn)
            have h5 : dstOf ops k = some t := by simpa [writes] using hwk
            rw [h5] at h4
            simp [fits] at h4
            omega
        have hsn : srcOf ops B i t = none := find_none (fun k hkn => by simp [hnone k (by omega)])
        rw [hsn] at h1
        have h6 := E.get t v h1
        have g1 : a0.tmps.getD t undef = undef := by simp [Array.getD_eq_getD_getElem?]; rw [Array.getElem?_eq_none (by rw [E.size]; omega)]; rfl
        have g2 : a.tmps.getD t undef = undef := by simp [Array.getD_eq_getD_getElem?]; rw [Array.getElem?_eq_none (by rw [I.size]; omega)]; rfl
        rw [g2, ← g1]; exact h6
    obtain ⟨o, s, ho, hso, hK⟩ := hs i hi x a w' I.ext (fun j hj => hx j (hpre' j (hout j hj) hj)) hE
    refine ⟨o, ho, fun K hKs => ?_⟩
    refine hK K (fun v w2 hext hsv => ?_)
    refine hKs.out _ _ ?_
    refine ⟨I.ext.trans hext, by cases hod : o.dst <;> simp [Act.put, I.size], by cases hod : o.dst <;> simp [Act.put, I.defers], fun j => if j = i then v else x j, fun j hj => ?_, fun t ht => ?_⟩
    · by_cases e : j = i
      · subst e
        unfold knows
        rw [hso]
        cases s with
        | exact u => trivial
        | rel p => simpa [Spec.ok] using hsv
      · have hb : b j = true := by rw [up_ne e] at hj; exact hj
        have h1 := hx j hb
        unfold knows at h1 ⊢
        cases hj2 : Vs[j]? with
        | none => trivial
        | some s2 =>
          cases s2 with
          | exact u => trivial
          | rel p => rw [hj2] at h1; simp only [if_neg e]; exact hl j p hj2 _ _ _ hext h1
    · rw [put_get (by rw [I.size]; exact ht)]
      have hod : o.dst = dstOf ops i := by simp [dstOf, ho]
      have hval : ∀ j, j ≠ i → valOf Vs (fun j => if j = i then v else x j) j = valOf Vs x j := by
        intro j e
        unfold valOf
        simp only [if_neg e]
      by_cases e : o.dst = some t
      · rw [if_pos e]
        have hwi : writes ops t i = true := by simp [writes, ← hod, e]
        have : lastW ops (up b i) t = some i := by
          refine find_last hi' (by simp [hwi, up_self]) (fun k hkn hp => ?_)
          simp only [Bool.and_eq_true] at hp
          rcases k2 t (by rw [← hod]; exact e) k hkn hp.1 with h | h
          · exact h
          · have e2 : k ≠ i := fun c => by
              subst c
              have hr := reach_bit hw (k + 1) k (by omega) (by omega) h
              -- none waits for itself
              have : ∀ fuel d, d < T.2.length → d ≤ k → reachT T.2 k fuel d = true → False := by
                intro fuel
                induction fuel with
                | zero => intro d _ _ h; simp [reachT] at h
                | succ fuel ih =>
                  intro d hdl hdk h
                  unfold reachT at h
                  cases hr : T.2[d]? with
                  | none => rw [hr] at h; simp at h
                  | some r =>
                    rw [hr] at h
                    simp only [List.any_eq_true] at h
                    obtain ⟨m, hm1, hm2⟩ := h
                    have hlt := (baseOk_row hk hr).2 m hm1
                    rw [Bool.or_eq_true] at hm2
                    rcases hm2 with hm2 | hm2
                    · have : m = k := by simpa using hm2
                      omega
                    · exact ih m (by omega) (by omega) hm2
              exact this _ _ (by omega) (Nat.le_refl _) hr
            rw [up_ne e2] at hp
            rw [hsuc' k hkn h] at hp
            cases hp.2
        rw [this]
        show v = valOf Vs _ i
        unfold valOf
        rw [hso]
        cases s with
        | exact u => simpa [Spec.ok] using hsv
        | rel p => simp
      · rw [if_neg e, hv t ht]
        have : lastW ops (up b i) t = lastW ops b t := by
          unfold lastW
          congr 1
          funext k
          by_cases ek : k = i
          · subst ek
            have : writes ops t k = false := by
              cases h : writes ops t k with
              | false => rfl
              | true => exact absurd (by simpa [writes, ← hod] using h) e
            simp [this]
          · rw [up_ne ek]
        rw [this]
        cases hlw : lastW ops b t with
        | none => rfl
        | some j =>
          have e2 : j ≠ i := fun c => by
            subst c
            have := (find_some hlw).2.1
            rw [hbi] at this
            simp at this
          exact (hval j e2).symm
  · intro b a w' hall I
    obtain ⟨x, hx, hv⟩ := I.vals
    have hall' : ∀ j, j < ops.size → b j = true := fun j hj => hall j (by simp [hj])
    refine hend x a w' ((Ext.drew w).trans I.ext) (fun j hj => hx j (hall' j hj)) ⟨fun t v ht => ?_, I.size, I.defers⟩
    unfold endEnv at ht
    rw [List.lookup_append] at ht
    -- the last operation that fills the slot
    have hfind : ∀ m, ((List.range m).reverse.filterMap fun i => (dstOf ops i).map fun t => (t, valOf Vs x i)).lookup t = ((List.range m).reverse.find? fun j => writes ops t j).map (valOf Vs x) := by
      intro m
      induction m with
      | zero => rfl
      | succ m ih =>
        rw [List.range_succ, List.reverse_append]
        simp only [List.reverse_singleton, List.singleton_append, List.filterMap_cons, List.find?_cons]
        cases hdm : dstOf ops m with
        | none => simp only [Option.map_none, writes, hdm]; rw [ih]; rfl
        | some d =>
          simp only [Option.map_some, List.lookup_cons, writes, hdm]
          by_cases e : t = d
          · subst e; simp
          · have h1 : (t == d) = false := by simpa using e
            have h2 : (some d == some t) = false := by simpa using fun c => e c.symm
            rw [h1, h2]
            exact ih
    rw [hfind] at ht
    by_cases htn : t < n
    · rw [hv t htn]
      have hlw : lastW ops b t = (List.range ops.size).reverse.find? fun j => writes ops t j := by
        unfold lastW
        cases hff : (List.range ops.size).reverse.find? fun j => writes ops t j with
        | none =>
          refine find_none (fun k hkn => ?_)
          have := List.find?_eq_none.1 hff k (by simp; exact hkn)
          simp at this
          simp [this]
        | some j =>
          obtain ⟨h1, h2, h3⟩ := find_some hff
          exact find_last h1 (by simp [h2, hall' j h1]) (fun k hkn hp => h3 k hkn (by simp at hp; exact hp.1))
      rw [hlw]
      cases hff : (List.range ops.size).reverse.find? fun j => writes ops t j with
      | none => rw [hff] at ht; simp at ht; exact E.get t v ht
      | some j => rw [hff] at ht; simp at ht; exact ht
    · have hff : ((List.range ops.size).reverse.find? fun j => writes ops t j) = none := by
        refine find_none (fun k hkn => ?_)
        cases hwk : writes ops t k with
        | false => rfl
        | true =>
          have h4 := List.all_eq_true.1 hd k (List.mem_range.2 hkn)
          have h5 : dstOf ops k = some t := by simpa [writes] using hwk
          rw [h5] at h4
          simp [fits] at h4
          omega
      rw [hff] at ht
      simp at ht
      have h6 := E.get t v ht
      have g1 : a0.tmps.getD t undef = undef := by simp [Array.getD_eq_getD_getElem?]; rw [Array.getElem?_eq_none (by rw [E.size]; omega)]; rfl
      have g2 : a.tmps.getD t undef = undef := by simp [Array.getD_eq_getD_getElem?]; rw [Array.getElem?_eq_none (by rw [I.size]; omega)]; rfl
      rw [g2, ← g1]; exact h6
end
end Go.Rill
