/- delete, and a look without 'ok', in a map from numbers; a store into a growing slice as the last of a drawn region. Of whatever program. -/
import Derived.Test.YtnebjbgcibjohaaRR
import Derived.Test.YtnebjbgcibjohaaProg
import Derived.Shelf.SlLaysM
import Derived.Shelf.SlLaysZI
import Derived.Scope
section
namespace Go.Rill
set_option linter.unusedVariables false
set_option linter.unusedSimpArgs false
open Go.RowKit
def idel (q : Int) : List IE → List IE
  | [] => []
  | e :: r => if q = e.key then r else e :: idel q r
theorem map_erase' {α β : Type} (f : α → β) : ∀ (l : List α) (i : Nat), (l.map f).eraseIdx i = (l.eraseIdx i).map f
  | [], _ => rfl
  | a :: r, 0 => rfl
  | a :: r, i + 1 => by simp [map_erase' f r i]
theorem del_none {q : Int} : ∀ {es : List IE} {n : Nat}, iat q es n = none → idel q es = es
  | [], n, _ => rfl
  | e :: r, n, h => by
    unfold iat at h
    split at h
    · cases h
    · rename_i hne
      rw [idel, if_neg hne, del_none h]
theorem del_some {q : Int} {u : Value} : ∀ {es : List IE} {n i : Nat}, iat q es n = some (i, u) → ∃ j, i = n + j ∧ j < es.length ∧ idel q es = es.eraseIdx j
  | [], n, i, h => by cases h
  | e :: r, n, i, h => by
    unfold iat at h
    split at h
    · rename_i he
      injection h with h
      injection h with h1 h2
      subst h1
      exact ⟨0, rfl, by simp, by rw [idel, if_pos he]; rfl⟩
    · rename_i hne
      obtain ⟨j, h1, h2, h3⟩ := del_some h
      exact ⟨j + 1, by omega, by simpa using h2, by rw [idel, if_neg hne, h3]; rfl⟩
section
variable {P : Program} {ρ : Operand → Value} {o : Oper} {w : World} {t k k' e : TypeId} {g clock : Nat} {es : List IE}
theorem run_deleteI {X Y : Operand} {q : Int} {args : List Operand} {ts : List TypeId} (ho : o.op = .call { callee := .builtin .delete, args := args.toArray, argTypes := ts.toArray }) (ha : args = [X, Y]) (hts : ts = [t, k']) (hX : ρ X = .map (some g)) (hY : ρ Y = .int .i64 q) (ht : tyMap P t k e = true) (hg : w.heap[g]? = some (.map (imap es) clock)) :
    (execOp ρ o).run P w = .ok (.value (.tuple #[])) { w with heap := w.heap.setIfInBounds g (.map (imap (idel q es)) clock) } := by
  subst ha hts
  obtain ⟨h1, h2⟩ := map_und ht
  have hgo : (getObj g).run P w = .ok (.map (imap es) clock) w := by simp [getObj, Sem.run, hg]
  have hso : ∀ o', (setObj g o').run P w = .ok () { w with heap := w.heap.setIfInBounds g o' } := fun o' => by simp [setObj, Sem.run, hg]
  have : (Builtin.delete_ #[t, k'] o.type #[.map (some g), .int .i64 q]).run P w = .ok (.tuple #[]) { w with heap := w.heap.setIfInBounds g (.map (imap (idel q es)) clock) } := by
    cases hf : iat q es 0 with
    | none =>
      rw [del_none hf]
      simp [Builtin.delete_, run_underlying h1, hgo, hso, run_ckey _ q h2, run_find q h2, hf, Result.andThen]
    | some p =>
      obtain ⟨i, u⟩ := p
      obtain ⟨j, hj, hjl, hd⟩ := del_some hf
      rw [Nat.zero_add] at hj
      subst hj
      have e1 : (imap es).eraseIdxIfInBounds i = imap (idel q es) := by
        rw [hd]
        apply Array.toList_inj.1
        unfold Array.eraseIdxIfInBounds
        rw [dif_pos (by simpa [imap] using hjl)]
        simp [imap, map_erase']
      simp [Builtin.delete_, run_underlying h1, hgo, hso, run_ckey _ q h2, run_find q h2, hf, Result.andThen, e1]
  simp [execOp, ho, resolve, invoke, builtin, hX, hY, this]
end
section
variable {P : Program} {ops : Array Oper} {Q : Exit → Act → World → Prop} {l : List (Nat × Value)} {n : Nat} {a : Act} {w w' w0 : World} {rest : List Oper} {o : Oper} {O : Nat → Prop} {L R : List Ent} {Φ : World → Prop}
theorem smdel {i g clock : Nat} {es : List IE} {t k k' e : TypeId} {X Y : Operand} {q : Int} {args : List Operand} {ts : List TypeId} (E : Env l n a) (M : Mem w0 O L Φ w) (hi : L[i]? = some (.blk g (.map (imap es) clock))) (hd : o.dst = none) (hc : covers l o = true) (hg : guardIn ops l o = true) (hw : wantedL ops l o = true)
    (ho : o.op = .call { callee := .builtin .delete, args := args.toArray, argTypes := ts.toArray }) (ha : args = [X, Y]) (hts : ts = [t, k']) (hX : evL l X = .map (some g)) (hY : evL l Y = .int .i64 q) (ht : tyMap P t k e = true)
    (kk : ∀ a' w', Mem w0 O (L.set i (.blk g (.map (imap (idel q es)) clock))) Φ w' → Env l n a' → wpList P ops Q rest a' w') : wpList P ops Q (o :: rest) a w := by
  refine seq_val E hc hg hw (by rw [hd]; rfl) (run_deleteI ho ha hts hX hY ht (M.ent i hi)) fun a' E' => kk a' _ (M.setObj hi) ?_
  rw [hd] at E'
  exact E'
/-- A store into a growing slice, as the last of a drawn region. -/
theorem last_setR {wb : World} {m i k c sz : Nat} {t e : TypeId} {A X : Operand} {v u : Value} {xs xs' : List Value} (E : Env l n a) (M : Mem wb O L Φ w) (ho : ops[m]? = some o) (hL : L[i]? = some (.row e sz v c xs)) (hd : o.dst = none) (hc : covers l o = true) (hg : guardIn ops l o = true) (hw : wantedL ops l o = true)
    (hop : o.op = .store t A X) (hA : evL l A = cellAt v k) (hX : evL l X = u) (ht : tySize P t 1 = true) (hk : k < c * sz) (h1 : u.oneCell' = true) (hx : xs.set k u = xs')
    (kk : ∀ a' w', Mem wb O (L.set i (.row e sz v c xs')) Φ w' → Env l n a' → Q .normal a' w') : lastOp P ops Q m a w := by
  subst hx
  have hr := M.ent i hL
  obtain ⟨hlen, hh⟩ := hr
  rcases hh with ⟨rfl, rfl⟩ | ⟨g, cap, cur, rfl, h0, hgg, hnc, hcm, hcs, htk⟩
  · simp at hk
  · have hA' : evL l A = .pointer (some ⟨g, k, none⟩) := by rw [hA, cellAt, add_plain, Nat.zero_add]
    have hmc : c * sz ≤ cap * sz := Nat.mul_le_mul_right _ hnc
    have hrun := run_store1 (P := P) (w := w) hop hA' hX ht hgg (by omega) h1
    unfold lastOp
    rw [ho]
    simp only
    rw [E.wanted hg, if_pos hw]
    unfold Oper.wp
    rw [E.exec hc, hrun]
    have E2 := E.put (d := o.dst) (by rw [hd]; rfl) undef
    rw [hd] at E2
    rw [Oper.upon_skip, hd]
    refine kk _ _ (M.change hL _ (Ch.setRow (by simp [Ent.row, Value.ownBlock])) ⟨by simpa using hlen, .inr ⟨g, cap, _, rfl, h0, setRow_heap w g cur _ e _ hgg, hnc, hcm, by simpa using hcs, ?_⟩⟩ fun k' hk' => ?_) E2
    · simp only [Array.toList_setIfInBounds]
      rw [List.take_set, htk]
    · have := M.lt _ (List.mem_of_getElem? hL) k' (by simpa [Ent.row] using hk')
      exact ⟨by simpa using this, .inl (by simpa [Ent.row] using hk')⟩
end
end Go.Rill
end
section
namespace Go.Proofs
open Go.Shelf
end Go.Proofs
end
section
namespace Go.Rill
set_option linter.unusedVariables false
set_option linter.unusedSimpArgs false
open Go.RowKit
section
variable {P : Program}
variable {ops : Array Oper} {Q : Exit → Act → World → Prop} {l : List (Nat × Value)} {n : Nat} {a : Act} {w w' w0 : World} {rest : List Oper} {o : Oper} {O : Nat → Prop} {L R : List Ent} {Φ : World → Prop}
end
/-- These bytes, or none at all and no memory either. -/
def BytesZ (w : World) (v : Value) (l : List UInt8) : Prop := Bytes w v l ∨ ∃ a, v = .slice (some a) 0 0 ∧ l = []
/-- .. and apart from these blocks. -/
def FarB (w : World) (F : Nat → Prop) (v : Value) (l : List UInt8) : Prop := (Bytes w v l ∧ ∀ g, v.ownBlock = some g → ¬ F g) ∨ ∃ a, v = .slice (some a) 0 0 ∧ l = []
def FarI (w : World) (F : Nat → Prop) (v : Value) (l : List Int) : Prop := (Reads 1 w v l.length (ic l) ∧ ∀ g, v.ownBlock = some g → ¬ F g) ∨ ∃ a, v = .slice (some a) 0 0 ∧ l = []
theorem FarB.held {w w' : World} {F : Nat → Prop} {v : Value} {l : List UInt8} (h : FarB w F v l) (H : Held F w w') : FarB w' F v l := h.imp (fun q => ⟨Reads.held q.1 H q.2, q.2⟩) id
theorem FarI.held {w w' : World} {F : Nat → Prop} {v : Value} {l : List Int} (h : FarI w F v l) (H : Held F w w') : FarI w' F v l := h.imp (fun q => ⟨Reads.held q.1 H q.2, q.2⟩) id
/-- An operation of the laws over a disk: what it is, a record, bytes, numbers. -/
structure OpT where
  k : Int
  n : Int
  m : Int
  r : Rec
  dv : Value
  lv : Value
  dl : List UInt8
  ll : List Int
def OpT.cells (o : OpT) : List Value := [.int .i64 o.k, .int .i64 o.n, .int .i64 o.m] ++ (o.r.cells ++ [o.dv, o.lv])
section
variable {o : OpT}
theorem OpT.len (h : o.r.Ok) : o.cells.length = 141 := by simp [OpT.cells, Rec.len h]
theorem OpT.size (h : o.r.Ok) : o.cells.toArray.size = 141 := by simp [OpT.len h]
theorem OpT.c_k : o.cells.toArray[0]? = some (.int .i64 o.k) := by simp [OpT.cells]
end
end Go.Rill
end
section
namespace Go.Rill
set_option linter.unusedVariables false
set_option linter.unusedSimpArgs false
open Go.RowKit
theorem run_buildEZ {P : Program} {ρ : Operand → Value} {o : Oper} {w : World} {t e : TypeId} {n sz : Nat} {us : Array Value} (ho : o.op = .build t #[]) (ht : tyArr P t e n = true) (hs : tySize P e sz = true) (hz : zeroOf P t = some (.agg us)) : (execOp ρ o).run P w = .ok (.value (.agg us)) w := by
  unfold tyArr at ht
  have hzv := zero_run (P := P) (w := w) hz
  cases hu : P.underlying t with
  | none => rw [hu] at ht; cases ht
  | some d =>
    rw [hu] at ht
    cases d with
    | array m' e' =>
      simp at ht
      obtain ⟨rfl, rfl⟩ := ht
      simp [execOp, ho, Instr.build, hzv, run_underlying hu, run_size (w := w) hs, Instr.fill, Value.cells]
    | _ => cases ht
/-- An entry of a summary. -/
structure Ety where
  k : Int
  b : Int
  s : Int
  sum : List UInt8
deriving DecidableEq
def Ety.Ok (e : Ety) : Prop := e.sum.length = 32
def Ety.cells (e : Ety) : List Value := iv e.k :: iv e.b :: iv e.s :: bc e.sum
def Ety.zero : Ety := ⟨0, 0, 0, List.replicate 32 0⟩
section
variable {e : Ety}
theorem Ety.len (h : e.Ok) : e.cells.length = 35 := by simp [Ety.cells, show e.sum.length = 32 from h]
theorem Ety.size (h : e.Ok) : e.cells.toArray.size = 35 := by simp [Ety.len h]
theorem Ety.c_k : e.cells.toArray[0]? = some (iv e.k) := rfl
theorem Ety.c_b : e.cells.toArray[1]? = some (iv e.b) := rfl
theorem Ety.c_s : e.cells.toArray[2]? = some (iv e.s) := rfl
theorem Ety.m_sum (h : e.Ok) : (e.cells.drop 3).take 32 = bc e.sum := List.take_of_length_le (by simp [Ety.cells, show e.sum.length = 32 from h])
theorem Ety.ones (e : Ety) : ∀ v ∈ e.cells, v.oneCell' = true := by
  intro v hv
  unfold Ety.cells at hv
  simp only [List.mem_cons] at hv
  rcases hv with rfl | rfl | rfl | hv
  · rfl
  · rfl
  · rfl
  · exact bc_one _ v hv
end
def ecs (l : List Ety) : List Value := (l.map Ety.cells).flatten
def EOk (l : List Ety) : Prop := ∀ e ∈ l, e.Ok
@[simp] theorem ecs_nil : ecs [] = [] := rfl
theorem ecs_cons (r : Ety) (l : List Ety) : ecs (r :: l) = r.cells ++ ecs l := by simp [ecs]
theorem ecs_append (a b : List Ety) : ecs (a ++ b) = ecs a ++ ecs b := by simp [ecs]
theorem ecs_one (e : Ety) : ecs [e] = e.cells := by simp [ecs]
theorem EOk.sub {a b : List Ety} (h : EOk b) (s : ∀ r ∈ a, r ∈ b) : EOk a := fun r hr => h r (s r hr)
theorem EOk.take {l : List Ety} (h : EOk l) (k : Nat) : EOk (l.take k) := fun r hr => h r (List.mem_of_mem_take hr)
theorem EOk.drop {l : List Ety} (h : EOk l) (k : Nat) : EOk (l.drop k) := fun r hr => h r (List.mem_of_mem_drop hr)
theorem EOk.get {l : List Ety} (h : EOk l) {k : Nat} (hk : k < l.length) : (l[k]).Ok := h _ (List.getElem_mem hk)
theorem EOk.snoc {l : List Ety} (h : EOk l) {e : Ety} (he : e.Ok) : EOk (l ++ [e]) := fun r hr => (List.mem_append.1 hr).elim (h r) fun h => (List.mem_singleton.1 h) ▸ he
theorem ecs_len {l : List Ety} (h : EOk l) : (ecs l).length = l.length * 35 := by
  induction l with
  | nil => rfl
  | cons r l ih => rw [ecs_cons, List.length_append, Ety.len (h r (List.mem_cons_self ..)), ih fun x hx => h x (List.mem_cons_of_mem _ hx), List.length_cons]; omega
theorem ecs_drop {l : List Ety} (h : EOk l) {k : Nat} (hk : k ≤ l.length) : (ecs l).drop (k * 35) = ecs (l.drop k) := by
  have e : ecs l = ecs (l.take k) ++ ecs (l.drop k) := by rw [← ecs_append, List.take_append_drop]
  rw [e]
  exact List.drop_left' (by rw [ecs_len (h.take k), List.length_take, Nat.min_eq_left hk])
theorem ecs_get {l : List Ety} (h : EOk l) {k : Nat} (hk : k < l.length) : ((ecs l).drop (k * 35)).take 35 = (l[k]).cells := by
  rw [ecs_drop h (Nat.le_of_lt hk), List.drop_eq_getElem_cons hk, ecs_cons]
  exact List.take_left' (Ety.len (h.get hk))
/-- A summary; its entries lie elsewhere. -/
structure Smy where
  st : Int
  prev : List UInt8
  next : Int
  es : List Ety
deriving DecidableEq
def Smy.Ok (s : Smy) : Prop := s.prev.length = 32 ∧ EOk s.es
def Smy.cells (s : Smy) (v : Value) : List Value := iv s.st :: (bc s.prev ++ [iv s.next, v])
section
variable {s : Smy} {v : Value}
theorem Smy.len (h : s.Ok) : (s.cells v).length = 35 := by simp [Smy.cells, h.1]
theorem Smy.size (h : s.Ok) : (s.cells v).toArray.size = 35 := by simp [Smy.len h]
theorem Smy.c_st : (s.cells v).toArray[0]? = some (iv s.st) := rfl
theorem Smy.c_next (h : s.Ok) : (s.cells v).toArray[33]? = some (iv s.next) := by
  simp only [List.getElem?_toArray, Smy.cells, List.getElem?_cons_succ]
  rw [List.getElem?_append_right (by simp [h.1])]
  simp [h.1]
theorem Smy.c_es (h : s.Ok) : (s.cells v).toArray[34]? = some v := by
  simp only [List.getElem?_toArray, Smy.cells, List.getElem?_cons_succ]
  rw [List.getElem?_append_right (by simp [h.1])]
  simp [h.1]
theorem Smy.m_prev (h : s.Ok) : ((s.cells v).drop 1).take 32 = bc s.prev := List.take_left' (by simp [h.1])
theorem Smy.ones (hv : v.oneCell' = true) : ∀ u ∈ s.cells v, u.oneCell' = true := by
  intro u hu
  unfold Smy.cells at hu
  simp only [List.mem_cons, List.mem_append, List.not_mem_nil, or_false] at hu
  rcases hu with rfl | hu | rfl | rfl
  · rfl
  · exact bc_one _ u hu
  · rfl
  · exact hv
end
/-! ### Many slices that are not written over -/
theorem reads_st {sz n : Nat} {w w' : World} {v : Value} {l : List Value} (h : ∀ g, v.ownBlock = some g → w'.heap[g]? = w.heap[g]?) (k : Reads sz w v n l) : Reads sz w' v n l := by
  obtain ⟨h1, h2⟩ := k
  refine ⟨h1, h2.imp id ?_⟩
  rintro ⟨g, off, cap, rfl, a, b, c, d⟩
  have e := h g rfl
  refine ⟨g, off, cap, rfl, a, b, ?_, fun j u hu => ?_⟩
  · rw [Array.getElem?_eq_getElem c] at e
    exact (Array.getElem?_eq_some_iff.1 e).1
  · have := d j u hu
    unfold World.cell? at this ⊢
    rw [e]
    exact this
def Ent.rows (sz : Nat) (ps : List (Value × List Value)) : Ent := ⟨ps.filterMap (·.1.ownBlock), fun w => ∀ p ∈ ps, Reads sz w p.1 (p.2.length / sz) p.2, fun w w' h k p hp => reads_st (fun g hg => h g (List.mem_filterMap.2 ⟨p, hp, hg⟩)) (k p hp)⟩
section
variable {w w0 : World} {O : Nat → Prop} {L : List Ent} {Φ : World → Prop} {ps ps' : List (Value × List Value)} {e : TypeId} {v : Value} {l : List Value} {n sz : Nat}
/-- One more. -/
theorem Mem.pourR (M : Mem w0 O (.row e sz v n l :: .rows sz ps :: L) Φ w) (hz : 0 < sz) : Mem w0 O (.rows sz ((v, l) :: ps) :: L) Φ w := by
  have hp := List.pairwise_cons.1 M.apart
  have hp2 := List.pairwise_cons.1 hp.2
  have hb : Reads sz w v (l.length / sz) l := by
    have h := ownsRow_reads (M.ent (e := .row e sz v n l) 0 rfl)
    have e : l.length / sz = n := by rw [h.1]; exact Nat.mul_div_cancel _ hz
    rw [e]
    exact h
  have hmem : ∀ g, g ∈ (Ent.rows sz ((v, l) :: ps)).foot → g ∈ (Ent.row e sz v n l).foot ∨ g ∈ (Ent.rows sz ps).foot := by
    intro g hg
    obtain ⟨p, hp, hgp⟩ := List.mem_filterMap.1 hg
    rcases List.mem_cons.1 hp with rfl | hp
    · exact .inl (by simpa [Ent.row] using hgp)
    · exact .inr (List.mem_filterMap.2 ⟨p, hp, hgp⟩)
  refine M.swap (.refl _ _) (fun x hx => ?_) (fun x hx g hg => ?_) (fun x hx g hg => ?_) (List.pairwise_cons.2 ⟨fun x hx g hg hg' => ?_, hp2.2⟩)
  · rcases List.mem_cons.1 hx with rfl | hx
    · intro p hpp
      rcases List.mem_cons.1 hpp with rfl | hpp
      · exact hb
      · exact M.ents (.rows sz ps) (by simp) p hpp
    · exact M.ents x (by simp [hx])
  · rcases List.mem_cons.1 hx with rfl | hx
    · rcases hmem g hg with h | h
      · exact M.lt _ (by simp) g h
      · exact M.lt (.rows sz ps) (by simp) g h
    · exact M.lt x (by simp [hx]) g hg
  · rcases List.mem_cons.1 hx with rfl | hx
    · rcases hmem g hg with h | h
      · exact .inl ⟨_, by simp, h⟩
      · exact .inl ⟨.rows sz ps, by simp, h⟩
    · exact .inl ⟨x, by simp [hx], hg⟩
  · rcases hmem g hg with h | h
    · exact hp.1 x (by simp [hx]) g h hg'
    · exact hp2.1 x hx g h hg'
theorem Mem.ofRows {i : Nat} (M : Mem w0 O L Φ w) (h : L[i]? = some (.rows sz ps)) {p : Value × List Value} (hp : p ∈ ps) : Reads sz w p.1 (p.2.length / sz) p.2 := M.ent i h p hp
theorem Mem.nilRows (M : Mem w0 O L Φ w) (sz : Nat) : Mem w0 O (.rows sz [] :: L) Φ w :=
  M.adopt (Ext.refl w) _ (fun p hp => nomatch hp) fun g hg => nomatch hg
end
end Go.Rill
end
section
namespace Go.Rill
variable {Q : Exit → Act → World → Prop} {a : Act} {w : World} {id : Nat}
theorem scope_ret (h : Q .ret a w) : Exit.noGoto Q .ret a w := h
end Go.Rill
end
section
namespace Go.Rill
set_option linter.unusedVariables false
set_option linter.unusedSimpArgs false
open Go.Proofs.YtnebjbgcibjohaaW.PrintLast Go.RowKit
section
variable {P : Program} {Q : Exit → Act → World → Prop} {l : List (Nat × Value)} {n N c : Nat} {w w0 : World} {ops : Array Oper} {B : List Nat} {Vs : List Spec} {i : Nat} {Fs : Nat → Nat → Prop} {O : Nat → Prop} {J R0 : List Ent} {Φ : World → Prop}
/-- Ahead of the call all is as it was. -/
theorem ahead (M : Mem w0 O (J ++ R0) Φ w) (hc : Nat.blt c N = true) (hw : waits B c i = true) {w' : World} (h : Ch (fun g => ∃ j, j ≠ i ∧ (j < N → waits B j i = false) ∧ oneFs c J j g) w.drew w') : Mem w0 O (J ++ R0) Φ w' := by
  refine M.ext ((Ext.drew w).trans (h.mono fun g _ ⟨j, _, h2, h3, _⟩ => ?_ : Ch none' w.drew w').ext)
  subst h3
  rw [h2 (by simpa using hc)] at hw
  cases hw
end
end Go.Rill
end
section
namespace Go.Rill
set_option linter.unusedVariables false
set_option linter.unusedSimpArgs false
open Go.Proofs.YtnebjbgcibjohaaW.PrintLast Go.RowKit
def AllG (B0 : Nat) (Fs : Nat → Nat → Prop) : List Spec → Nat → Prop
  | [], _ => True
  | s :: r, j => LastsR B0 (fun g => ∃ i, i ≠ j ∧ Fs i g) s ∧ AllG B0 Fs r (j + 1)
theorem AllG.get {B0 : Nat} {Fs : Nat → Nat → Prop} : ∀ {Vs : List Spec} {k j : Nat} {s : Spec}, AllG B0 Fs Vs k → Vs[j]? = some s → LastsR B0 (fun g => ∃ i, i ≠ k + j ∧ Fs i g) s
  | [], _, _, _, _, h => by simp at h
  | a :: r, k, 0, s, h, hj => by
    simp only [List.getElem?_cons_zero, Option.some.injEq] at hj
    subst hj
    exact h.1
  | a :: r, k, j + 1, s, h, hj => by
    have := AllG.get (j := j) h.2 (by simpa using hj)
    rwa [show k + 1 + j = k + (j + 1) by omega] at this
section
variable {P : Program} {Q : Exit → Act → World → Prop} {l : List (Nat × Value)} {n N : Nat} {w w0 : World} {ops : Array Oper} {B : List Nat} {Vs : List Spec} {i : Nat} {Fs : Nat → Nat → Prop} {O : Nat → Prop} {I R0 : List Ent} {Φ : World → Prop} {c d e : Nat} {J K : List Ent}
theorem allG_ok (hN : Nat.ble Vs.length N = true) (h : AllG w0.heap.size Fs Vs 0) : (ownRoad Fs w0).Ok N B Vs w0 :=
  ownRoad_ok hN fun j s hs => by
    have := h.get hs
    rw [Nat.zero_add] at this
    exact LastsR.mono this fun g ⟨i, h1, _, h2⟩ => ⟨i, h1, h2⟩
theorem fr_setG {g : Nat} {cs cs' : Array Value} {T : TypeId} {fr : Nat × Nat} {o : Oper} (ho : ops[i]? = some o) (hs : Vs[i]? = some (CameI w.heap.size [.blk g (.cells cs T fr)] (fun _ : Unit => undef) (fun _ => [.blk g (.cells cs' T fr)]) (fun _ => True))) (M : Mem w0 O (I ++ R0) Φ w) (hFs : ∀ i g, Fs i g → feet I g)
    (H : Has w [.blk g (.cells cs T fr)]) (hJ : ∀ j, j ≠ i → ∀ q, Fs j q → ¬ feet [.blk g (.cells cs T fr)] q) (hI : ∀ q, feet [.blk g (.cells cs T fr)] q → Fs i q)
    (h : ∀ (x : Nat → Value) (w' : World), Mem w0 O R0 Φ w' → Has w' [.blk g (.cells cs T fr)] → w.heap.size ≤ w'.heap.size → (∀ j, waits B i j = true → knows Vs x w' j) → covers (envOf ops B l Vs x i) o = true ∧ guardIn ops (envOf ops B l Vs x i) o = true ∧ wantedL ops (envOf ops B l Vs x i) o = true ∧
      (execOp (evL (envOf ops B l Vs x i)) o).run P w' = .ok .skip (w'.setRow g cs')) : FStepR P ops B l n Vs (ownRoad Fs w.drew) Q i := by
  intro x a w' hx hk E
  have H' : Has w' [.blk g (.cells cs T fr)] := H.midst hx hJ
  obtain ⟨h1, h2, h3, h4⟩ := h x w' (M.midst hFs hx) H' hx.held.size hk
  refine ⟨o, _, ho, hs, fun K hK => ?_⟩
  rw [E.wanted h2, if_pos h3]
  unfold Oper.wp
  rw [E.exec h1, h4, Oper.upon_skip]
  have M2 := H'.mem.set (i := 0) (cs' := cs') rfl
  exact hK undef _ (Ch.setRow (hI g (feet_one.2 (List.mem_singleton.2 rfl)))) ⟨(), rfl, M2.has, fun q hq => .inl (feet_one.2 (by have := feet_one.1 hq; exact this)), trivial⟩
/-- Three of them. -/
def thrFs (c d e : Nat) (J K I : List Ent) : Nat → Nat → Prop := fun j g => (j = c ∧ feet J g) ∨ (j = d ∧ feet K g) ∨ (j = e ∧ feet I g)
theorem thrFs_in {j g : Nat} (h : thrFs c d e J K I j g) : feet (J ++ (K ++ I)) g := h.elim (fun h => feet_app.2 (.inl h.2)) fun h => feet_app.2 (.inr (feet_app.2 (h.elim (fun h => .inl h.2) fun h => .inr h.2)))
theorem Has.append {A C : List Ent} (a : Has w A) (b : Has w C) (h : ∀ g, feet A g → ¬ feet C g) : Has w (A ++ C) :=
  ⟨fun x hx => (List.mem_append.1 hx).elim (a.ents x) (b.ents x), fun x hx => (List.mem_append.1 hx).elim (a.lt x) (b.lt x), List.pairwise_append.2 ⟨a.apart, b.apart, fun x hx y hy g hg hg' => h g ⟨x, hx, hg⟩ ⟨y, hy, hg'⟩⟩⟩
/-- What such a region leaves: a thing made anew, and two that were written. -/
theorem Mem.behind3 {α : Type} {val : α → Value} {outs : α → List Ent} {p : α → Prop} {K' I' : List Ent} {b : Nat → Bool} {w' wb : World} {v u1 u2 : Value} (M : Mem wb O ((J ++ (K ++ I)) ++ R0) Φ w) (h : (ownRoad (thrFs c d e J K I) w.drew).I b w')
    (h1 : (match CameI w.heap.size J val outs p with | .rel q => q w' v | .exact _ => False)) (h2 : (match CameI w.heap.size K (fun _ : Unit => undef) (fun _ => K') (fun _ => True) with | .rel q => q w' u1 | .exact _ => False)) (h3 : (match CameI w.heap.size I (fun _ : Unit => undef) (fun _ => I') (fun _ => True) with | .rel q => q w' u2 | .exact _ => False))
    (eK : ∀ g, feet K' g → feet K g) (eI : ∀ g, feet I' g → feet I g) : ∃ x, v = val x ∧ p x ∧ Mem wb O ((outs x ++ (K' ++ I')) ++ R0) Φ w' := by
  obtain ⟨x, a1, a2, a3, a4⟩ := h1
  obtain ⟨_, _, b2, _, _⟩ := h2
  obtain ⟨_, _, c2, _, _⟩ := h3
  have hc : Ch (feet (J ++ (K ++ I))) w w' := (Ch.of_ext (Ext.drew w)).trans (Ch.mono h fun g _ ⟨j, _, hj⟩ => thrFs_in hj)
  have hp := List.pairwise_append.1 (List.pairwise_append.1 M.apart).1
  have hp2 := List.pairwise_append.1 hp.2.1
  have old : ∀ g, feet (K ++ I) g → g < w.heap.size := fun g ⟨e, he, hg⟩ => M.lt e (List.mem_append_left _ (List.mem_append_right _ he)) g hg
  have hK : ∀ g, feet (K' ++ I') g → feet (K ++ I) g := fun g hg => feet_app.2 ((feet_app.1 hg).imp (eK g) (eI g))
  have hKI : Has w' (K' ++ I') := b2.append c2 fun g hg hg' => by
    obtain ⟨x1, m1, q1⟩ := eK g hg
    obtain ⟨x2, m2, q2⟩ := eI g hg'
    exact hp2.2.2 x1 m1 x2 m2 g q1 q2
  have hall : Has w' (outs x ++ (K' ++ I')) := a2.append hKI fun g hg hg' => by
    have hg' := hK g hg'
    rcases a3 g hg with hj | hj
    · obtain ⟨x1, m1, q1⟩ := hj
      obtain ⟨x2, m2, q2⟩ := hg'
      exact hp.2.2 x1 m1 x2 m2 g q1 q2
    · exact Nat.not_le_of_lt (old g hg') hj
  exact ⟨x, a1, a4, M.call hc hall fun g hg => (feet_app.1 hg).elim (fun h => (a3 g h).imp (fun q => feet_app.2 (.inl q)) id) fun h => .inl (feet_app.2 (.inr (hK g h)))⟩
end
section
variable {P : Program} {l : List (Nat × Value)} {n : Nat} {a : Act} {w : World}
end
end Go.Rill
end
section
namespace Go.Rill
set_option linter.unusedVariables false
set_option linter.unusedSimpArgs false
open Go.Proofs.YtnebjbgcibjohaaW.PrintLast Go.RowKit
def AllL (Q1 Q2 : World → Prop) (B : List Nat) (c1 : Nat) : List Spec → Nat → Prop
  | [], _ => True
  | s :: r, j => (match s with
    | .exact _ => True
    | .rel p => (∀ w w' v, Ext w w' → p w v → p w' v) ∧ (∀ w v, Q2 w → p w v) ∧ (waits B j c1 = false → ∀ w v, Q1 w → p w v)) ∧ AllL Q1 Q2 B c1 r (j + 1)
theorem AllL.get {Q1 Q2 : World → Prop} {B : List Nat} {c1 : Nat} : ∀ {Vs : List Spec} {k j : Nat} {p : World → Value → Prop}, AllL Q1 Q2 B c1 Vs k → Vs[j]? = some (.rel p) → (∀ w w' v, Ext w w' → p w v → p w' v) ∧ (∀ w v, Q2 w → p w v) ∧ (waits B (k + j) c1 = false → ∀ w v, Q1 w → p w v)
  | [], _, _, _, _, h => by simp at h
  | a :: r, k, 0, s, h, hj => by
    simp only [List.getElem?_cons_zero, Option.some.injEq] at hj
    subst hj
    exact h.1
  | a :: r, k, j + 1, s, h, hj => by
    have := AllL.get (j := j) h.2 (by simpa using hj)
    rwa [show k + 1 + j = k + (j + 1) by omega] at this
section
variable {P : Program} {Q : Exit → Act → World → Prop} {l : List (Nat × Value)} {n N : Nat} {w w0 wb : World} {ops : Array Oper} {B : List Nat} {Vs : List Spec} {i : Nat} {O : Nat → Prop} {I R0 : List Ent} {Φ : World → Prop} {c1 c2 : Nat} {Q1 Q2 : World → Prop}
end
end Go.Rill
end
section
namespace Go.Rill
set_option linter.unusedVariables false
set_option linter.unusedSimpArgs false
open Go.Proofs.YtnebjbgcibjohaaW.PrintLast Go.RowKit
/-- cs: the calls, in their order; Q k: what is so behind k of them; F k: what the call at place k may change. -/
def chainN (cs : List Nat) (Q : Nat → World → Prop) (F : Nat → Nat → Prop) : Road where
  Pre i w := ∃ k, k ≤ cs.length ∧ (∀ j : Nat, cs[j]? = some i → k = j) ∧ Q k w
  R i w w' := (∀ j : Nat, cs[j]? = some i → Q (j + 1) w' ∧ Ch (F j) w w') ∧ ((∀ j : Nat, cs[j]? ≠ some i) → Ext w w')
  I b w := ∃ k, k ≤ cs.length ∧ (∀ (j c : Nat), cs[j]? = some c → (b c = true ↔ j < k)) ∧ Q k w
/-- Each waits for all ahead of it; none stands twice. -/
def chainNOk (B : List Nat) (cs : List Nat) : Bool := (List.range cs.length).all fun j => (List.range j).all fun j' => match cs[j]?, cs[j']? with
  | some c, some c' => waits B c c' && !Nat.beq c c'
  | _, _ => true
def AllC (B : List Nat) (F : Nat → Nat → Prop) (j : Nat) (p : World → Value → Prop) : List Nat → Nat → Prop
  | [], _ => True
  | c :: r, q => ((Nat.beq c j || waits B j c) = true ∨ ∀ w w' v, Ch (F q) w w' → p w v → p w' v) ∧ AllC B F j p r (q + 1)
theorem AllC.get {B : List Nat} {F : Nat → Nat → Prop} {j : Nat} {p : World → Value → Prop} : ∀ {cs : List Nat} {k q c : Nat}, AllC B F j p cs k → cs[q]? = some c → (Nat.beq c j || waits B j c) = true ∨ ∀ w w' v, Ch (F (k + q)) w w' → p w v → p w' v
  | [], _, _, _, _, h => by simp at h
  | a :: r, k, 0, c, h, hj => by
    simp only [List.getElem?_cons_zero, Option.some.injEq] at hj
    subst hj
    exact h.1
  | a :: r, k, q + 1, c, h, hj => by
    have := AllC.get (q := q) h.2 (by simpa using hj)
    rwa [show k + 1 + q = k + (q + 1) by omega] at this
def AllN (B : List Nat) (cs : List Nat) (F : Nat → Nat → Prop) : List Spec → Nat → Prop
  | [], _ => True
  | s :: r, j => (match s with
    | .exact _ => True
    | .rel p => (∀ w w' v, Ext w w' → p w v → p w' v) ∧ AllC B F j p cs 0) ∧ AllN B cs F r (j + 1)
theorem AllN.get {B : List Nat} {cs : List Nat} {F : Nat → Nat → Prop} : ∀ {Vs : List Spec} {k j : Nat} {p : World → Value → Prop}, AllN B cs F Vs k → Vs[j]? = some (.rel p) → (∀ w w' v, Ext w w' → p w v → p w' v) ∧ AllC B F (k + j) p cs 0
  | [], _, _, _, _, h => by simp at h
  | a :: r, k, 0, s, h, hj => by
    simp only [List.getElem?_cons_zero, Option.some.injEq] at hj
    subst hj
    exact h.1
  | a :: r, k, j + 1, s, h, hj => by
    have := AllN.get (j := j) h.2 (by simpa using hj)
    rwa [show k + 1 + j = k + (j + 1) by omega] at this
section
variable {P : Program} {X : Exit → Act → World → Prop} {l : List (Nat × Value)} {n N : Nat} {w w0 wb : World} {ops : Array Oper} {B : List Nat} {Vs : List Spec} {i : Nat} {O : Nat → Prop} {I R0 : List Ent} {Φ : World → Prop} {cs : List Nat} {Q : Nat → World → Prop} {F : Nat → Nat → Prop}
theorem chainN_before (hB : chainNOk B cs = true) {j j' c c' : Nat} (h : cs[j]? = some c) (h' : cs[j']? = some c') (hj : j' < j) : waits B c c' = true ∧ c ≠ c' := by
  have hl : j < cs.length := (List.getElem?_eq_some_iff.1 h).1
  have := List.all_eq_true.1 (List.all_eq_true.1 hB j (List.mem_range.2 hl)) j' (List.mem_range.2 hj)
  rw [h, h'] at this
  simp only [Bool.and_eq_true, Bool.not_eq_true'] at this
  exact ⟨this.1, Nat.ne_of_beq_eq_false this.2⟩
theorem chainN_inj (hB : chainNOk B cs = true) {j j' c : Nat} (h : cs[j]? = some c) (h' : cs[j']? = some c) : j = j' := by
  rcases Nat.lt_trichotomy j j' with c1 | c1 | c1
  · exact absurd rfl (chainN_before hB h' h c1).2
  · exact c1
  · exact absurd rfl (chainN_before hB h h' c1).2
theorem chainN_at (hB : chainNOk B cs = true) {b : Nat → Bool} {k j : Nat} (hk : k ≤ cs.length) (hb : b i = false) (hd : ∀ j, waits B i j = true → b j = true) (hI : ∀ j c, cs[j]? = some c → (b c = true ↔ j < k)) (hj : cs[j]? = some i) : k = j := by
  have h1 : ¬ j < k := fun c => by
    have := (hI j i hj).2 c
    rw [hb] at this; cases this
  rcases Nat.lt_or_ge k j with h | h
  · have hkl : k < cs.length := Nat.lt_trans h (List.getElem?_eq_some_iff.1 hj).1
    have hk2 : cs[k]? = some cs[k] := List.getElem?_eq_getElem hkl
    have := (hI k _ hk2).1 (hd _ (chainN_before hB hj hk2 h).1)
    omega
  · omega
theorem chainN_ok (hB : chainNOk B cs = true) (h0 : Q 0 w0) (he : ∀ k w w', Ext w w' → Q k w → Q k w') (hN : Nat.ble Vs.length N = true) (h : AllN B cs F Vs 0) : (chainN cs Q F).Ok N B Vs w0 where
  begin := ⟨0, Nat.zero_le _, fun j c _ => ⟨fun h => Bool.noConfusion (show false = true from h), fun h => absurd h (Nat.not_lt_zero _)⟩, h0⟩
  pre b i w hb hs hd hI := by
    obtain ⟨k, hk, hI, hQ⟩ := hI
    exact ⟨k, hk, fun j hj => chainN_at hB hk hb hd hI hj, hQ⟩
  step b i w w' hb hs hd hI hR := by
    obtain ⟨k, hk, hI, hQ⟩ := hI
    by_cases hc : ∃ j : Nat, cs[j]? = some i
    · obtain ⟨j, hj⟩ := hc
      obtain rfl := chainN_at hB hk hb hd hI hj
      refine ⟨k + 1, (List.getElem?_eq_some_iff.1 hj).1, fun j' c' hj' => ?_, (hR.1 k hj).1⟩
      by_cases hci : c' = i
      · subst hci
        have := chainN_inj hB hj hj'
        subst this
        rw [up_self]
        exact ⟨fun _ => Nat.lt_succ_self _, fun _ => rfl⟩
      · have hu : up b i c' = b c' := by unfold up; rw [if_neg hci]
        have hne : j' ≠ k := fun e => by subst e; rw [hj] at hj'; injection hj' with e; exact hci e.symm
        rw [hu, hI j' c' hj']
        omega
    · have hno : ∀ j : Nat, cs[j]? ≠ some i := fun j hj => hc ⟨j, hj⟩
      refine ⟨k, hk, fun j c hj => ?_, he _ _ _ (hR.2 hno) hQ⟩
      have hne : ¬ c = i := fun e => hno j (by rw [hj, e])
      have hu : up b i c = b c := by unfold up; rw [if_neg hne]
      rw [hu]
      exact hI j c hj
  keep i j p hij hw hs w w' v hp hr hv := by
    obtain ⟨a1, a2⟩ := h.get hs
    rw [Nat.zero_add] at a2
    by_cases hc : ∃ q : Nat, cs[q]? = some i
    · obtain ⟨q, hq⟩ := hc
      rcases a2.get hq with h1 | h1
      · rw [Bool.or_eq_true] at h1
        rcases h1 with h1 | h1
        · exact absurd (Nat.eq_of_beq_eq_true h1) hij
        · rw [hw (Nat.lt_of_lt_of_le (List.getElem?_eq_some_iff.1 hs).1 (Nat.le_of_ble_eq_true hN))] at h1
          cases h1
      · rw [Nat.zero_add] at h1
        exact h1 _ _ _ (hr.1 q hq).2 hv
    · exact a1 _ _ _ (hr.2 fun j hj => hc ⟨j, hj⟩) hv
/-- In the midst: all but these things is as it was. -/
theorem chainN_mid (M : Mem wb O (I ++ R0) Φ w) (hK : ∀ k v, Q k v → Ch (feet I) w.drew v) {w' : World} (hp : (chainN cs Q F).Pre i w') : Mem wb O R0 Φ w' := by
  obtain ⟨k, _, _, hQ⟩ := hp
  exact M.call (outs := []) ((Ch.of_ext (Ext.drew w)).trans (hK k _ hQ)) (Has.nil _) fun g hg => (feet_nil hg).elim
/-- A value. -/
theorem gc_val {o : Oper} {s : Spec} (ho : ops[i]? = some o) (hs : Vs[i]? = some s) (hc : (cs.all fun c => !Nat.beq c i) = true) (M : Mem wb O (I ++ R0) Φ w) (hK : ∀ k v, Q k v → Ch (feet I) w.drew v)
    (h : ∀ (x : Nat → Value) (w' : World), Mem wb O R0 Φ w' → (∀ j, waits B i j = true → knows Vs x w' j) → ∃ v, covers (envOf ops B l Vs x i) o = true ∧ guardIn ops (envOf ops B l Vs x i) o = true ∧ wantedL ops (envOf ops B l Vs x i) o = true ∧
      (execOp (evL (envOf ops B l Vs x i)) o).run P w' = .ok (.value v) w' ∧ s.ok w' v) : FStepR P ops B l n Vs (chainN cs Q F) X i := by
  intro x a w' hx hk E
  obtain ⟨v, h1, h2, h3, h4, h6⟩ := h x w' (chainN_mid M hK hx) hk
  refine ⟨o, s, ho, hs, fun K hK => ?_⟩
  rw [E.wanted h2, if_pos h3]
  unfold Oper.wp
  rw [E.exec h1, h4]
  refine hK v w' ⟨fun j hj => ?_, fun _ => Ext.refl _⟩ h6
  have := List.all_eq_true.1 hc i (List.mem_of_getElem? hj)
  rw [Nat.beq_refl] at this
  cases this
/-- A value that needs new memory. -/
theorem gc_new {o : Oper} {s : Spec} (ho : ops[i]? = some o) (hs : Vs[i]? = some s) (hc : (cs.all fun c => !Nat.beq c i) = true) (M : Mem wb O (I ++ R0) Φ w) (hK : ∀ k v, Q k v → Ch (feet I) w.drew v)
    (h : ∀ (x : Nat → Value) (w' : World), Mem wb O R0 Φ w' → w.heap.size ≤ w'.heap.size → (∀ j, waits B i j = true → knows Vs x w' j) → ∃ v w'', covers (envOf ops B l Vs x i) o = true ∧ guardIn ops (envOf ops B l Vs x i) o = true ∧ wantedL ops (envOf ops B l Vs x i) o = true ∧
      (execOp (evL (envOf ops B l Vs x i)) o).run P w' = .ok (.value v) w'' ∧ Ext w' w'' ∧ s.ok w'' v) : FStepR P ops B l n Vs (chainN cs Q F) X i := by
  intro x a w' hx hk E
  have hM := chainN_mid M hK hx
  obtain ⟨k, _, _, hQ⟩ := hx
  obtain ⟨v, w'', h1, h2, h3, h4, h5, h6⟩ := h x w' hM (hK k _ hQ).held.size hk
  refine ⟨o, s, ho, hs, fun K hK => ?_⟩
  rw [E.wanted h2, if_pos h3]
  unfold Oper.wp
  rw [E.exec h1, h4]
  refine hK v w'' ⟨fun j hj => ?_, fun _ => h5⟩ h6
  have := List.all_eq_true.1 hc i (List.mem_of_getElem? hj)
  rw [Nat.beq_refl] at this
  cases this
/-- The call at place j of the chain: it finds stage j, it leaves stage j + 1. -/
theorem gc_call {o : Oper} {s : Spec} {j : Nat} (hB : chainNOk B cs = true) (ho : ops[i]? = some o) (hs : Vs[i]? = some s) (hj : cs[j]? = some i) (M : Mem wb O (I ++ R0) Φ w) (hK : ∀ k v, Q k v → Ch (feet I) w.drew v)
    (h : ∀ (x : Nat → Value) (w' : World), Mem wb O R0 Φ w' → Q j w' → (∀ j, waits B i j = true → knows Vs x w' j) → ∃ f args, covers (envOf ops B l Vs x i) o = true ∧ guardIn ops (envOf ops B l Vs x i) o = true ∧ wantedL ops (envOf ops B l Vs x i) o = true ∧
      (execOp (evL (envOf ops B l Vs x i)) o).run P w' = .ok (.enter f args) w' ∧ Calls P f args w' fun e w'' => ∃ v, e = .returned v ∧ (Q (j + 1) w'' ∧ Ch (F j) w' w'') ∧ s.ok w'' v) : FStepR P ops B l n Vs (chainN cs Q F) X i := by
  intro x a w' hx hk E
  have hM := chainN_mid M hK hx
  obtain ⟨k, _, hkj, hQ⟩ := hx
  obtain rfl := hkj j hj
  obtain ⟨f, args, h1, h2, h3, h4, h5⟩ := h x w' hM hQ hk
  refine ⟨o, s, ho, hs, fun K hK => ?_⟩
  rw [E.wanted h2, if_pos h3]
  unfold Oper.wp
  rw [E.exec h1, h4, Oper.upon_enter]
  refine h5.mono ?_
  rintro e w'' ⟨v, rfl, hx2, hv⟩
  refine hK v w'' ⟨fun j' hj' => ?_, fun hno => absurd hj (hno _)⟩ hv
  have := chainN_inj hB hj hj'
  subst this
  exact hx2
/-- A value that changes things itself (an append), at place j of the chain. -/
theorem gc_own {o : Oper} {s : Spec} {j : Nat} (hB : chainNOk B cs = true) (ho : ops[i]? = some o) (hs : Vs[i]? = some s) (hj : cs[j]? = some i) (M : Mem wb O (I ++ R0) Φ w) (hK : ∀ k v, Q k v → Ch (feet I) w.drew v)
    (h : ∀ (x : Nat → Value) (w' : World), Mem wb O R0 Φ w' → Q j w' → (∀ j, waits B i j = true → knows Vs x w' j) → ∃ v w'', covers (envOf ops B l Vs x i) o = true ∧ guardIn ops (envOf ops B l Vs x i) o = true ∧ wantedL ops (envOf ops B l Vs x i) o = true ∧
      (execOp (evL (envOf ops B l Vs x i)) o).run P w' = .ok (.value v) w'' ∧ (Q (j + 1) w'' ∧ Ch (F j) w' w'') ∧ s.ok w'' v) : FStepR P ops B l n Vs (chainN cs Q F) X i := by
  intro x a w' hx hk E
  have hM := chainN_mid M hK hx
  obtain ⟨k, _, hkj, hQ⟩ := hx
  obtain rfl := hkj j hj
  obtain ⟨v, w'', h1, h2, h3, h4, h5, h6⟩ := h x w' hM hQ hk
  refine ⟨o, s, ho, hs, fun K hK => ?_⟩
  rw [E.wanted h2, if_pos h3]
  unfold Oper.wp
  rw [E.exec h1, h4]
  refine hK v w'' ⟨fun j' hj' => ?_, fun hno => absurd hj (hno _)⟩ h6
  have := chainN_inj hB hj hj'
  subst this
  exact h5
end
end Go.Rill
end
section
namespace Go.Rill
set_option linter.unusedVariables false
set_option linter.unusedSimpArgs false
open Go.Proofs.YtnebjbgcibjohaaW.PrintLast Go.RowKit
/-- What the operations of a region may count on, what they do, and what is so behind some of them. -/
structure RoadX where
  Pre : Nat → (Nat → Value) → World → Prop
  R : Nat → (Nat → Value) → World → Value → World → Prop
  I : (Nat → Bool) → (Nat → Value) → World → Prop
structure RoadX.Ok (D : RoadX) (N : Nat) (B : List Nat) (Vs : List Spec) (w0 : World) : Prop where
  begin : D.I (fun _ => false) (fun _ => undef) w0
  pre : ∀ (b : Nat → Bool) i x w, b i = false → (∀ j, j < N → waits B j i = true → b j = false) → (∀ j, waits B i j = true → b j = true) → D.I b x w → D.Pre i x w
  step : ∀ (b : Nat → Bool) i x w v w', b i = false → (∀ j, j < N → waits B j i = true → b j = false) → (∀ j, waits B i j = true → b j = true) → D.I b x w → D.R i x w v w' → D.I (up b i) (fun j => if j = i then v else x j) w'
  keep : ∀ i j p, i ≠ j → (j < N → waits B j i = false) → Vs[j]? = some (.rel p) → ∀ x w u w' v, D.Pre i x w → D.R i x w u w' → p w v → p w' v
def FStepX (P : Program) (ops : Array Oper) (B : List Nat) (l : List (Nat × Value)) (n : Nat) (Vs : List Spec) (D : RoadX) (Q : Exit → Act → World → Prop) (i : Nat) : Prop :=
  ∀ (x : Nat → Value) (a : Act) (w : World), D.Pre i x w → (∀ j, waits B i j = true → knows Vs x w j) → Env (envOf ops B l Vs x i) n a →
    ∃ o s, ops[i]? = some o ∧ Vs[i]? = some s ∧ ∀ K : Act → World → Prop, (∀ v w', D.R i x w v w' → s.ok w' v → K (a.put o.dst v) w') →
      if Region.wanted o (yielded ops a.tmps) = true then Oper.wp P o a w K Q else K (a.put o.dst undef) w
section
variable {P : Program} {Q : Exit → Act → World → Prop} {l : List (Nat × Value)} {n : Nat} {a : Act} {w : World} {ops : Array Oper} {B : List Nat} {Vs : List Spec} {id : Nat}
structure InvX (ops : Array Oper) (a0 : Act) (n : Nat) (Vs : List Spec) (D : RoadX) (b : Nat → Bool) (a : Act) (w : World) : Prop where
  size : a.tmps.size = n
  defers : a.defers = []
  vals : ∃ x : Nat → Value, D.I b x w ∧ (∀ j, b j = true → knows Vs x w j) ∧ ∀ t, t < n → a.tmps.getD t undef = match lastW ops b t with
    | some j => valOf Vs x j
    | none => a0.tmps.getD t undef
/-- lst: the last operation stands apart: it waits for all others. -/
theorem free_genX (D : RoadX) (lst : Bool) {a0 : Act} (T : Bool × List (List Nat × List Nat)) (B : List Nat) (Vs : List Spec) (E : Env l n a0) (hm : P.follows .mixedOrders = true) (hT : rtab .any ops = T) (hw : waitsOk T.2 B = true) (hk : baseOk T.2 (List.range ops.size) = true)
    (hf : freeOk ops B = true) (hd : ((List.range ops.size).all fun i => fits n (dstOf ops i)) = true) (hD : D.Ok ops.size B Vs w.drew)
    (m : Nat) (hmm : m + (if lst then 1 else 0) = ops.size) (hwl : lst = true → ∀ i, i < m → waits B m i = true)
    (hs : ∀ i ∈ List.range m, FStepX P ops B l n Vs D Q i)
    (hend : ∀ (x : Nat → Value) (a : Act) (w' : World), (∃ b : Nat → Bool, (∀ j, j < m → b j = true) ∧ D.I b x w') → (∀ j, j < m → knows Vs x w' j) → Env (endTo ops l Vs x m) n a → if lst then lastOp P ops Q m a w' else Q .normal a w') : (Code.region id ops true).wp P Q a0 w := by
  have hlen : T.2.length = ops.size := by subst hT; simp [rtab]
  refine wp_region_last (S := fun _ => True) (ds := []) hm ?_
  show wpAnyLast P .any ops Q (fun _ => True) [] ops.size (Array.replicate ops.size false) a0 w.drew
  have key : ∀ i, i < ops.size → (∀ t ∈ slotsOf ops i, match srcOf ops B i t with
      | some j => ∀ k, k < ops.size → writes ops t k = true → k ≤ j ∨ k = i ∨ waits B k i = true
      | none => ∀ k, k < ops.size → writes ops t k = true → k = i ∨ waits B k i = true) ∧ (∀ t, dstOf ops i = some t → ∀ k, k < ops.size → writes ops t k = true → k ≤ i ∨ waits B k i = true) := by
    intro i hi
    have h1 := List.all_eq_true.1 hf i (List.mem_range.2 hi)
    rw [Bool.and_eq_true] at h1
    refine ⟨fun t ht => ?_, fun t ht k hkn hwk => ?_⟩
    · have h2 := List.all_eq_true.1 h1.1 t ht
      cases hsrc : srcOf ops B i t with
      | some j =>
        rw [hsrc] at h2
        intro k hkn hwk
        have h3 := List.all_eq_true.1 h2 k (List.mem_range.2 hkn)
        rw [hwk] at h3
        simp only [Bool.not_true, Bool.false_or, Bool.or_eq_true, Nat.ble_eq, Nat.beq_eq] at h3
        rcases h3 with (h3 | h3) | h3
        · exact .inl h3
        · exact .inr (.inl h3)
        · exact .inr (.inr h3)
      | none =>
        rw [hsrc] at h2
        intro k hkn hwk
        have h3 := List.all_eq_true.1 h2 k (List.mem_range.2 hkn)
        rw [hwk] at h3
        simp only [Bool.not_true, Bool.false_or, Bool.or_eq_true, Nat.beq_eq] at h3
        exact h3
    · have h2 := h1.2
      rw [ht] at h2
      have h3 := List.all_eq_true.1 h2 k (List.mem_range.2 hkn)
      rw [hwk] at h3
      simp only [Bool.not_true, Bool.false_or, Bool.or_eq_true, Nat.ble_eq] at h3
      exact h3
  have final : ∀ b a w', (∀ j, j < m → b j = true) → (∀ j, j < ops.size → m ≤ j → b j = false) → InvX ops a0 n Vs D b a w' → if lst then lastOp P ops Q m a w' else Q .normal a w' := by
    intro b a w' hall' hno I
    obtain ⟨x, hr, hx, hv⟩ := I.vals
    refine hend x a w' ⟨b, hall', hr⟩ (fun j hj => hx j (hall' j hj)) ⟨fun t v ht => ?_, I.size, I.defers⟩
    unfold endTo at ht
    rw [List.lookup_append] at ht
    have hfind : ∀ m, ((List.range m).reverse.filterMap fun i => (dstOf ops i).map fun t => (t, valOf Vs x i)).lookup t = ((List.range m).reverse.find? fun j => writes ops t j).map (valOf Vs x) := by
      intro m
      induction m with
      | zero => rfl
      | succ m ih =>
        rw [List.range_succ, List.reverse_append]
        simp only [List.reverse_singleton, List.singleton_append, List.filterMap_cons, List.find?_cons]
        cases hdm : dstOf ops m with
        | none => simp only [Option.map_none, writes, hdm]; rw [ih]; rfl
        | some d =>
          simp only [Option.map_some, List.lookup_cons, writes, hdm]
          by_cases e : t = d
          · subst e; simp
          · have h1 : (t == d) = false := by simpa using e
            have h2 : (some d == some t) = false := by simpa using fun c => e c.symm
            rw [h1, h2]
            exact ih
    rw [hfind] at ht
    have hmle : m ≤ ops.size := by omega
    by_cases htn : t < n
    · rw [hv t htn]
      have hlw : lastW ops b t = (List.range m).reverse.find? fun j => writes ops t j := by
        unfold lastW
        cases hff : (List.range m).reverse.find? fun j => writes ops t j with
        | none =>
          refine find_none (fun k hkn => ?_)
          by_cases hkm : k < m
          · have := List.find?_eq_none.1 hff k (by simp; exact hkm)
            simp at this
            simp [this]
          · simp [hno k hkn (by omega)]
        | some j =>
          obtain ⟨h1, h2, h3⟩ := find_some hff
          refine find_last (by omega) (by simp [h2, hall' j h1]) (fun k hkn hp => ?_)
          simp only [Bool.and_eq_true] at hp
          by_cases hkm : k < m
          · exact h3 k hkm hp.1
          · rw [hno k hkn (by omega)] at hp; cases hp.2
      rw [hlw]
      cases hff : (List.range m).reverse.find? fun j => writes ops t j with
      | none => rw [hff] at ht; simp at ht; exact E.get t v ht
      | some j => rw [hff] at ht; simp at ht; exact ht
    · have hff : ((List.range m).reverse.find? fun j => writes ops t j) = none := by
        refine find_none (fun k hkn => ?_)
        cases hwk : writes ops t k with
        | false => rfl
        | true =>
          have h4 := List.all_eq_true.1 hd k (List.mem_range.2 (by omega))
          have h5 : dstOf ops k = some t := by simpa [writes] using hwk
          rw [h5] at h4
          simp [fits] at h4
          omega
      rw [hff] at ht
      simp at ht
      have h6 := E.get t v ht
      have g1 : a0.tmps.getD t undef = undef := by simp [Array.getD_eq_getD_getElem?]; rw [Array.getElem?_eq_none (by rw [E.size]; omega)]; rfl
      have g2 : a.tmps.getD t undef = undef := by simp [Array.getD_eq_getD_getElem?]; rw [Array.getElem?_eq_none (by rw [I.size]; omega)]; rfl
      rw [g2, ← g1]; exact h6
  refine inv_ (List.range ops.size) (fun b a w' => if (lst && b m) = true then Q .normal a w' else InvX ops a0 n Vs D b a w') hT hw hk ?_ ?_ ?_ ?_
  · rw [hlen]
    simp only [List.length_range, beq_self_eq_true, Bool.and_true, beq_iff_eq]
    apply List.ext_getElem
    · simp [lof]
    · intro j h1 h2
      simp [lof] at h1 h2 ⊢
      exact h1
  · show if (lst && false) = true then _ else _
    rw [Bool.and_false, if_neg (by simp)]
    refine ⟨E.size, E.defers, fun _ => undef, hD.begin, fun j hj => (by cases hj), fun t _ => ?_⟩
    have : lastW ops (fun _ => false) t = none := find_none (fun k _ => by simp)
    rw [this]
  · intro i hi b a w' I hbi hpre hsuc
    have hi' : i < ops.size := List.mem_range.1 hi
    have hbm : (lst && b m) = false := by
      cases hlst : lst with
      | false => rfl
      | true =>
        rw [hlst] at hmm
        simp only [if_true] at hmm
        by_cases him : i = m
        · subst him; simp [hbi]
        · have := hsuc m (by simp [← hmm]; exact hwl hlst i (by omega))
          simp [this]
    rw [if_neg (by simp [hbm])] at I
    by_cases him : lst = true ∧ i = m
    · obtain ⟨hlst, rfl⟩ := him
      rw [hlst] at hmm
      simp only [if_true] at hmm
      have hall : ∀ j, j < i → b j = true := fun j hj => hpre j (by simp [← hmm]; exact ⟨by omega, hwl hlst j hj⟩)
      have hfin := final b a w' hall (fun j hj1 hj2 => by have : j = i := by omega
                                                          rw [this]; exact hbi) I
      rw [hlst, if_pos rfl] at hfin
      obtain ⟨o, ho⟩ : ∃ o, ops[i]? = some o := ⟨ops[i], by simp [hi']⟩
      refine ⟨o, ho, fun K hKs => ?_⟩
      have hK2 : ∀ a w, Q .normal a w → K a w := fun a w hq => hKs.out _ _ (by dsimp only; rw [if_pos (by simp [hlst, up_self])]; exact hq)
      unfold lastOp at hfin
      rw [ho] at hfin
      simp only at hfin
      split at hfin
      · rename_i hwant
        rw [if_pos hwant]
        exact Oper.wp_mono hK2 hfin
      · rename_i hwant
        rw [if_neg hwant]
        exact hK2 _ _ hfin
    have hil : i < m := by
      cases hlst : lst with
      | false => rw [hlst] at hmm; simp at hmm; omega
      | true => rw [hlst] at hmm; simp at hmm; have : i ≠ m := fun c => him ⟨hlst, c⟩; omega
    obtain ⟨x, hr, hx, hv⟩ := I.vals
    obtain ⟨k1, k2⟩ := key i hi'
    have hpre' : ∀ j, j < ops.size → waits B i j = true → b j = true := fun j hj hwj => hpre j (by simp [hj]; exact hwj)
    have hsuc' : ∀ k, k < ops.size → waits B k i = true → b k = false := fun k hkn hwk => hsuc k (by simp [hkn]; exact hwk)
    have hout : ∀ j, waits B i j = true → j < ops.size := by
      intro j hj
      have h1 := reach_bit hw (i + 1) i (by omega) (by omega) hj
      -- what an operation waits for is one of the region's
      have : ∀ fuel d, d < T.2.length → reachT T.2 j fuel d = true → j < ops.size := by
        intro fuel
        induction fuel with
        | zero => intro d _ h; simp [reachT] at h
        | succ fuel ih =>
          intro d hdl h
          unfold reachT at h
          cases hr : T.2[d]? with
          | none => rw [hr] at h; simp at h
          | some r =>
            rw [hr] at h
            simp only [List.any_eq_true] at h
            obtain ⟨m, hm1, hm2⟩ := h
            have hlt := (baseOk_row hk hr).2 m hm1
            rw [Bool.or_eq_true] at hm2
            rcases hm2 with hm2 | hm2
            · have : m = j := by simpa using hm2
              omega
            · exact ih m (by omega) hm2
      exact this (i + 1) i (by omega) h1
    have hE : Env (envOf ops B l Vs x i) n a := by
      refine ⟨fun t v ht => ?_, I.size, I.defers⟩
      rw [envOf_eq] at ht
      obtain ⟨h1, h2⟩ := lookup_filterMap (f := fun t => match srcOf ops B i t with
        | some j => some (valOf Vs x j)
        | none => l.lookup t) ht
      have h3 := k1 t h2
      by_cases htn : t < n
      · rw [hv t htn]
        cases hsrc : srcOf ops B i t with
        | some j =>
          rw [hsrc] at h1 h3
          obtain ⟨hj1, hj2, hj3⟩ := srcOf_lt hsrc
          have hbj := hpre' j (by omega) hj3
          have : lastW ops b t = some j := by
            refine find_last (by omega) (by simp [hj2, hbj]) (fun k hkn hp => ?_)
            simp only [Bool.and_eq_true] at hp
            rcases h3 k hkn hp.1 with h | h | h
            · exact h
            · subst h; rw [hbi] at hp; cases hp.2
            · rw [hsuc' k hkn h] at hp; cases hp.2
          rw [this]
          simpa using h1
        | none =>
          rw [hsrc] at h1 h3
          have : lastW ops b t = none := by
            refine find_none (fun k hkn => ?_)
            cases hwk : writes ops t k with
            | false => rfl
            | true =>
              rcases h3 k hkn hwk with h | h
              · subst h; rw [hbi]; rfl
              · rw [hsuc' k hkn h]; rfl
          rw [this]
          exact E.get t v h1
      · -- a slot outside the frame: nothing is written there
        have hnone : ∀ k, k < ops.size → writes ops t k = false := by
          intro k hkn
          cases hwk : writes ops t k with
          | false => rfl
          | true =>
            have h4 := List.all_eq_true.1 hd k (List.mem_range.2 hkn)
            have h5 : dstOf ops k = some t := by simpa [writes] using hwk
            rw [h5] at h4
            simp [fits] at h4
            omega
        have hsn : srcOf ops B i t = none := find_none (fun k hkn => by simp [hnone k (by omega)])
        rw [hsn] at h1
        have h6 := E.get t v h1
        have g1 : a0.tmps.getD t undef = undef := by simp [Array.getD_eq_getD_getElem?]; rw [Array.getElem?_eq_none (by rw [E.size]; omega)]; rfl
        have g2 : a.tmps.getD t undef = undef := by simp [Array.getD_eq_getD_getElem?]; rw [Array.getElem?_eq_none (by rw [I.size]; omega)]; rfl
        rw [g2, ← g1]; exact h6
    obtain ⟨o, s, ho, hso, hK⟩ := hs i (List.mem_range.2 hil) x a w' (hD.pre b i x w' hbi hsuc' (fun j hj => hpre' j (hout j hj) hj) hr) (fun j hj => hx j (hpre' j (hout j hj) hj)) hE
    refine ⟨o, ho, fun K hKs => ?_⟩
    refine hK K (fun v w2 hext hsv => ?_)
    refine hKs.out _ _ ?_
    dsimp only
    rw [if_neg (by rw [up_ne (by omega)]; simp [hbm])]
    refine ⟨by cases hod : o.dst <;> simp [Act.put, I.size], by cases hod : o.dst <;> simp [Act.put, I.defers], fun j => if j = i then v else x j, hD.step b i x _ v _ hbi hsuc' (fun j hj => hpre' j (hout j hj) hj) hr hext, fun j hj => ?_, fun t ht => ?_⟩
    · by_cases e : j = i
      · subst e
        unfold knows
        rw [hso]
        cases s with
        | exact u => trivial
        | rel p => simpa [Spec.ok] using hsv
      · have hb : b j = true := by rw [up_ne e] at hj; exact hj
        have h1 := hx j hb
        unfold knows at h1 ⊢
        cases hj2 : Vs[j]? with
        | none => trivial
        | some s2 =>
          cases s2 with
          | exact u => trivial
          | rel p => rw [hj2] at h1; simp only [if_neg e]; exact hD.keep i j p (fun c => e c.symm) (fun hjn => by cases hwj : waits B j i with | false => rfl | true => rw [hsuc' j hjn hwj] at hb; cases hb) hj2 x _ v _ _ (hD.pre b i x w' hbi hsuc' (fun j hj => hpre' j (hout j hj) hj) hr) hext h1
    · rw [put_get (by rw [I.size]; exact ht)]
      have hod : o.dst = dstOf ops i := by simp [dstOf, ho]
      have hval : ∀ j, j ≠ i → valOf Vs (fun j => if j = i then v else x j) j = valOf Vs x j := by
        intro j e
        unfold valOf
        simp only [if_neg e]
      by_cases e : o.dst = some t
      · rw [if_pos e]
        have hwi : writes ops t i = true := by simp [writes, ← hod, e]
        have : lastW ops (up b i) t = some i := by
          refine find_last hi' (by simp [hwi, up_self]) (fun k hkn hp => ?_)
          simp only [Bool.and_eq_true] at hp
          rcases k2 t (by rw [← hod]; exact e) k hkn hp.1 with h | h
          · exact h
          · have e2 : k ≠ i := fun c => by
              subst c
              have hr := reach_bit hw (k + 1) k (by omega) (by omega) h
              -- none waits for itself
              have : ∀ fuel d, d < T.2.length → d ≤ k → reachT T.2 k fuel d = true → False := by
                intro fuel
                induction fuel with
                | zero => intro d _ _ h; simp [reachT] at h
                | succ fuel ih =>
                  intro d hdl hdk h
                  unfold reachT at h
                  cases hr : T.2[d]? with
                  | none => rw [hr] at h; simp at h
                  | some r =>
                    rw [hr] at h
                    simp only [List.any_eq_true] at h
                    obtain ⟨m, hm1, hm2⟩ := h
                    have hlt := (baseOk_row hk hr).2 m hm1
                    rw [Bool.or_eq_true] at hm2
                    rcases hm2 with hm2 | hm2
                    · have : m = k := by simpa using hm2
                      omega
                    · exact ih m (by omega) (by omega) hm2
              exact this _ _ (by omega) (Nat.le_refl _) hr
            rw [up_ne e2] at hp
            rw [hsuc' k hkn h] at hp
            cases hp.2
        rw [this]
        show v = valOf Vs _ i
        unfold valOf
        rw [hso]
        cases s with
        | exact u => simpa [Spec.ok] using hsv
        | rel p => simp
      · rw [if_neg e, hv t ht]
        have : lastW ops (up b i) t = lastW ops b t := by
          unfold lastW
          congr 1
          funext k
          by_cases ek : k = i
          · subst ek
            have : writes ops t k = false := by
              cases h : writes ops t k with
              | false => rfl
              | true => exact absurd (by simpa [writes, ← hod] using h) e
            simp [this]
          · rw [up_ne ek]
        rw [this]
        cases hlw : lastW ops b t with
        | none => rfl
        | some j =>
          have e2 : j ≠ i := fun c => by
            subst c
            have := (find_some hlw).2.1
            rw [hbi] at this
            simp at this
          exact (hval j e2).symm
  · intro b a w' hall I
    have hall' : ∀ j, j < ops.size → b j = true := fun j hj => hall j (by simp [hj])
    cases hlst : lst with
    | false =>
      rw [hlst, Bool.false_and, if_neg (by simp)] at I
      rw [hlst] at hmm
      simp at hmm
      have := final b a w' (fun j hj => hall' j (by omega)) (fun j h1 h2 => by omega) I
      rw [hlst] at this
      exact this
    | true =>
      rw [hlst] at hmm
      simp at hmm
      rw [hlst, Bool.true_and, hall' m (by omega), if_pos rfl] at I
      exact I
theorem free_regX {a0 : Act} (D : RoadX) (is : List Nat) (E : Env l n a0) (hm : P.follows .mixedOrders = true) (hT : tabOk ops B n = true) (his : is = List.range ops.size) (hD : D.Ok ops.size B Vs w.drew)
    (hs : AllF (FStepX P ops B l n Vs D Q) is)
    (hend : ∀ (x : Nat → Value) (a : Act) (w' : World), (∃ b : Nat → Bool, (∀ j, j < ops.size → b j = true) ∧ D.I b x w') → (∀ j, j < ops.size → knows Vs x w' j) → Env (endTo ops l Vs x ops.size) n a → Q .normal a w') : (Code.region id ops true).wp P Q a0 w := by
  subst his
  simp only [tabOk, Bool.and_eq_true] at hT
  exact free_genX D false _ B Vs E hm rfl hT.1.1.1 hT.1.1.2 hT.1.2 hT.2 hD ops.size (by simp) (by simp) (AllF.mem hs) fun x a w' h1 h2 h3 => by rw [if_neg (by simp)]; exact hend x a w' h1 h2 h3
end
end Go.Rill
end
section
namespace Go.Rill
set_option linter.unusedVariables false
set_option linter.unusedSimpArgs false
open Go.Proofs.YtnebjbgcibjohaaW.PrintLast Go.RowKit
/-- c: the call; a: the block's making; s: the store; v: the tuple's move; x: its first part. -/
structure CX (α : Type) where
  c : Nat
  a : Nat
  s : Nat
  v : Nat
  x : Nat
  J : List Ent
  e : Value
  cells : α → Array Value
  outs : α → List Ent
  p : α → Prop
  z : Array Value
  T : TypeId
variable {α : Type}
def CX.val (K : CX α) (y : α) : Value := .tuple #[.agg (K.cells y), K.e]
def CX.put (K : CX α) (bs : Bool) (y : α) : Array Value := if bs then K.cells y else K.z
def CX.I (K : CX α) (w0 : World) (b : Nat → Bool) (x : Nat → Value) (w : World) : Prop :=
  (b K.v = true → x K.v = x K.c) ∧ (b K.x = true → ∃ u, x K.c = .tuple #[x K.x, u]) ∧
  ((b K.c = false ∧ Ext w0 w ∧ (b K.a = true → ∃ g, x K.a = .pointer (some ⟨g, 0, none⟩) ∧ w0.heap.size ≤ g ∧ w.heap[g]? = some (.cells K.z K.T))) ∨
  (b K.c = true ∧ ∃ y, x K.c = K.val y ∧ K.p y ∧ (∀ q, feet (K.outs y) q → feet K.J q ∨ w0.heap.size ≤ q) ∧ Has w (K.outs y) ∧ Ch (feet K.J) w0 w ∧ (b K.a = true → ∃ g, x K.a = .pointer (some ⟨g, 0, none⟩) ∧ w0.heap.size ≤ g ∧ ¬ feet (K.outs y) g ∧ w.heap[g]? = some (.cells (K.put (b K.s) y) K.T))))
def callX (K : CX α) (N : Nat) (B : List Nat) (w0 : World) : RoadX where
  Pre i x w := ∃ b : Nat → Bool, b i = false ∧ (∀ j, j < N → waits B j i = true → b j = false) ∧ (∀ j, waits B i j = true → b j = true) ∧ K.I w0 b x w
  R i x w v w' := if i = K.c then ∃ y, v = K.val y ∧ K.p y ∧ (∀ q, feet (K.outs y) q → feet K.J q ∨ w.heap.size ≤ q) ∧ Has w' (K.outs y) ∧ Ch (feet K.J) w w'
    else if i = K.a then v = .pointer (some ⟨w.heap.size, 0, none⟩) ∧ w' = w.alloc (.cells K.z K.T)
    else if i = K.s then ∃ g y, x K.a = .pointer (some ⟨g, 0, none⟩) ∧ x K.c = K.val y ∧ w' = w.setRow g (K.cells y)
    else Ext w w' ∧ (i = K.v → v = x K.c) ∧ (i = K.x → ∃ u, x K.c = .tuple #[v, u])
  I b x w := K.I w0 b x w
theorem callX_R (K : CX α) (N : Nat) (B : List Nat) (w0 : World) (i : Nat) (x : Nat → Value) (w : World) (v : Value) (w' : World) : (callX K N B w0).R i x w v w' = (if i = K.c then ∃ y, v = K.val y ∧ K.p y ∧ (∀ q, feet (K.outs y) q → feet K.J q ∨ w.heap.size ≤ q) ∧ Has w' (K.outs y) ∧ Ch (feet K.J) w w'
    else if i = K.a then v = .pointer (some ⟨w.heap.size, 0, none⟩) ∧ w' = w.alloc (.cells K.z K.T)
    else if i = K.s then ∃ g y, x K.a = .pointer (some ⟨g, 0, none⟩) ∧ x K.c = K.val y ∧ w' = w.setRow g (K.cells y)
    else Ext w w' ∧ (i = K.v → v = x K.c) ∧ (i = K.x → ∃ u, x K.c = .tuple #[v, u])) := rfl
/-- Who waits for whom. -/
def cxw (c a s v x N : Nat) (B : List Nat) : Bool :=
  waits B s c && waits B s a && waits B v c && waits B x c && waits B x v && waits B s x && Nat.blt s N && Nat.blt v N && Nat.blt x N && [c, a, s, v, x].Nodup
def CX.waitsOk (K : CX α) (N : Nat) (B : List Nat) : Bool := cxw K.c K.a K.s K.v K.x N B
def trivOk : List Spec → Prop
  | [] => True
  | .exact _ :: r => trivOk r
  | .rel p :: r => (∀ w v, p w v) ∧ trivOk r
theorem trivOk.get : ∀ {Vs : List Spec} {j : Nat} {p : World → Value → Prop}, trivOk Vs → Vs[j]? = some (.rel p) → ∀ w v, p w v
  | [], _, _, _, h => by simp at h
  | .exact _ :: r, 0, _, _, h => by simp at h
  | .rel p :: r, 0, q, h, hj => by
    simp only [List.getElem?_cons_zero, Option.some.injEq, Spec.rel.injEq] at hj
    subst hj
    exact h.1
  | .exact _ :: r, j + 1, _, h, hj => trivOk.get (j := j) (show trivOk r from h) (by simpa using hj)
  | .rel _ :: r, j + 1, _, h, hj => trivOk.get (j := j) h.2 (by simpa using hj)
theorem CX.val_inj {K : CX α} {y y' : α} (h : K.val y = K.val y') : K.cells y = K.cells y' := by
  simpa [CX.val] using h
section
variable {K : CX α} {N : Nat} {B : List Nat} {Vs : List Spec} {w0 w w' : World}
theorem callX_ok (hB : K.waitsOk N B = true) (hJ : ∀ q, feet K.J q → q < w0.heap.size) (hV : trivOk Vs) : (callX K N B w0).Ok N B Vs w0 := by
  simp only [CX.waitsOk, cxw, Bool.and_eq_true, Nat.blt_eq, decide_eq_true_eq, List.nodup_cons, List.mem_cons, List.not_mem_nil, or_false, not_or] at hB
  obtain ⟨⟨⟨⟨⟨⟨⟨⟨⟨w1, w2⟩, w3⟩, w4⟩, w5⟩, w6⟩, n1⟩, n2⟩, n3⟩, ⟨d1, d2, d3, d4⟩, ⟨d5, d6, d7⟩, ⟨d8, d9⟩, d10, _⟩ := hB
  refine ⟨⟨fun h => Bool.noConfusion h, fun h => Bool.noConfusion h, .inl ⟨rfl, Ext.refl _, fun h => Bool.noConfusion h⟩⟩, fun b i x w h1 h2 h3 h4 => ⟨b, h1, h2, h3, h4⟩, ?_, fun i j p _ _ hj x w u w' v _ _ _ => hV.get hj w' v⟩
  intro b i x w v w' hb hs hd hI hR
  obtain ⟨lv, lx, hI⟩ := hI
  have un : ∀ j, j ≠ i → up b i j = b j := fun j h => by unfold up; rw [if_neg h]
  have xn : ∀ j, j ≠ i → (fun j => if j = i then v else x j) j = x j := fun j h => if_neg h
  have xs : (fun j => if j = i then v else x j) i = v := if_pos rfl
  show K.I w0 (up b i) (fun j => if j = i then v else x j) w'
  by_cases ic : i = K.c
  · subst ic
    have hR : ∃ y, v = K.val y ∧ K.p y ∧ (∀ q, feet (K.outs y) q → feet K.J q ∨ w.heap.size ≤ q) ∧ Has w' (K.outs y) ∧ Ch (feet K.J) w w' := by simpa [callX] using hR
    obtain ⟨y, r1, r2, r3, r4, r5⟩ := hR
    have bs : b K.s = false := hs _ n1 w1
    have bv : b K.v = false := hs _ n2 w3
    have bx : b K.x = false := hs _ n3 w4
    refine ⟨fun h => ?_, fun h => ?_, .inr ⟨up_self .., y, xs.trans r1, r2, ?_⟩⟩
    · rw [un _ (Ne.symm d3), bv] at h; cases h
    · rw [un _ (Ne.symm d4), bx] at h; cases h
    · rcases hI with ⟨_, hx, ha⟩ | ⟨hc, _⟩
      · refine ⟨fun q hq => (r3 q hq).imp id fun h => Nat.le_trans hx.size h, r4, (Ch.of_ext hx).trans r5, fun h => ?_⟩
        rw [un _ (Ne.symm d1)] at h
        obtain ⟨g, a1, a2, a3⟩ := ha h
        have hg : g < w.heap.size := (Array.getElem?_eq_some_iff.1 a3).1
        refine ⟨g, (xn _ (Ne.symm d1)).trans a1, a2, fun c => ?_, ?_⟩
        · rcases r3 g c with c | c
          · exact Nat.not_le_of_lt (hJ g c) a2
          · exact Nat.not_le_of_lt hg c
        · rw [un _ (Ne.symm d2), bs]
          show w'.heap[g]? = some (.cells K.z K.T)
          rw [r5.held.block g hg (fun c => Nat.not_le_of_lt (hJ g c) a2)]
          exact a3
      · rw [hb] at hc; cases hc
  by_cases ia : i = K.a
  · subst ia
    have hR : v = .pointer (some ⟨w.heap.size, 0, none⟩) ∧ w' = w.alloc (.cells K.z K.T) := by simpa [callX, ic] using hR
    obtain ⟨rfl, rfl⟩ := hR
    have bs : b K.s = false := hs _ n1 w2
    have hx2 := Ext.alloc w (.cells K.z K.T)
    have hnew : (w.alloc (.cells K.z K.T)).heap[w.heap.size]? = some (.cells K.z K.T) := by show (w.heap.push _)[w.heap.size]? = _; simp
    refine ⟨fun h => ?_, fun h => ?_, ?_⟩
    · rw [un _ (Ne.symm d6)] at h; rw [xn _ (Ne.symm d6), xn _ d1]; exact lv h
    · rw [un _ (Ne.symm d7)] at h; rw [xn _ (Ne.symm d7), xn _ d1]; exact lx h
    · rcases hI with ⟨hc, hx, ha⟩ | ⟨hc, y, a1, a2, a3, a4, a5, a6⟩
      · exact .inl ⟨(un _ d1).trans hc, hx.trans hx2, fun _ => ⟨_, xs, hx.size, hnew⟩⟩
      · refine .inr ⟨(un _ d1).trans hc, y, (xn _ d1).trans a1, a2, a3, a4.ext hx2, a5.trans (Ch.of_ext hx2), fun _ => ⟨_, xs, a5.held.size, fun ⟨e, he, hg⟩ => Nat.lt_irrefl _ (a4.lt e he _ hg), ?_⟩⟩
        rw [un _ (Ne.symm d5), bs]
        exact hnew
  by_cases is : i = K.s
  · subst is
    have hR : ∃ g y, x K.a = .pointer (some ⟨g, 0, none⟩) ∧ x K.c = K.val y ∧ w' = w.setRow g (K.cells y) := by simpa [callX, ic, ia] using hR
    obtain ⟨g, y, r1, r2, rfl⟩ := hR
    rcases hI with ⟨hc, _⟩ | ⟨hc, y', a1, a2, a3, a4, a5, a6⟩
    · rw [hd _ w1] at hc; cases hc
    obtain ⟨g', b1, b2, b3, b4⟩ := a6 (hd _ w2)
    have e1 : g = g' := by rw [r1] at b1; simpa using b1
    subst e1
    have e2 : K.cells y = K.cells y' := CX.val_inj (r2.symm.trans a1)
    have hch : Ch (fun q => q = g) w (w.setRow g (K.cells y)) := Ch.setRow rfl
    refine ⟨fun h => ?_, fun h => ?_, .inr ⟨(un _ d2).trans hc, y', (xn _ d2).trans a1, a2, a3, a4.held hch.held fun q hq e => b3 (e ▸ hq), ((a5.mono fun q _ h => Or.inl h : Ch (fun q => feet K.J q ∨ q = g) w0 w).trans (hch.mono fun q _ h => Or.inr h)).mono fun q hq h => h.elim id fun e => ?_, fun h => ⟨g, (xn _ d5).trans r1, b2, b3, ?_⟩⟩⟩
    · rw [un _ (Ne.symm d8)] at h; rw [xn _ (Ne.symm d8), xn _ d2]; exact lv h
    · rw [un _ (Ne.symm d9)] at h; rw [xn _ (Ne.symm d9), xn _ d2]; exact lx h
    · subst e
      exact absurd hq (Nat.not_lt_of_le b2)
    · have hm : Has w [.blk g (.cells (K.put (b K.s) y') K.T)] := ⟨fun e he => by simp at he; subst he; exact b4, fun e he q hq => by
        simp at he; subst he
        rw [List.mem_singleton.1 hq]
        exact (Array.getElem?_eq_some_iff.1 b4).1, List.pairwise_singleton _ _⟩
      have h2 := (hm.mem.set (i := 0) (cs' := K.cells y) rfl).has.ent 0 rfl
      rw [up_self]
      show (w.setRow g (K.cells y)).heap[g]? = some (.cells (K.cells y') K.T)
      rw [← e2]
      exact h2
  · have hR : Ext w w' ∧ (i = K.v → v = x K.c) ∧ (i = K.x → ∃ u, x K.c = .tuple #[v, u]) := by simpa [callX, ic, ia, is] using hR
    obtain ⟨hx2, r1, r2⟩ := hR
    refine ⟨fun h => ?_, fun h => ?_, ?_⟩
    · rw [xn _ (fun c => ic c.symm)]
      by_cases iv : i = K.v
      · subst iv; rw [xs]; exact r1 rfl
      · rw [un _ (fun c => iv c.symm)] at h; rw [xn _ (fun c => iv c.symm)]; exact lv h
    · rw [xn _ (fun c => ic c.symm)]
      by_cases ix : i = K.x
      · subst ix; rw [xs]; exact r2 rfl
      · rw [un _ (fun c => ix c.symm)] at h; rw [xn _ (fun c => ix c.symm)]; exact lx h
    · rw [un _ (fun c => ic c.symm), un _ (fun c => ia c.symm), un _ (fun c => is c.symm), xn _ (fun c => ic c.symm), xn _ (fun c => ia c.symm)]
      rcases hI with ⟨hc, hx, ha⟩ | ⟨hc, y, a1, a2, a3, a4, a5, a6⟩
      · exact .inl ⟨hc, hx.trans hx2, fun h => (ha h).imp fun g h => ⟨h.1, h.2.1, (hx2.block g (Array.getElem?_eq_some_iff.1 h.2.2).1).trans h.2.2⟩⟩
      · exact .inr ⟨hc, y, a1, a2, a3, a4.ext hx2, a5.trans (Ch.of_ext hx2), fun h => (a6 h).imp fun g h => ⟨h.1, h.2.1, h.2.2.1, (hx2.block g (Array.getElem?_eq_some_iff.1 h.2.2.2).1).trans h.2.2.2⟩⟩
end
section
variable {P : Program} {Q : Exit → Act → World → Prop} {l : List (Nat × Value)} {n : Nat} {w wb : World} {ops : Array Oper} {B : List Nat} {Vs : List Spec} {i N : Nat} {O : Nat → Prop} {R0 : List Ent} {Φ : World → Prop} {K : CX α}
theorem CX.I.ch {b : Nat → Bool} {x : Nat → Value} {w0 w' : World} (h : K.I w0 b x w') : Ch (feet K.J) w0 w' := by
  rcases h.2.2 with ⟨_, hx, _⟩ | ⟨_, y, _, _, _, _, hc, _⟩
  · exact Ch.of_ext hx
  · exact hc
theorem CX.mid (M : Mem wb O (K.J ++ R0) Φ w) {x : Nat → Value} {w' : World} (hp : (callX K N B w.drew).Pre i x w') : Mem wb O R0 Φ w' := by
  obtain ⟨b, _, _, _, hI⟩ := hp
  exact M.call (outs := []) ((Ch.of_ext (Ext.drew w)).trans hI.ch) (Has.nil _) fun g hg => (feet_nil hg).elim
/-- Another operation than these. -/
def CX.other (K : CX α) (i : Nat) : Bool := !Nat.beq i K.c && !Nat.beq i K.a && !Nat.beq i K.s && !Nat.beq i K.v && !Nat.beq i K.x
theorem CX.other_R (hi : K.other i = true) {x : Nat → Value} {w1 w' : World} {v : Value} (h : Ext w1 w') : (callX K N B w).R i x w1 v w' := by
  simp only [CX.other, Bool.and_eq_true, Bool.not_eq_true'] at hi
  obtain ⟨⟨⟨⟨h1, h2⟩, h3⟩, h4⟩, h5⟩ := hi
  have := Nat.ne_of_beq_eq_false h1
  have := Nat.ne_of_beq_eq_false h2
  have := Nat.ne_of_beq_eq_false h3
  rw [callX_R, if_neg (by assumption), if_neg (by assumption), if_neg (by assumption)]
  exact ⟨h, fun c => absurd c (Nat.ne_of_beq_eq_false h4), fun c => absurd c (Nat.ne_of_beq_eq_false h5)⟩
theorem gx_val {o : Oper} {s : Spec} (ho : ops[i]? = some o) (hs : Vs[i]? = some s) (hi : K.other i = true) (M : Mem wb O (K.J ++ R0) Φ w)
    (h : ∀ (x : Nat → Value) (w' : World), Mem wb O R0 Φ w' → ∃ v, covers (envOf ops B l Vs x i) o = true ∧ guardIn ops (envOf ops B l Vs x i) o = true ∧ wantedL ops (envOf ops B l Vs x i) o = true ∧
      (execOp (evL (envOf ops B l Vs x i)) o).run P w' = .ok (.value v) w' ∧ s.ok w' v) : FStepX P ops B l n Vs (callX K N B w.drew) Q i := by
  intro x a w' hx hk E
  obtain ⟨v, h1, h2, h3, h4, h6⟩ := h x w' (K.mid M hx)
  refine ⟨o, s, ho, hs, fun K' hK => ?_⟩
  rw [E.wanted h2, if_pos h3]
  unfold Oper.wp
  rw [E.exec h1, h4]
  exact hK v w' (CX.other_R hi (Ext.refl _)) h6
theorem gx_ext {o : Oper} {s : Spec} (ho : ops[i]? = some o) (hs : Vs[i]? = some s) (hi : K.other i = true) (M : Mem wb O (K.J ++ R0) Φ w)
    (h : ∀ (x : Nat → Value) (w' : World), Mem wb O R0 Φ w' → ∃ f args, covers (envOf ops B l Vs x i) o = true ∧ guardIn ops (envOf ops B l Vs x i) o = true ∧ wantedL ops (envOf ops B l Vs x i) o = true ∧
      (execOp (evL (envOf ops B l Vs x i)) o).run P w' = .ok (.enter f args) w' ∧ ExtCall P f args w' s) : FStepX P ops B l n Vs (callX K N B w.drew) Q i := by
  intro x a w' hx hk E
  obtain ⟨f, args, h1, h2, h3, h4, h5⟩ := h x w' (K.mid M hx)
  refine ⟨o, s, ho, hs, fun K' hK => ?_⟩
  rw [E.wanted h2, if_pos h3]
  unfold Oper.wp
  rw [E.exec h1, h4, Oper.upon_enter]
  refine h5.mono ?_
  rintro e w'' ⟨v, rfl, hx2, hv⟩
  exact hK v w'' (CX.other_R hi hx2) hv
/-- The call. -/
theorem gx_call {o : Oper} (ho : ops[i]? = some o) (hs : Vs[i]? = some (.rel fun _ _ => True)) (hi : K.c = i) (M : Mem wb O (K.J ++ R0) Φ w)
    (h : ∀ (x : Nat → Value) (w' : World), Mem wb O R0 Φ w' → Has w' K.J → ∃ f args, covers (envOf ops B l Vs x i) o = true ∧ guardIn ops (envOf ops B l Vs x i) o = true ∧ wantedL ops (envOf ops B l Vs x i) o = true ∧
      (execOp (evL (envOf ops B l Vs x i)) o).run P w' = .ok (.enter f args.toArray) w' ∧ Does P f args w' K.J K.val K.outs K.p) : FStepX P ops B l n Vs (callX K N B w.drew) Q i := by
  intro x a w' hx hk E
  have hM := K.mid M hx
  obtain ⟨b, hb, _, _, hI⟩ := hx
  have hH : Has w' K.J := by
    rcases hI.2.2 with ⟨_, hx, _⟩ | ⟨hc, _⟩
    · exact ((M.has.sub (List.sublist_append_left _ _)).ext (Ext.drew w)).ext hx
    · rw [hi, hb] at hc; cases hc
  obtain ⟨f, args, h1, h2, h3, h4, h5⟩ := h x w' hM hH
  refine ⟨o, _, ho, hs, fun K' hK => ?_⟩
  rw [E.wanted h2, if_pos h3]
  unfold Oper.wp
  rw [E.exec h1, h4, Oper.upon_enter]
  have h5 : Calls P f args.toArray w' _ := h5
  refine h5.mono ?_
  rintro e w'' ⟨y, rfl, c1, c2, c3, c4⟩
  refine hK _ w'' ?_ trivial
  rw [callX_R, if_pos hi.symm]
  exact ⟨y, rfl, c4, c3, c2, c1⟩
theorem gx_alloc {o : Oper} (ho : ops[i]? = some o) (hs : Vs[i]? = some (.rel fun _ _ => True)) (hi : K.a = i) (hc : Nat.beq i K.c = false) (h : ∀ (x : Nat → Value) (w' : World), covers (envOf ops B l Vs x i) o = true ∧ guardIn ops (envOf ops B l Vs x i) o = true ∧ wantedL ops (envOf ops B l Vs x i) o = true ∧
      (execOp (evL (envOf ops B l Vs x i)) o).run P w' = .ok (.value (.pointer (some ⟨w'.heap.size, 0, none⟩))) (w'.alloc (.cells K.z K.T))) : FStepX P ops B l n Vs (callX K N B w.drew) Q i := by
  intro x a w' hx hk E
  obtain ⟨h1, h2, h3, h4⟩ := h x w'
  refine ⟨o, _, ho, hs, fun K' hK => ?_⟩
  rw [E.wanted h2, if_pos h3]
  unfold Oper.wp
  rw [E.exec h1, h4]
  refine hK _ _ ?_ trivial
  rw [callX_R, if_neg (Nat.ne_of_beq_eq_false hc), if_pos hi.symm]
  exact ⟨rfl, rfl⟩
/-- What is known behind the call. -/
theorem CX.I.y {b : Nat → Bool} {x : Nat → Value} {w0 w' : World} (h : K.I w0 b x w') (hc : b K.c = true) : ∃ y, x K.c = K.val y ∧ Has w' (K.outs y) ∧ (b K.a = true → ∃ g, x K.a = .pointer (some ⟨g, 0, none⟩) ∧ w'.heap[g]? = some (.cells (K.put (b K.s) y) K.T)) := by
  rcases h.2.2 with ⟨hn, _⟩ | ⟨_, y, a1, _, _, a4, _, a6⟩
  · rw [hn] at hc; cases hc
  · exact ⟨y, a1, a4, fun h => (a6 h).imp fun g h => ⟨h.1, h.2.2.2⟩⟩
theorem gx_set {o : Oper} (ho : ops[i]? = some o) (hs : Vs[i]? = some (.exact undef)) (hi : K.s = i) (hB : K.waitsOk N B = true)
    (h : ∀ (x : Nat → Value) (w' : World) (g : Nat) (y : α), x K.a = .pointer (some ⟨g, 0, none⟩) → x K.x = .agg (K.cells y) → Has w' (K.outs y) → w'.heap[g]? = some (.cells K.z K.T) → covers (envOf ops B l Vs x i) o = true ∧ guardIn ops (envOf ops B l Vs x i) o = true ∧ wantedL ops (envOf ops B l Vs x i) o = true ∧
      (execOp (evL (envOf ops B l Vs x i)) o).run P w' = .ok .skip (w'.setRow g (K.cells y))) : FStepX P ops B l n Vs (callX K N B w.drew) Q i := by
  intro x a w' hx hk E
  obtain ⟨b, hb, _, hd, hI⟩ := hx
  simp only [CX.waitsOk, cxw, Bool.and_eq_true, Nat.blt_eq, decide_eq_true_eq, List.nodup_cons, List.mem_cons, List.not_mem_nil, or_false, not_or] at hB
  obtain ⟨⟨⟨⟨⟨⟨⟨⟨⟨w1, w2⟩, w3⟩, w4⟩, w5⟩, w6⟩, n1⟩, n2⟩, n3⟩, ⟨d1, d2, d3, d4⟩, ⟨d5, d6, d7⟩, ⟨d8, d9⟩, d10, _⟩ := hB
  subst hi
  obtain ⟨y, a1, a2, a3⟩ := hI.y (hd _ w1)
  obtain ⟨g, b1, b2⟩ := a3 (hd _ w2)
  rw [hb] at b2
  obtain ⟨u, c1⟩ := hI.2.1 (hd _ w6)
  have c2 : x K.x = .agg (K.cells y) := by
    rw [a1] at c1
    have := c1
    simp [CX.val] at this
    exact this.1.symm
  obtain ⟨h1, h2, h3, h4⟩ := h x w' g y b1 c2 a2 b2
  refine ⟨o, _, ho, hs, fun K' hK => ?_⟩
  rw [E.wanted h2, if_pos h3]
  unfold Oper.wp
  rw [E.exec h1, h4, Oper.upon_skip]
  refine hK undef _ ?_ rfl
  rw [callX_R, if_neg (Ne.symm d2), if_neg (Ne.symm d5), if_pos rfl]
  exact ⟨g, y, b1, a1, rfl⟩
/-- The tuple is moved. -/
theorem gx_mv {o : Oper} (ho : ops[i]? = some o) (hs : Vs[i]? = some (.rel fun _ _ => True)) (hi : K.v = i) (hB : K.waitsOk N B = true)
    (h : ∀ (x : Nat → Value) (w' : World), covers (envOf ops B l Vs x i) o = true ∧ guardIn ops (envOf ops B l Vs x i) o = true ∧ wantedL ops (envOf ops B l Vs x i) o = true ∧
      (∀ y, x K.c = K.val y → (execOp (evL (envOf ops B l Vs x i)) o).run P w' = .ok (.value (K.val y)) w')) : FStepX P ops B l n Vs (callX K N B w.drew) Q i := by
  intro x a w' hx hk E
  obtain ⟨b, hb, _, hd, hI⟩ := hx
  simp only [CX.waitsOk, cxw, Bool.and_eq_true, Nat.blt_eq, decide_eq_true_eq, List.nodup_cons, List.mem_cons, List.not_mem_nil, or_false, not_or] at hB
  obtain ⟨⟨⟨⟨⟨⟨⟨⟨⟨w1, w2⟩, w3⟩, w4⟩, w5⟩, w6⟩, n1⟩, n2⟩, n3⟩, ⟨d1, d2, d3, d4⟩, ⟨d5, d6, d7⟩, ⟨d8, d9⟩, d10, _⟩ := hB
  subst hi
  obtain ⟨y, a1, a2, a3⟩ := hI.y (hd _ w3)
  obtain ⟨h1, h2, h3, h4⟩ := h x w'
  refine ⟨o, _, ho, hs, fun K' hK => ?_⟩
  rw [E.wanted h2, if_pos h3]
  unfold Oper.wp
  rw [E.exec h1, h4 y a1]
  refine hK _ _ ?_ trivial
  rw [callX_R, if_neg (Ne.symm d3), if_neg (Ne.symm d6), if_neg (Ne.symm d8)]
  exact ⟨Ext.refl _, fun _ => a1.symm, fun c => absurd c d10⟩
/-- Its first part. -/
theorem gx_fst {o : Oper} (ho : ops[i]? = some o) (hs : Vs[i]? = some (.rel fun _ _ => True)) (hi : K.x = i) (hB : K.waitsOk N B = true)
    (h : ∀ (x : Nat → Value) (w' : World) (y : α), x K.v = K.val y → covers (envOf ops B l Vs x i) o = true ∧ guardIn ops (envOf ops B l Vs x i) o = true ∧ wantedL ops (envOf ops B l Vs x i) o = true ∧
      (execOp (evL (envOf ops B l Vs x i)) o).run P w' = .ok (.value (.agg (K.cells y))) w') : FStepX P ops B l n Vs (callX K N B w.drew) Q i := by
  intro x a w' hx hk E
  obtain ⟨b, hb, _, hd, hI⟩ := hx
  simp only [CX.waitsOk, cxw, Bool.and_eq_true, Nat.blt_eq, decide_eq_true_eq, List.nodup_cons, List.mem_cons, List.not_mem_nil, or_false, not_or] at hB
  obtain ⟨⟨⟨⟨⟨⟨⟨⟨⟨w1, w2⟩, w3⟩, w4⟩, w5⟩, w6⟩, n1⟩, n2⟩, n3⟩, ⟨d1, d2, d3, d4⟩, ⟨d5, d6, d7⟩, ⟨d8, d9⟩, d10, _⟩ := hB
  subst hi
  obtain ⟨y, a1, a2, a3⟩ := hI.y (hd _ w4)
  obtain ⟨h1, h2, h3, h4⟩ := h x w' y ((hI.1 (hd _ w5)).trans a1)
  refine ⟨o, _, ho, hs, fun K' hK => ?_⟩
  rw [E.wanted h2, if_pos h3]
  unfold Oper.wp
  rw [E.exec h1, h4]
  refine hK _ _ ?_ trivial
  rw [callX_R, if_neg (Ne.symm d4), if_neg (Ne.symm d7), if_neg (Ne.symm d9)]
  exact ⟨Ext.refl _, fun c => absurd c.symm d10, fun _ => ⟨_, a1⟩⟩
/-- Its other part. -/
theorem gx_snd {o : Oper} (ho : ops[i]? = some o) (hs : Vs[i]? = some (.exact K.e)) (hi : K.other i = true) (hw : (waits B i K.v && waits B i K.c) = true)
    (h : ∀ (x : Nat → Value) (w' : World) (y : α), x K.v = K.val y → covers (envOf ops B l Vs x i) o = true ∧ guardIn ops (envOf ops B l Vs x i) o = true ∧ wantedL ops (envOf ops B l Vs x i) o = true ∧
      (execOp (evL (envOf ops B l Vs x i)) o).run P w' = .ok (.value K.e) w') : FStepX P ops B l n Vs (callX K N B w.drew) Q i := by
  intro x a w' hx hk E
  obtain ⟨b, hb, _, hd, hI⟩ := hx
  rw [Bool.and_eq_true] at hw
  obtain ⟨y, a1, a2, a3⟩ := hI.y (hd _ hw.2)
  obtain ⟨h1, h2, h3, h4⟩ := h x w' y ((hI.1 (hd _ hw.1)).trans a1)
  refine ⟨o, _, ho, hs, fun K' hK => ?_⟩
  rw [E.wanted h2, if_pos h3]
  unfold Oper.wp
  rw [E.exec h1, h4]
  exact hK _ _ (CX.other_R hi (Ext.refl _)) rfl
/-- What the region leaves. -/
theorem Mem.behindX {b : Nat → Bool} {x : Nat → Value} {w' : World} (M : Mem wb O (K.J ++ R0) Φ w) (h : (callX K N B w.drew).I b x w') (hc : b K.c = true) (ha : b K.a = true) (hs : b K.s = true) : ∃ y g, x K.a = .pointer (some ⟨g, 0, none⟩) ∧ K.p y ∧ Mem wb O ((K.outs y ++ [.blk g (.cells (K.cells y) K.T)]) ++ R0) Φ w' := by
  have h : K.I w.drew b x w' := h
  rcases h.2.2 with ⟨hn, _⟩ | ⟨_, y, a1, a2, a3, a4, a5, a6⟩
  · rw [hn] at hc; cases hc
  obtain ⟨g, b1, b2, b3, b4⟩ := a6 ha
  rw [hs] at b4
  have b4 : w'.heap[g]? = some (.cells (K.cells y) K.T) := b4
  refine ⟨y, g, b1, a2, M.call ((Ch.of_ext (Ext.drew w)).trans a5) (a4.append ⟨fun e he => by simp at he; subst he; exact b4, fun e he q hq => ?_, List.pairwise_singleton _ _⟩ fun q hq hq' => ?_) fun q hq => ?_⟩
  · simp at he
    subst he
    rw [List.mem_singleton.1 hq]
    exact (Array.getElem?_eq_some_iff.1 b4).1
  · have := feet_one.1 hq'
    rw [List.mem_singleton.1 this] at hq
    exact b3 hq
  · rcases feet_app.1 hq with h | h
    · exact a3 q h
    · rw [List.mem_singleton.1 (feet_one.1 h)]
      exact .inr b2
end
end Go.Rill
end
section
namespace Go.Rill
set_option linter.unusedVariables false
set_option linter.unusedSimpArgs false
open Go.RowKit Go.ChangeShapes Go.WideShapes
section
variable {H : Type} {enc : TypeId × Value → H} {P : Program} {W : World} {base b0 : Nat} {spare : Nat → Bool} {held : Bool} {r : Reach} {t e : TypeId} {v : Value}
/-- Any numbers that are handed in read as numbers. -/
theorem ints_arg {d : DataW H} {p : List MemPlace} (ht : P.underlying t = some (.slice e)) (he : P.underlying e = some (.int .i64)) (hc : P.cellsOf e = 1) (hval : Value.okWide P W r b0 t v) (h : DataW.Trod enc P W base (fun _ => true) held t v d p) : ∃ l : List Int, Reads 1 W v l.length (ic l) := by
  have hval' := hval
  obtain ⟨a, len, cap, rfl⟩ := okWide_slice ht hval
  obtain ⟨fuel, hf⟩ := h
  rcases open_ints ht he hc hf with ⟨hcs, _⟩ | ⟨x, l, c, zs, hcs, _, hl, hm, hz, _, hcell, hwz⟩
  · simp [Value.cells] at hcs
    obtain ⟨rfl, rfl, rfl⟩ := hcs
    exact ⟨[], Reads.nil _ _⟩
  · simp [Value.cells] at hcs
    obtain ⟨rfl, rfl, rfl⟩ := hcs
    have hcl : Cell.ok P W r b0 t (.slice (some x) len cap) := by
      unfold Value.okWide at hval'
      rw [ht] at hval'
      simp only at hval'
      unfold Cell.okWide at hval'
      rw [ht] at hval'
      exact hval'
    unfold Cell.ok at hcl
    rw [ht] at hcl
    obtain ⟨_, _, _, hs, row, cells, hsh, _⟩ := hcl
    obtain ⟨g, off, spot⟩ := x
    have hs : spot = none := hs
    subst hs
    have hg : g < W.heap.size := by
      unfold World.shape? at hsh
      cases hh : W.heap[g]? with
      | none => rw [hh] at hsh; cases hsh
      | some o => exact (Array.getElem?_eq_some_iff.1 hh).1
    have hzl : zs.length = cap := by simpa using hz
    have hll : (zs.take len).length = len := by simp; omega
    refine ⟨zs.take len, by simp [ic], .inr ⟨g, off, cap, by rw [hll], by omega, hm, hg, fun j u hu => ?_⟩⟩
    unfold ic at hu
    rw [List.getElem?_map] at hu
    cases hj : (zs.take len)[j]? with
    | none => rw [hj] at hu; cases hu
    | some n =>
      rw [hj] at hu
      simp only [Option.map_some, Option.some.injEq] at hu
      have hjl := (List.getElem?_eq_some_iff.1 hj).1
      have hjz : j < zs.length := by simp at hjl; omega
      have hn : zs[j]? = some n := by
        rw [List.getElem?_take] at hj
        split at hj
        · exact hj
        · cases hj
      have := hcell j hjz
      rw [add_plain, List.getD_eq_getElem?_getD, hn] at this
      rw [this, ← hu]
      rfl
end
end Go.Rill
end
section
namespace Go.Rill
set_option linter.unusedVariables false
set_option linter.unusedSimpArgs false
open Go.RowKit
def ocs (l : List OpT) : List Value := (l.map OpT.cells).flatten
def OOk (l : List OpT) : Prop := ∀ r ∈ l, r.r.Ok
@[simp] theorem ocs_nil : ocs [] = [] := rfl
theorem OOk.sub {a b : List OpT} (h : OOk b) (s : ∀ r ∈ a, r ∈ b) : OOk a := fun r hr => h r (s r hr)
theorem OOk.take {l : List OpT} (h : OOk l) (k : Nat) : OOk (l.take k) := fun r hr => h r (List.mem_of_mem_take hr)
theorem OOk.drop {l : List OpT} (h : OOk l) (k : Nat) : OOk (l.drop k) := fun r hr => h r (List.mem_of_mem_drop hr)
theorem OOk.set {l : List OpT} (h : OOk l) {k : Nat} {r : OpT} (hr : r.r.Ok) : OOk (l.set k r) := fun x hx => by
  rcases List.mem_or_eq_of_mem_set hx with h1 | rfl
  · exact h x h1
  · exact hr
theorem OOk.get {l : List OpT} (h : OOk l) {k : Nat} (hk : k < l.length) : (l[k]).r.Ok := h _ (List.getElem_mem hk)
/-- A slice of operations, each with its bytes and numbers apart from these blocks. -/
def Ops (w : World) (F : Nat → Prop) (v : Value) (l : List OpT) : Prop := Reads 141 w v l.length (ocs l) ∧ ∀ o ∈ l, FarB w F o.dv o.dl ∧ FarI w F o.lv o.ll
theorem Ops.held {w w' : World} {F : Nat → Prop} {v : Value} {l : List OpT} (h : Ops w F v l) (H : Held F w w') (hv : ∀ g, v.ownBlock = some g → ¬ F g) : Ops w' F v l := ⟨Reads.held h.1 H hv, fun o ho => ⟨(h.2 o ho).1.held H, (h.2 o ho).2.held H⟩⟩
theorem FarB.slice {w : World} {F : Nat → Prop} {v : Value} {l : List UInt8} (h : FarB w F v l) : ∃ b c, v = .slice b l.length c := by
  rcases h with ⟨h, _⟩ | ⟨a, rfl, rfl⟩
  · exact Reads.slice h
  · exact ⟨_, _, rfl⟩
theorem FarI.slice {w : World} {F : Nat → Prop} {v : Value} {l : List Int} (h : FarI w F v l) : ∃ b c, v = .slice b l.length c := by
  rcases h with ⟨h, _⟩ | ⟨a, rfl, rfl⟩
  · exact Reads.slice h
  · exact ⟨_, _, rfl⟩
/-- What came in is old: apart from all that the call makes. -/
theorem Ops.old {w : World} {v : Value} {l : List OpT} (h : Reads 141 w v l.length (ocs l)) (hi : ∀ o ∈ l, (((Bytes w o.dv o.dl ∧ ∀ g, o.dv.ownBlock = some g → g < w.heap.size) ∨ ∃ a, o.dv = .slice (some a) 0 0 ∧ o.dl = []) ∧ ((Reads 1 w o.lv o.ll.length (ic o.ll) ∧ ∀ g, o.lv.ownBlock = some g → g < w.heap.size) ∨ ∃ a, o.lv = .slice (some a) 0 0 ∧ o.ll = []))) : Ops w (fun g => w.heap.size ≤ g) v l :=
  ⟨h, fun o ho => ⟨(hi o ho).1.imp (fun q => ⟨q.1, fun g hg c => Nat.not_le_of_lt (q.2 g hg) c⟩) id, (hi o ho).2.imp (fun q => ⟨q.1, fun g hg c => Nat.not_le_of_lt (q.2 g hg) c⟩) id⟩⟩
theorem OpT.ones {o : OpT} (hr : o.r.Ok) (hd : ∃ b n c, o.dv = .slice b n c) (hl : ∃ b n c, o.lv = .slice b n c) : ∀ v ∈ o.cells.toArray, v.oneCell' = true := by
  obtain ⟨b1, n1, c1, e1⟩ := hd
  obtain ⟨b2, n2, c2, e2⟩ := hl
  intro v hv
  have hv : v ∈ o.cells := by simpa using hv
  unfold OpT.cells at hv
  simp only [List.mem_append, List.mem_cons, List.not_mem_nil, or_false] at hv
  rcases hv with (rfl | rfl | rfl) | hv | rfl | rfl
  · rfl
  · rfl
  · rfl
  · exact Rec.ones o.r v (by simpa using hv)
  · rw [e1]; rfl
  · rw [e2]; rfl
end Go.Rill
end
section
namespace Go.Rill
set_option linter.unusedVariables false
set_option linter.unusedSimpArgs false
open Go.RowKit Go.ChangeShapes Go.WideShapes
section
variable {H : Type} {enc : TypeId × Value → H} {P : Program} {W : World} {base b0 : Nat} {spare : Nat → Bool} {held : Bool} {r : Reach} {t e : TypeId} {v : Value}
theorem cell_there {w : World} {a : Addr} {v : Value} (h : w.cell? a = some v) : a.spot = none ∧ a.block < w.heap.size := by
  unfold World.cell? at h
  split at h
  · rename_i c _ _ hb
    split at h
    · cases h
    · rename_i hs
      exact ⟨by simpa using hs, (Array.getElem?_eq_some_iff.1 hb).1⟩
  · cases h
theorem nest_bytes {d : DataW H × List MemPlace} {n : Nat} {v : Value} (ht : P.underlying t = some (.slice e)) (he : P.underlying e = some (.int .u8)) (hc : P.cellsOf e = 1) (hf : DataW.trod enc P W base (fun _ => true) held n t [v] = some d) :
    ∃ l : List UInt8, (Bytes W v l ∧ ∀ g, v.ownBlock = some g → g < W.heap.size) ∨ ∃ a, v = .slice (some a) 0 0 ∧ l = [] := by
  rcases open_ints ht he hc hf with ⟨hcs, _⟩ | ⟨x, len, cap, zs, hcs, _, hl, hm, hz, _, hcell, hwz⟩
  · simp at hcs
    subst hcs
    exact ⟨[], .inl ⟨Bytes.nil W, fun g hg => by simp [Value.ownBlock] at hg⟩⟩
  · simp at hcs
    subst hcs
    by_cases h0 : cap = 0
    · subst h0
      obtain rfl : len = 0 := by omega
      exact ⟨[], .inr ⟨x, rfl, rfl⟩⟩
    have hz0 : 0 < zs.length := by have : zs.length = cap := by simpa using hz
                                   omega
    obtain ⟨hs, hg⟩ := cell_there (hcell 0 hz0)
    obtain ⟨g, off, spot⟩ := x
    have hs : spot = none := by simpa [Addr.add] using hs
    subst hs
    have hg : g < W.heap.size := by simpa [Addr.add] using hg
    have hzl : zs.length = cap := by simpa using hz
    have hll : ((zs.take len).map fun n => UInt8.ofNat n.toNat).length = len := by simp; omega
    refine ⟨(zs.take len).map fun n => UInt8.ofNat n.toNat, .inl ⟨⟨by simp, .inr ⟨g, off, cap, by rw [hll], by omega, hm, hg, fun j u hu => ?_⟩⟩, fun g' hg' => by simp [Value.ownBlock] at hg'; omega⟩⟩
    unfold bc at hu
    rw [List.map_map, List.getElem?_map] at hu
    cases hj : (zs.take len)[j]? with
    | none => rw [hj] at hu; cases hu
    | some n =>
      rw [hj] at hu
      simp only [Option.map_some, Function.comp, Option.some.injEq] at hu
      have hjl := (List.getElem?_eq_some_iff.1 hj).1
      have hjz : j < zs.length := by simp at hjl; omega
      have hn : zs[j]? = some n := by
        rw [List.getElem?_take] at hj
        split at hj
        · exact hj
        · cases hj
      have hmem : n ∈ zs := List.mem_of_getElem? hn
      rw [u8_back (hwz n hmem)] at hu
      have := hcell j hjz
      rw [add_plain, List.getD_eq_getElem?_getD, hn] at this
      rw [this, ← hu]
      rfl
/-- What is known of an operation that comes in. -/
def OpT.In (W : World) (o : OpT) : Prop := o.r.Ok ∧ ((Bytes W o.dv o.dl ∧ ∀ g, o.dv.ownBlock = some g → g < W.heap.size) ∨ ∃ a, o.dv = .slice (some a) 0 0 ∧ o.dl = []) ∧ ((Reads 1 W o.lv o.ll.length (ic o.ll) ∧ ∀ g, o.lv.ownBlock = some g → g < W.heap.size) ∨ ∃ a, o.lv = .slice (some a) 0 0 ∧ o.ll = [])
end
end Go.Rill
end
section
namespace Go.Rill
set_option linter.unusedVariables false
set_option linter.unusedSimpArgs false
open Go.RowKit Go.ChangeShapes Go.WideShapes
theorem flat_at {T : Type} {f : T → List Value} {k : Nat} : ∀ {l : List T} {i j : Nat} (h : i < l.length), (∀ y ∈ l, (f y).length = k) → j < k → ((l.map f).flatten)[i * k + j]? = (f l[i])[j]?
  | y :: r, 0, j, _, h, hj => by
    rw [List.map_cons, List.flatten_cons, Nat.zero_mul, Nat.zero_add, List.getElem?_append_left (by rw [h y (List.mem_cons_self ..)]; exact hj)]
    rfl
  | y :: r, i + 1, j, hi, h, hj => by
    have hy := h y (List.mem_cons_self ..)
    rw [List.map_cons, List.flatten_cons, List.getElem?_append_right (by rw [hy, Nat.add_mul]; omega), hy, show (i + 1) * k + j - k = i * k + j by rw [Nat.add_mul]; omega]
    exact flat_at (l := r) (by simpa using hi) (fun z hz => h z (List.mem_cons_of_mem _ hz)) hj
theorem flat_len {T : Type} {f : T → List Value} {k : Nat} : ∀ {l : List T}, (∀ y ∈ l, (f y).length = k) → ((l.map f).flatten).length = l.length * k
  | [], _ => by simp
  | y :: r, h => by
    rw [List.map_cons, List.flatten_cons, List.length_append, h y (List.mem_cons_self ..), flat_len fun z hz => h z (List.mem_cons_of_mem _ hz), List.length_cons, Nat.add_mul]
    omega
section
variable {H : Type} {enc : TypeId × Value → H} {P : Program} {W : World} {base b0 : Nat} {spare : Nat → Bool} {held : Bool} {r : Reach} {t e : TypeId} {v : Value}
/-- Any items that are handed in. -/
theorem slice_arg {T : Type} {f : T → List Value} {Q : T → Prop} {sz : Nat} {d : DataW H} {p : List MemPlace} (ht : P.underlying t = some (.slice e)) (hc : P.cellsOf e = sz) (hsz : 0 < sz) (hT : ∀ n cs x, DataW.trod enc P W base (fun _ => true) held n e cs = some x → ∃ q, Q q ∧ cs = f q) (hQ : ∀ q, Q q → (f q).length = sz)
    (hval : Value.okWide P W r b0 t v) (h : DataW.Trod enc P W base (fun _ => true) held t v d p) : ∃ l : List T, (∀ q ∈ l, Q q) ∧ Reads sz W v l.length ((l.map f).flatten) := by
  have hval' := hval
  obtain ⟨a, len, cap, rfl⟩ := okWide_slice ht hval
  obtain ⟨fuel, hf⟩ := h
  rcases DataW.trod_slice ht hf with ⟨hcs, _⟩ | ⟨x, l, c, elems, rest, n, _, hcs, _, hb, hl, hm, hlen, hel, _, _⟩
  · simp [Value.cells] at hcs
    obtain ⟨rfl, rfl, rfl⟩ := hcs
    exact ⟨[], (fun o ho => (by cases ho)), Reads.nil _ _⟩
  · simp [Value.cells] at hcs
    obtain ⟨rfl, rfl, rfl⟩ := hcs
    have hcl : Cell.ok P W r b0 t (.slice (some x) len cap) := by
      unfold Value.okWide at hval'
      rw [ht] at hval'
      simp only at hval'
      unfold Cell.okWide at hval'
      rw [ht] at hval'
      exact hval'
    unfold Cell.ok at hcl
    rw [ht] at hcl
    obtain ⟨_, _, _, hs, row, cells, hsh, _⟩ := hcl
    obtain ⟨g, off, spot⟩ := x
    have hs : spot = none := hs
    subst hs
    have hg : g < W.heap.size := by
      unfold World.shape? at hsh
      cases hh : W.heap[g]? with
      | none => rw [hh] at hsh; cases hsh
      | some o => exact (Array.getElem?_eq_some_iff.1 hh).1
    obtain ⟨L, hL, each⟩ := choose_list (p := fun i (o : T) => Q o ∧ ∀ j u, (f o)[j]? = some u → W.cell? ⟨g, off + (i * sz + j), none⟩ = some u) len fun i hi' => by
      have h1 := hel i hi'
      rw [List.getElem?_eq_getElem (by omega), Option.bind_eq_some_iff] at h1
      obtain ⟨cs, h2, h3⟩ := h1
      obtain ⟨q, hq, rfl⟩ := hT _ _ _ h3
      obtain ⟨_, h4, h5⟩ := World.cells?_some h2
      refine ⟨q, hq, fun j u hu => ?_⟩
      have hj : j < (f q).length := (List.getElem?_eq_some_iff.1 hu).1
      have := h5 j (by omega)
      rw [hu, hc, add_plain, add_plain] at this
      rw [← this]
      congr 2
      omega
    have hok : ∀ q ∈ L, Q q := fun r hr => by
      obtain ⟨i, hi, rfl⟩ := List.getElem_of_mem hr
      exact (each i hi).1
    have hln : ∀ q ∈ L, (f q).length = sz := fun q hq => hQ q (hok q hq)
    refine ⟨L, hok, ⟨flat_len hln, .inr ⟨g, off, cap, by rw [hL], by omega, hm, hg, fun j u hu => ?_⟩⟩⟩
    have hj : j < L.length * sz := by have := (List.getElem?_eq_some_iff.1 hu).1; rwa [flat_len hln] at this
    have hk : j / sz < L.length := Nat.div_lt_of_lt_mul (by rwa [Nat.mul_comm])
    have e1 : j = j / sz * sz + j % sz := by have := Nat.div_add_mod j sz; rw [Nat.mul_comm] at this; exact this.symm
    rw [e1] at hu ⊢
    rw [flat_at hk hln (Nat.mod_lt _ hsz)] at hu
    exact (each _ hk).2 _ _ hu
theorem sz_of {fs : Array Field} {ti tb : TypeId} {fuel : Nat} {cs : List Value} {x : DataW H × List MemPlace} (hu : P.underlying e = some (.struct fs)) (hfs : fs.toList.map (fun f => (f.type, f.offset)) = [(ti, 0), (tb, 1)])
    (hi : P.underlying ti = some (.int .i64)) (ci : P.cellsOf ti = 1) (hb : P.underlying tb = some .bool) (cb : P.cellsOf tb = 1) (ce : P.cellsOf e = 2) (h : DataW.trod enc P W base (fun _ => true) held fuel e cs = some x) : ∃ q : Int × Bool, True ∧ cs = [.int .i64 q.1, .bool q.2] := by
  obtain ⟨xs, n, _, _, hlen, hxl, hf⟩ := DataW.trod_struct hu h
  rw [ce] at hlen
  have fld : ∀ (i : Nat) (ty off : Nat), [(ti, 0), (tb, 1)][i]? = some (ty, off) → ∃ y, DataW.trod enc P W base (fun _ => true) held n ty ((cs.drop off).take (P.cellsOf ty)) = some y := fun i ty off hi => by
    rw [← hfs, List.getElem?_map] at hi
    cases hfi : fs.toList[i]? with
    | none => rw [hfi] at hi; cases hi
    | some f =>
      rw [hfi] at hi
      simp only [Option.map_some, Option.some.injEq, Prod.mk.injEq] at hi
      obtain ⟨rfl, rfl⟩ := hi
      have h1 := hf i f (by simpa using hfi)
      have hil : i < fs.toList.length := (List.getElem?_eq_some_iff.1 hfi).1
      rw [h1]
      exact ⟨_, List.getElem?_eq_getElem (by simpa [hxl] using hil)⟩
  obtain ⟨y0, h0⟩ := fld 0 ti 0 rfl
  obtain ⟨y1, h1⟩ := fld 1 tb 1 rfl
  rw [ci] at h0
  rw [cb] at h1
  obtain ⟨k, e0, _⟩ := DataW.trod_int hi h0
  obtain ⟨b, e1, _⟩ := DataW.trod_bool hb h1
  refine ⟨(k, b), trivial, ?_⟩
  have s0 : cs = (cs.drop 0).take 1 ++ (cs.drop 1).take 1 := by
    have z : cs.drop 1 = (cs.drop 1).take 1 := (List.take_of_length_le (by simp; omega)).symm
    rw [← z, List.drop_zero, List.take_append_drop]
  rw [s0, e0, e1]
  rfl
/-- Any sizes of batches that are handed in. -/
theorem szs_arg {fs : Array Field} {ti tb : TypeId} {d : DataW H} {p : List MemPlace} (ht : P.underlying t = some (.slice e)) (hu : P.underlying e = some (.struct fs)) (hfs : fs.toList.map (fun f => (f.type, f.offset)) = [(ti, 0), (tb, 1)])
    (hi : P.underlying ti = some (.int .i64)) (ci : P.cellsOf ti = 1) (hb : P.underlying tb = some .bool) (cb : P.cellsOf tb = 1) (ce : P.cellsOf e = 2) (hval : Value.okWide P W r b0 t v) (h : DataW.Trod enc P W base (fun _ => true) held t v d p) :
    ∃ l : List (Int × Bool), Reads 2 W v l.length ((l.map fun q => [.int .i64 q.1, .bool q.2]).flatten) := by
  obtain ⟨l, _, h⟩ := slice_arg (T := Int × Bool) (f := fun q => [.int .i64 q.1, .bool q.2]) (Q := fun _ => True) ht ce (by decide) (fun n cs x => sz_of hu hfs hi ci hb cb ce) (fun _ _ => rfl) hval h
  exact ⟨l, h⟩
/-- Any slices of bytes that are handed in. -/
theorem rows_arg {eb : TypeId} {d : DataW H} {p : List MemPlace} (ht : P.underlying t = some (.slice e)) (he : P.underlying e = some (.slice eb)) (heb : P.underlying eb = some (.int .u8)) (ceb : P.cellsOf eb = 1) (ce : P.cellsOf e = 1)
    (hval : Value.okWide P W r b0 t v) (h : DataW.Trod enc P W base (fun _ => true) held t v d p) : ∃ l : List (Value × List UInt8), (∀ q ∈ l, (Bytes W q.1 q.2 ∧ ∀ g, q.1.ownBlock = some g → g < W.heap.size) ∨ ∃ a, q.1 = .slice (some a) 0 0 ∧ q.2 = []) ∧ Reads 1 W v l.length (l.map (·.1)) := by
  obtain ⟨l, h1, h2⟩ := slice_arg (T := Value × List UInt8) (f := fun q => [q.1]) (Q := fun q => (Bytes W q.1 q.2 ∧ ∀ g, q.1.ownBlock = some g → g < W.heap.size) ∨ ∃ a, q.1 = .slice (some a) 0 0 ∧ q.2 = []) ht ce (by decide) (fun n cs x hx => by
    obtain ⟨u, rfl⟩ : ∃ u, cs = [u] := by
      rcases DataW.trod_slice he hx with ⟨rfl, _⟩ | ⟨a, len, cap, _, _, _, _, rfl, _⟩
      · exact ⟨_, rfl⟩
      · exact ⟨_, rfl⟩
    obtain ⟨k, hk⟩ := nest_bytes he heb ceb hx
    exact ⟨(u, k), hk, rfl⟩) (fun _ _ => rfl) hval h
  refine ⟨l, h1, ?_⟩
  have e : (l.map fun q => [q.1]).flatten = l.map (·.1) := by
    clear h1 h2
    induction l with
    | nil => rfl
    | cons a r ih => rw [List.map_cons, List.flatten_cons, ih]; rfl
  rwa [e] at h2
end
end Go.Rill
end
