/- What a names.Names has: maps from keys to how many they are (sealed: structs with strings; texts: strings). Of whatever program. -/
import Derived.Test.YtnebjbgcibjohaaRR
import Derived.Test.YtnebjbgcibjohaaVO
namespace Go.Rill
set_option linter.unusedVariables false
set_option linter.unusedSimpArgs false
open Go.RowKit Go.Rill.VM
open Go.Rill.VM.S (FK)
/-- Keys of a kind: their cells, and how they stand in a map. -/
structure KeyOf (K : Type) where
  cells : K → List Value
  val : K → Value
  fks : List FK
  inj : ∀ {a b : K}, cells a = cells b → a = b
  fit : ∀ k, S.Fit fks (cells k)
/-- A map's type, with such keys. -/
structure KFits {K : Type} (V : KeyOf K) (P : Program) (t kt et : TypeId) : Prop where
  und : P.underlying t = some (.map kt et)
  flat : S.flatK P 10000 kt = some V.fks
  mkv : ∀ k, S.mkv P kt (V.cells k) = V.val k
theorem Mem.nilAny {w0 w : World} {O : Nat → Prop} {L : List Ent} {Φ : World → Prop} (M : Mem w0 O L Φ w) (e : TypeId) (sz : Nat) : Mem w0 O (.row e sz (.slice none 0 0) 0 [] :: L) Φ w :=
  M.adopt (Ext.refl w) _ (World.ownsRow_nil w 0 e sz) fun g hg => by simp [Ent.row, Value.ownBlock] at hg
section
variable {K : Type} (V : KeyOf K)
def nent (k : K) (j : Nat) : MapEntry := { key := V.val k, val := .int .i64 ((j + 1 : Nat) : Int), born := j }
def nents : List K → Nat → List MapEntry
  | [], _ => []
  | k :: r, j => nent V k j :: nents r (j + 1)
def nmap (ks : List K) : Array MapEntry := (nents V ks 0).toArray
theorem nents_snoc (k : K) : ∀ (ks : List K) (j : Nat), nents V (ks ++ [k]) j = nents V ks j ++ [nent V k (j + ks.length)]
  | [], j => rfl
  | q :: r, j => by
    show nent V q j :: nents V (r ++ [k]) (j + 1) = _
    rw [nents_snoc k r (j + 1)]
    show _ = nent V q j :: (nents V r (j + 1) ++ [nent V k (j + (r.length + 1))])
    rw [show j + 1 + r.length = j + (r.length + 1) by omega]
theorem nents_len : ∀ (ks : List K) (j : Nat), (nents V ks j).length = ks.length
  | [], _ => rfl
  | k :: r, j => by
    show (nents V r (j + 1)).length + 1 = r.length + 1
    rw [nents_len r (j + 1)]
theorem nmap_snoc (ks : List K) (k : K) : nmap V (ks ++ [k]) = (nmap V ks).push { key := V.val k, val := .int .i64 ((ks.length + 1 : Nat) : Int), born := ks.length } := by
  apply Array.toList_inj.1
  show nents V (ks ++ [k]) 0 = _
  rw [nents_snoc, Array.toList_push, Nat.zero_add]
  rfl
theorem nmap_size (ks : List K) : (nmap V ks).size = ks.length := nents_len V ks 0
end
section
variable {K : Type} [DecidableEq K]
/-- Where a key is. -/
def nat' (k : K) : List K → Nat → Option Nat
  | [], _ => none
  | q :: r, i => if k = q then some i else nat' k r (i + 1)
theorem nat_none {k : K} : ∀ {ks : List K} {i : Nat}, k ∉ ks → nat' k ks i = none
  | [], _, _ => rfl
  | q :: r, i, h => by
    unfold nat'
    rw [if_neg (fun e : k = q => h (by rw [e]; exact List.mem_cons_self ..)), nat_none fun hm => h (List.mem_cons_of_mem _ hm)]
theorem nat_shift (k : K) : ∀ (r : List K) (m : Nat), nat' k r (m + 1) = (nat' k r m).map (· + 1) := by
  intro r
  induction r with
  | nil => intro m; rfl
  | cons a r ih => intro m; unfold nat'; split <;> first | rfl | exact ih (m + 1)
/-- What is found is the first such. -/
theorem nat_get {k : K} : ∀ {ks : List K} {m : Nat}, nat' k ks 0 = some m → ks[m]? = some k ∧ m < ks.length ∧ ∀ j, j < m → ks[j]? ≠ some k
  | [], m, h => by cases h
  | q :: r, m, h => by
    unfold nat' at h
    split at h
    · rename_i e
      injection h with h
      subst h e
      exact ⟨rfl, by simp, fun j hj => by omega⟩
    · rename_i e
      rw [nat_shift] at h
      obtain ⟨j, hj, rfl⟩ := Option.map_eq_some_iff.1 h
      obtain ⟨h1, h2, h3⟩ := nat_get hj
      refine ⟨by simpa using h1, by simp; omega, fun i hi => ?_⟩
      cases i with
      | zero => simpa using fun c => e c.symm
      | succ i => simpa using h3 i (by omega)
theorem nat_mem {k : K} {ks : List K} (h : k ∈ ks) : ∃ m, nat' k ks 0 = some m := by
  induction ks with
  | nil => cases h
  | cons q r ih =>
    unfold nat'
    split
    · exact ⟨0, rfl⟩
    · rename_i e
      rcases List.mem_cons.1 h with rfl | h
      · exact absurd rfl e
      · obtain ⟨m, hm⟩ := ih h
        exact ⟨m + 1, by rw [nat_shift, hm]; rfl⟩
end
section
variable {K : Type} [DecidableEq K] {V : KeyOf K} {P : Program} {ρ : Operand → Value} {o : Oper} {w : World} {t kt et : TypeId} {g : Nat} {ks : List K} {k : K}
theorem fd_keys (hv : ∀ k, S.mkv P kt (V.cells k) = V.val k) (k : K) : ∀ (ks : List K) (i j : Nat), VM.Fd P kt V.fks (V.cells k) (nents V ks j) i ((nat' k ks 0).map fun m => (i + m, .int .i64 ((j + m + 1 : Nat) : Int)))
  | [], i, j => rfl
  | q :: r, i, j => by
    refine ⟨V.cells q, (hv q).symm, V.fit q, ?_⟩
    by_cases e : k = q
    · subst e
      refine .inl ⟨rfl, ?_⟩
      unfold nat'
      rw [if_pos rfl]
      rfl
    · refine .inr ⟨fun hc => e (V.inj hc), ?_⟩
      have ih := fd_keys hv k r (i + 1) (j + 1)
      have e2 : nat' k (q :: r) 0 = (nat' k r 0).map (· + 1) := by
        show (if k = q then some 0 else nat' k r 1) = _
        rw [if_neg e, nat_shift k r 0]
      rw [e2, Option.map_map]
      have e3 : ((fun m => (i + m, Value.int .i64 ((j + m + 1 : Nat) : Int))) ∘ fun x => x + 1) = fun m => (i + 1 + m, Value.int .i64 ((j + 1 + m + 1 : Nat) : Int)) := by
        funext m
        simp only [Function.comp, Prod.mk.injEq, Value.int.injEq, true_and]
        exact ⟨by omega, by congr 1; omega⟩
      rw [e3]
      exact ih
theorem find_keys (H : KFits V P t kt et) : (Instr.findKey kt (V.val k) (nmap V ks).toList).run P w = .ok ((nat' k ks 0).map fun m => (m, .int .i64 ((m + 1 : Nat) : Int))) w := by
  have hf := fd_keys (P := P) H.mkv k ks 0 0
  have e : ((nat' k ks 0).map fun m => (0 + m, Value.int .i64 ((0 + m + 1 : Nat) : Int))) = ((nat' k ks 0).map fun m => (m, .int .i64 ((m + 1 : Nat) : Int))) := by simp
  rw [e] at hf
  have := findKey_run (w := w) H.flat (V.fit k) hf
  rwa [H.mkv k] at this
theorem run_lookupN {X Y : Operand} {z v : Value} {b : Bool} {clock : Nat} (ho : o.op = .lookup t X Y true) (hX : ρ X = .map (some g)) (hY : ρ Y = V.val k) (ht : KFits V P t kt et) (hz : zeroOf P et = some z) (hg : w.heap[g]? = some (.map (nmap V ks) clock))
    (hr : (match nat' k ks 0 with | some m => (.int .i64 ((m + 1 : Nat) : Int), true) | none => (z, false)) = (v, b)) : (execOp ρ o).run P w = .ok (.value (.tuple #[v, .bool b])) w := by
  have hgo : (getObj g).run P w = .ok (.map (nmap V ks) clock) w := by simp [getObj, Sem.run, hg]
  have hck := S.check_flat (P := P) (nmap V ks).isEmpty 10000 kt V.fks ht.flat w (V.cells k) (V.fit k)
  rw [ht.mkv k] at hck
  have hfk := find_keys (w := w) (k := k) (ks := ks) ht
  simp only [execOp, ho, hX, hY, Instr.lookup, Sem.run_bind, run_underlying ht.und, Result.andThen_ok, hgo, Sem.run_pure, hck, hfk]
  cases hn : nat' k ks 0 with
  | none =>
    rw [hn] at hr
    simp only [Prod.mk.injEq] at hr
    obtain ⟨rfl, rfl⟩ := hr
    simp [VM.zeroVal hz]
  | some m =>
    rw [hn] at hr
    simp only [Prod.mk.injEq] at hr
    obtain ⟨rfl, rfl⟩ := hr
    simp
theorem run_mapUpdateN {X Y Z : Operand} (ho : o.op = .mapUpdate t X Y Z) (hX : ρ X = .map (some g)) (hY : ρ Y = V.val k) (hZ : ρ Z = .int .i64 ((ks.length + 1 : Nat) : Int)) (ht : KFits V P t kt et) (hg : w.heap[g]? = some (.map (nmap V ks) ks.length)) (hn : k ∉ ks) :
    (execOp ρ o).run P w = .ok .skip { w with heap := w.heap.setIfInBounds g (.map (nmap V (ks ++ [k])) (ks ++ [k]).length) } := by
  have hgo : (getObj g).run P w = .ok (.map (nmap V ks) ks.length) w := by simp [getObj, Sem.run, hg]
  have hso : ∀ o', (setObj g o').run P w = .ok () { w with heap := w.heap.setIfInBounds g o' } := fun o' => by simp [setObj, Sem.run, hg]
  have hck := S.check_flat (P := P) false 10000 kt V.fks ht.flat w (V.cells k) (V.fit k)
  rw [ht.mkv k] at hck
  have hfk := find_keys (w := w) (k := k) (ks := ks) ht
  rw [nat_none hn] at hfk
  simp only [execOp, ho, hX, hY, hZ, Instr.mapUpdate, Sem.run_bind, run_underlying ht.und, Result.andThen_ok, hgo, hck, hfk, Option.map_none, hso]
  rw [nmap_snoc, List.length_append]
  rfl
omit [DecidableEq K] in
theorem run_lenN {ts : List TypeId} {args : List Operand} {X : Operand} {clock : Nat} (ho : o.op = .call { callee := .builtin .len, args := args.toArray, argTypes := ts.toArray }) (ha : args = [X]) (hts : ts = [t]) (hX : ρ X = .map (some g)) (ht : KFits V P t kt et) (hg : w.heap[g]? = some (.map (nmap V ks) clock)) :
    (execOp ρ o).run P w = .ok (.value (.int .i64 (ks.length : Int))) w := by
  subst ha hts
  have hgo : (getObj g).run P w = .ok (.map (nmap V ks) clock) w := by simp [getObj, Sem.run, hg]
  simp [execOp, ho, resolve, invoke, builtin, Builtin.len_, hX, run_underlying ht.und, hgo, goInt, nmap_size]
end
section
variable {K : Type} [DecidableEq K] {V : KeyOf K} {P : Program} {ops : Array Oper} {Q : Exit → Act → World → Prop} {l : List (Nat × Value)} {n : Nat} {t kt et : TypeId} {k : K} {ks : List K}
theorem last_mapN {a : Act} {w wb : World} {m i g : Nat} {o : Oper} {O : Nat → Prop} {L L' : List Ent} {Φ : World → Prop} {X Y Z : Operand} (E : Env l n a) (M : Mem wb O L Φ w) (ho : ops[m]? = some o) (hL : L[i]? = some (.blk g (.map (nmap V ks) ks.length))) (hd : o.dst = none) (hc : covers l o = true) (hg : guardIn ops l o = true) (hw : wantedL ops l o = true)
    (hop : o.op = .mapUpdate t X Y Z) (hX : evL l X = .map (some g)) (hY : evL l Y = V.val k) (hZ : evL l Z = .int .i64 ((ks.length + 1 : Nat) : Int)) (ht : KFits V P t kt et) (hn : k ∉ ks) (hL' : L.set i (.blk g (.map (nmap V (ks ++ [k])) (ks ++ [k]).length)) = L')
    (kk : ∀ a' w', Mem wb O L' Φ w' → Env l n a' → Q .normal a' w') : lastOp P ops Q m a w := by
  subst hL'
  have hr := run_mapUpdateN hop hX hY hZ ht (M.ent i hL) hn
  unfold lastOp
  rw [ho]
  simp only
  rw [E.wanted hg, if_pos hw]
  unfold Oper.wp
  rw [E.exec hc, hr]
  have E2 := E.put (d := o.dst) (by rw [hd]; rfl) undef
  rw [hd] at E2
  rw [Oper.upon_skip, hd]
  exact kk _ _ (M.setObj hL) E2
end
/-! ### The two kinds -/
structure NKey where
  e : Int
  n : Int
  h : List UInt8
  p : List UInt8
deriving DecidableEq
def NKey.cells (k : NKey) : List Value := [.int .i64 k.e, .int .i64 k.n, .string ⟨k.h.toArray⟩, .string ⟨k.p.toArray⟩]
def NKey.val (k : NKey) : Value := .agg k.cells.toArray
theorem NKey.ones (k : NKey) : ∀ u ∈ k.cells, u.oneCell' = true := fun u hu => by
  simp only [NKey.cells, List.mem_cons, List.not_mem_nil, or_false] at hu
  rcases hu with rfl | rfl | rfl | rfl <;> rfl
theorem NKey.inj {k q : NKey} (h : k.cells = q.cells) : k = q := by
  obtain ⟨a, b, c, d⟩ := k
  obtain ⟨a', b', c', d'⟩ := q
  simp only [NKey.cells, List.cons.injEq, Value.int.injEq, Value.string.injEq, ByteArray.mk.injEq, and_true, true_and] at h
  obtain ⟨rfl, rfl, h3, h4⟩ := h
  have e3 := congrArg Array.toList h3
  have e4 := congrArg Array.toList h4
  simp only at e3 e4
  subst e3 e4
  rfl
def sealK : KeyOf NKey := ⟨NKey.cells, NKey.val, [.int .i64, .int .i64, .str, .str], NKey.inj, fun k => rfl⟩
def strV (l : List UInt8) : Value := .string ⟨l.toArray⟩
theorem strV_inj {a b : List UInt8} (h : strV a = strV b) : a = b := by
  simp only [strV, Value.string.injEq, ByteArray.mk.injEq] at h
  simpa using congrArg Array.toList h
def textK : KeyOf (List UInt8) := ⟨fun l => [strV l], strV, [.str], fun h => strV_inj (by simpa using h), fun k => rfl⟩
def tyNames (P : Program) (t kt et : TypeId) : Bool := (match P.underlying t with | some (.map k e) => k == kt && e == et | _ => false) && (match S.flatK P 10000 kt with | some [.int .i64, .int .i64, .str, .str] => true | _ => false) && !tyOne P kt
def tyTexts (P : Program) (t kt et : TypeId) : Bool := (match P.underlying t with | some (.map k e) => k == kt && e == et | _ => false) && (match S.flatK P 10000 kt with | some [.str] => true | _ => false) && tyOne P kt
theorem map_of {P : Program} {t kt et : TypeId} (h1 : (match P.underlying t with | some (.map k e) => k == kt && e == et | _ => false) = true) : P.underlying t = some (.map kt et) := by
  split at h1
  · rename_i k e hu
    simp only [Bool.and_eq_true, beq_iff_eq] at h1
    obtain ⟨rfl, rfl⟩ := h1
    exact hu
  · cases h1
theorem names_fits {P : Program} {t kt et : TypeId} (h : tyNames P t kt et = true) : KFits sealK P t kt et := by
  simp only [tyNames, Bool.and_eq_true, Bool.not_eq_true'] at h
  obtain ⟨⟨h1, h2⟩, h3⟩ := h
  refine ⟨map_of h1, (by split at h2; assumption; cases h2), fun k => ?_⟩
  unfold S.mkv
  rw [h3]
  rfl
theorem texts_fits {P : Program} {t kt et : TypeId} (h : tyTexts P t kt et = true) : KFits textK P t kt et := by
  simp only [tyTexts, Bool.and_eq_true] at h
  obtain ⟨⟨h1, h2⟩, h3⟩ := h
  refine ⟨map_of h1, (by split at h2; assumption; cases h2), fun k => ?_⟩
  unfold S.mkv
  rw [h3]
  rfl
/-- A names.Names: what was sealed, and summed. -/
structure NV where
  gn : Nat
  gs : Nat
  gt : Nat
  av : Value
  ks : List NKey
  ts : List (List UInt8)
abbrev nms (TN TS : TypeId) (N : NV) : List Ent := [.blk N.gn (.cells #[.map (some N.gs), N.av, .map (some N.gt)] TN (0, 0)), .row TS 4 N.av N.ks.length (N.ks.map NKey.cells).flatten, .blk N.gs (.map (nmap sealK N.ks) N.ks.length), .blk N.gt (.map (nmap textK N.ts) N.ts.length)]
end Go.Rill
