/- Operations on words: maps. Of whatever program. -/
import Derived.Test.YtkmfmbdgipbaaaaRVO
import Derived.Lib.AppendZeros
import Derived.Laws.Cover3
section
namespace Go.Rill.VM
set_option linter.unusedVariables false
set_option linter.unusedSimpArgs false
open Go.RowKit
open S (FK)
noncomputable section
section
variable {P : Program} {E : GE} {kt : TypeId} {ks : List FK}
theorem mapRec_get {kc vc x : Nat} : ∀ {l : List MapEntry} {p i : Nat} {e : MapEntry}, mapRec E kc vc x p l → l[i]? = some e → gw x (p + i * (csz kc + csz vc)) ≠ 0 ∧ vR E (gw x) (p + i * (csz kc + csz vc)) kc e.key ∧ vR E (gw x) (p + i * (csz kc + csz vc) + csz kc) vc e.val
  | [], _, _, _, _, h => by simp at h
  | a :: l, p, 0, e, ⟨_, h1, h2, h3, _⟩, h => by
    simp only [List.getElem?_cons_zero, Option.some.injEq] at h
    subst h
    simpa using ⟨h1, h2, h3⟩
  | a :: l, p, i + 1, e, ⟨_, _, _, _, h4⟩, h => by
    have := mapRec_get (i := i) h4 (by simpa using h)
    have e1 : p + csz kc + csz vc + i * (csz kc + csz vc) = p + (i + 1) * (csz kc + csz vc) := by rw [Nat.add_mul]; omega
    rwa [e1] at this
theorem mapRec_of {kc vc x : Nat} : ∀ {l : List MapEntry} {p : Nat}, (∀ (i : Nat) (e : MapEntry), l[i]? = some e → gw x (p + i * (csz kc + csz vc)) ≠ 0 ∧ vR E (gw x) (p + i * (csz kc + csz vc)) kc e.key ∧ vR E (gw x) (p + i * (csz kc + csz vc) + csz kc) vc e.val) → mapRec E kc vc x p l
  | [], _, _ => trivial
  | a :: l, p, h => by
    have h0 := h 0 a rfl
    simp only [Nat.zero_mul, Nat.add_zero] at h0
    refine ⟨⟨0, by decide⟩, h0.1, h0.2.1, h0.2.2, mapRec_of fun i e hi => ?_⟩
    have := h (i + 1) e (by simpa using hi)
    have e1 : p + csz kc + csz vc + i * (csz kc + csz vc) = p + (i + 1) * (csz kc + csz vc) := by rw [Nat.add_mul]; omega
    rwa [e1]
section
variable {f : Nat → Nat} {w : World} {nx lm : Nat} {F x p kc vc : Nat} {tags : List Nat} {xs : List Value}
/-- An entry's key. -/
theorem entry_key (MM : MR P E f nx lm w) (hk : S.flatK P 10000 kt = some ks) (ht : tags = ks.map tgF) (hc : (if tyOne P kt then Nat.beq kc 0 else Nat.beq kc ks.length && Nat.blt 0 kc) = true)
    (hx : S.Fit ks xs) (hxc : ∀ i k, ks[i]? = some k → ∃ v, xs[i]? = some v ∧ cv E (gw F (p + i)) = some v) {q : Nat} {e : MapEntry} (h0 : gw x q ≠ 0) (hv : vR E (gw x) q kc e.key) (hT : KT f F x tags p (q + kOff kc)) : ∃ ys, e.key = S.mkv P kt ys ∧ S.Fit ks ys ∧ (KE f F x tags p (q + kOff kc) ↔ xs = ys) := by
  obtain ⟨ys, h1, h2, h3⟩ := key_vals hk ht hc hv h0 fun i t hi => (hT i t hi).2.1
  exact ⟨ys, h1, h2, key_eq MM ht hT hxc h3 hx.len h2.len⟩
theorem fd_none (MM : MR P E f nx lm w) (hk : S.flatK P 10000 kt = some ks) (ht : tags = ks.map tgF) (hc : (if tyOne P kt then Nat.beq kc 0 else Nat.beq kc ks.length && Nat.blt 0 kc) = true)
    (hx : S.Fit ks xs) (hxc : ∀ i k, ks[i]? = some k → ∃ v, xs[i]? = some v ∧ cv E (gw F (p + i)) = some v) : ∀ {l : List MapEntry} {q i : Nat}, mapRec E kc vc x q l → (∀ j, j < l.length → KT f F x tags p (q + j * (csz kc + csz vc) + kOff kc) ∧ ¬ KE f F x tags p (q + j * (csz kc + csz vc) + kOff kc)) → Fd P kt ks xs l i none
  | [], _, _, _, _ => rfl
  | e :: l, q, i, hm, h => by
    obtain ⟨h1, h2⟩ := h 0 (by simp)
    simp only [Nat.zero_mul, Nat.add_zero] at h1 h2
    obtain ⟨g1, g2, _⟩ := mapRec_get (i := 0) hm rfl
    simp only [Nat.zero_mul, Nat.add_zero] at g1 g2
    obtain ⟨ys, k1, k2, k3⟩ := entry_key MM hk ht hc hx hxc g1 g2 h1
    refine ⟨ys, k1, k2, .inr ⟨fun h => h2 (k3.2 h), fd_none MM hk ht hc hx hxc hm.2.2.2.2 fun j hj => ?_⟩⟩
    have := h (j + 1) (by simpa using hj)
    rwa [show q + (j + 1) * (csz kc + csz vc) = q + csz kc + csz vc + j * (csz kc + csz vc) by rw [Nat.add_mul]; omega] at this
theorem fd_some (MM : MR P E f nx lm w) (hk : S.flatK P 10000 kt = some ks) (ht : tags = ks.map tgF) (hc : (if tyOne P kt then Nat.beq kc 0 else Nat.beq kc ks.length && Nat.blt 0 kc) = true)
    (hx : S.Fit ks xs) (hxc : ∀ i k, ks[i]? = some k → ∃ v, xs[i]? = some v ∧ cv E (gw F (p + i)) = some v) : ∀ {l : List MapEntry} {q i j : Nat} {e : MapEntry}, mapRec E kc vc x q l → l[j]? = some e → (∀ m, m < j → KT f F x tags p (q + m * (csz kc + csz vc) + kOff kc) ∧ ¬ KE f F x tags p (q + m * (csz kc + csz vc) + kOff kc)) →
      KT f F x tags p (q + j * (csz kc + csz vc) + kOff kc) → KE f F x tags p (q + j * (csz kc + csz vc) + kOff kc) → Fd P kt ks xs l i (some (i + j, e.val)) ∧ e.key = S.mkv P kt xs
  | [], _, _, _, _, _, h, _, _, _ => by simp at h
  | a :: l, q, i, 0, e, hm, he, _, h1, h2 => by
    simp only [List.getElem?_cons_zero, Option.some.injEq] at he
    subst he
    simp only [Nat.zero_mul, Nat.add_zero] at h1 h2
    obtain ⟨g1, g2, _⟩ := mapRec_get (i := 0) hm rfl
    simp only [Nat.zero_mul, Nat.add_zero] at g1 g2
    obtain ⟨ys, k1, k2, k3⟩ := entry_key MM hk ht hc hx hxc g1 g2 h1
    have e1 := k3.1 h2
    exact ⟨⟨ys, k1, k2, .inl ⟨e1, rfl⟩⟩, by rw [k1, e1]⟩
  | a :: l, q, i, j + 1, e, hm, he, h, h1, h2 => by
    obtain ⟨h3, h4⟩ := h 0 (by omega)
    simp only [Nat.zero_mul, Nat.add_zero] at h3 h4
    obtain ⟨g1, g2, _⟩ := mapRec_get (i := 0) hm rfl
    simp only [Nat.zero_mul, Nat.add_zero] at g1 g2
    obtain ⟨ys, k1, k2, k3⟩ := entry_key MM hk ht hc hx hxc g1 g2 h3
    have e1 : ∀ m, q + (m + 1) * (csz kc + csz vc) = q + csz kc + csz vc + m * (csz kc + csz vc) := fun m => by rw [Nat.add_mul]; omega
    rw [e1] at h1 h2
    obtain ⟨r1, r2⟩ := fd_some MM hk ht hc hx hxc (i := i + 1) hm.2.2.2.2 (by simpa using he) (fun m hm' => by have := h (m + 1) (by omega); rwa [e1] at this) h1 h2
    refine ⟨⟨ys, k1, k2, .inr ⟨fun h => h4 (k3.2 h), ?_⟩⟩, r2⟩
    rwa [show i + (j + 1) = i + 1 + j by omega]
end
end
section
variable {P : Program} {Y : Lay} {o : Oper} {F p q : Nat} {M : HT} {nx : Nat} {x y z : Operand} {K : Nat → HT → Nat → Bool} {K1 : Nat → Bool} {t s T e kt et : TypeId}
def mHdr (kc vc : Nat) : Nat := Nat.add (Nat.add (Nat.mul kc 65536) (Nat.mul vc 4294967296)) 1
/-- A map that is made. -/
def eMkM (M : HT) (nx H : Nat) (K : Nat → HT → Nat → Bool) : Bool :=
  need (Nat.blt nx 16777216) (force (mkx H 0) fun x => M.put x nx fun M => force (Nat.succ nx) fun n => K (Nat.add (Nat.shiftLeft nx 5) 20) M n)
theorem cv20 {E : GE} {w : Nat} (h : w % 32 = 20) : cv E w = match E (w / 32) with | some (.map g) => some (.map (some g)) | _ => none := by
  unfold cv; rw [h]; rfl
theorem eMkM_runs {kc vc : Nat} (ho : o.op = .makeMap t none) (hk : kc < 65536) (hv : vc < 65536) (h : eMkM M nx (kc * 65536 + vc * 4294967296) K = true) : ∃ R M', K R M' (nx + 1) = true ∧ Fresh P Y o (some (.val 0)) F M nx R M' := by
  unfold eMkM at h
  rw [need_iff, force_eq, Nat.blt_eq] at h
  obtain ⟨hnx, h⟩ := h
  obtain ⟨M', h1, h2⟩ := HT.put_some h
  rw [force_eq] at h2
  refine ⟨_, M', h2, _, h1, fun f => ⟨by omega, fun E a w lm hlm H MM K' Q hK => ?_⟩⟩
  have g0 : gw (mkx (kc * 65536 + vc * 4294967296) 0) 0 = kc * 65536 + vc * 4294967296 + 1 := by rw [gw_mkx (by omega), if_pos rfl]
  have g1 : gw (mkx (kc * 65536 + vc * 4294967296) 0) 1 = 0 := by rw [gw_mkx (by omega), if_neg (by decide)]; exact wd_zero _
  obtain ⟨MM', G⟩ := MM.add (by omega) (g := .map w.heap.size) (f' := fun q => if q = nx then mkx (kc * 65536 + vc * 4294967296) 0 else f q) (x := mkx (kc * 65536 + vc * 4294967296) 0) (w' := w.alloc (.map #[] 0)) (Ext.alloc w _) (fun k hk => by injection hk with hk; subst hk; simp)
    ⟨#[], 0, kc, vc, by show (w.heap.push _)[w.heap.size]? = _; simp, g0, hk, hv, g1, fun e he => trivial, trivial⟩ fun q => rfl
  have hrun : (execOp a.eval o).run P w = .ok (.value (.map (some w.heap.size))) (w.alloc (.map #[] 0)) := by
    simp [execOp, ho, Instr.makeMap]
  unfold Oper.wp
  rw [hrun, Oper.upon_value]
  refine hK _ _ _ G MM' fun sh hs => ?_
  injection hs with hs
  subst hs
  have e5 : Nat.add (Nat.shiftLeft nx 5) 20 = nx * 32 + 20 := by
    have : Nat.shiftLeft nx 5 = nx * 32 := Nat.shiftLeft_eq nx 5
    rw [this]
  rw [e5]
  refine sR_one (by omega) ?_
  rw [cv20 (by omega), show (nx * 32 + 20) / 32 = nx by omega]
  simp [GE.set]
/-- A map's block. -/
theorem rdMap {E : GE} {a : Act} {f : Nat → Nat} {w : World} {lm : Nat} (MM : MR P E f nx lm w) (H : FO E Y F a o) (hx : x ∈ opList o.op) (h : okO Y x p 0 = true) (hk : gw F p % 32 = 20) {kc vc : Nat} (hkc : kc < 65536) (hvc : vc < 65536) (hh : gw (f (gw F p / 32)) 0 = kc * 65536 + vc * 4294967296 + 1) :
    ∃ g es clock, E (gw F p / 32) = some (.map g) ∧ a.eval x = .map (some g) ∧ w.heap[g]? = some (.map es clock) ∧ gw (f (gw F p / 32)) 1 = es.size ∧ mapRec E kc vc (f (gw F p / 32)) 2 es.toList := by
  have h1 := rd1 H hx h (mod_ne hk (by decide))
  rw [cv20 hk] at h1
  split at h1
  · rename_i g hE
    injection h1 with h1
    obtain ⟨g', h2, h3⟩ := MM.obj (gw F p / 32) (gw_ne (i := 0) (by rw [hh]; omega))
    rw [hE] at h2
    injection h2 with h2
    subst h2
    obtain ⟨es, clock, kc', vc', e1, e2, e3, e4, e5, _, e7⟩ := h3
    rw [hh] at e2
    obtain ⟨rfl, rfl⟩ : kc = kc' ∧ vc = vc' := by omega
    exact ⟨g, es, clock, hE, h1.symm, e1, e5, e7⟩
  · cases h1
def lkR (ok : Bool) (vc v b : Nat) : Nat := Bool.rec (motive := fun _ => Nat) v (wcons 1 (wjoin v (csz vc) b)) ok
theorem tyKey_spec {kc : Nat} {tags : List Nat} (h : tyKey P kt kc tags = true) : ∃ ks, S.flatK P 10000 kt = some ks ∧ tags = ks.map tgF ∧ (if tyOne P kt then Nat.beq kc 0 else Nat.beq kc ks.length && Nat.blt 0 kc) = true := by
  unfold tyKey at h
  split at h
  · rename_i ks hk
    rw [Bool.and_eq_true] at h
    exact ⟨ks, hk, by simpa using h.1, h.2⟩
  · cases h
/-- A look into a map. -/
def eLk (F : Nat) (M : HT) (p q kc vc : Nat) (tags : List Nat) (z : Nat) (ok : Bool) (K : Nat → Bool) : Bool :=
  ck (gw F p) 20 (nz (gw F q) (need (Nat.beq (gw (M.get (Nat.shiftRight (gw F p) 5)) 0) (mHdr kc vc)) (kTg M F F tags (Nat.add q (kOff kc)) (Nat.add q (kOff kc))
    (eFd M F (M.get (Nat.shiftRight (gw F p) 5)) tags (Nat.add q (kOff kc)) (kOff kc) (Nat.add (csz kc) (csz vc))
      (fun _ r => K (lkR ok vc (gs (M.get (Nat.shiftRight (gw F p) 5)) (Nat.add r (csz kc)) (csz vc)) 43)) (K (lkR ok vc (gs F z (csz vc)) 11)) (gw (M.get (Nat.shiftRight (gw F p) 5)) 1) 2 0))))
theorem lkR_sR {E : GE} {ok : Bool} {vc v b : Nat} {u : Value} {c : Bool} (hv : v < 2 ^ (96 * csz vc)) (hu : vR E (wd v) 0 vc u) (hb : b = bw c) : sR E (wd (lkR ok vc v b)) 0 (if ok then .tup [vc, 0] else .val vc) (if ok then .tuple #[u, .bool c] else u) := by
  cases ok with
  | false => exact hu
  | true =>
    intro _
    refine ⟨[u, .bool c], rfl, vR_move hu fun i hi => ?_, fun hp => ?_, trivial⟩
    · show wd (wcons 1 (wjoin v (csz vc) b)) (0 + 1 + i) = wd v (0 + i)
      rw [wd_wcons (by decide), if_neg (by omega), wd_wjoin hv, if_pos (by omega)]
      congr 1; omega
    · show cv E (wd (wcons 1 (wjoin v (csz vc) b)) (0 + 1 + csz vc)) = some (.bool c)
      rw [wd_wcons (by decide), if_neg (by omega), wd_wjoin hv, if_neg (by omega), hb]
      rw [show 0 + 1 + csz vc - 1 - csz vc = 0 by omega, wd_small (bw_lt c)]
      exact bw_cv E c
theorem eLk_runs {kc vc zp : Nat} {tags : List Nat} {ok : Bool} {zv : Value} {f : Nat → Nat} (hM : f = M.get) (ho : o.op = .lookup t x y ok) (hx : okO Y x p 0 = true) (hy : okO Y y q kc = true) (hm : P.underlying t = some (.map kt et)) (hkt : tyKey P kt kc tags = true) (hkc : kc < 65536) (hvc : vc < 65536)
    (hz : zeroOf P et = some zv) (hzp : zp + csz vc ≤ Y.nc) (hzc : conOk Y.con zp vc zv = true) (h : eLk F M p q kc vc tags zp ok K1 = true) : ∃ R, K1 R = true ∧ Runs P Y o (some (if ok then .tup [vc, 0] else .val vc)) F f nx R M.get nx := by
  subst hM
  have mX : x ∈ opList o.op := by simp [opList, ho]
  have mY : y ∈ opList o.op := by simp [opList, ho]
  obtain ⟨ks, hk, htags, hc⟩ := tyKey_spec hkt
  unfold eLk at h
  rw [ck_iff, nz_iff, need_iff, beq_true, shr5] at h
  obtain ⟨h1, h2, h3, h4⟩ := h
  obtain ⟨h5, h6⟩ := kTg_spec h4
  have hh : gw (M.get (gw F p / 32)) 0 = kc * 65536 + vc * 4294967296 + 1 := h3
  have key : ∀ {lm : Nat} E (a : Act) (w : World), FO E Y F a o → MR P E M.get nx lm w → ∃ g es clock xs, a.eval x = .map (some g) ∧ w.heap[g]? = some (.map es clock) ∧ gw (M.get (gw F p / 32)) 1 = es.size ∧ mapRec E kc vc (M.get (gw F p / 32)) 2 es.toList ∧
      a.eval y = S.mkv P kt xs ∧ S.Fit ks xs ∧ ∀ i k, ks[i]? = some k → ∃ v, xs[i]? = some v ∧ cv E (gw F (q + kOff kc + i)) = some v := fun E a w H MM => by
    obtain ⟨g, es, clock, a1, a2, a3, a4, a5⟩ := rdMap MM H mX hx h1 hkc hvc hh
    obtain ⟨xs, b1, b2, b3⟩ := key_vals hk htags hc (rd H mY hy) h2 fun i t hi => (h5 i t hi).1
    exact ⟨g, es, clock, xs, a2, a3, a4, a5, b1, b2, b3⟩
  have hrun : ∀ {a : Act} {w : World} {g : Nat} {es : Array MapEntry} {clock : Nat} {xs : List Value} {r : Option (Nat × Value)}, a.eval x = .map (some g) → w.heap[g]? = some (.map es clock) → a.eval y = S.mkv P kt xs → S.Fit ks xs → Fd P kt ks xs es.toList 0 r →
      (execOp a.eval o).run P w = .ok (.value (match r with | some (_, v) => if ok then .tuple #[v, .bool true] else v | none => if ok then .tuple #[zv, .bool false] else zv)) w := fun {a w g es clock xs r} e1 e2 e3 e4 e5 => by
    have hgo : (getObj g).run P w = .ok (.map es clock) w := by simp [getObj, Sem.run, e2]
    have hck := S.check_flat (P := P) es.isEmpty 10000 kt ks hk w xs e4
    have hfk := findKey_run (w := w) hk e4 e5
    simp only [execOp, ho, e1, e3, Instr.lookup, Sem.run_bind, run_underlying hm, Result.andThen_ok, hgo, Sem.run_pure, hck, hfk]
    cases r with
    | none => simp [zeroVal hz]
    | some r => simp
  rcases eFd_spec h6 with ⟨g1, g2⟩ | ⟨j, g1, g2, g3, g4, g5⟩
  · refine ⟨_, g2, Runs.val fun E a w H MM => ?_⟩
    obtain ⟨g, es, clock, xs, a1, a2, a3, a4, b1, b2, b3⟩ := key E a w H MM
    have hfd := fd_none MM hk htags hc b2 b3 (i := 0) a4 fun j hj => g1 j (by rw [a3]; simpa using hj)
    refine ⟨_, hrun a1 a2 b1 b2 hfd, lkR_sR (gs_lt _ _ _) (vR_move (p := zp) (u := gw F) (vR_move (conOk_vR hzc E) fun i hi => H.con _ (by omega)) fun i hi => ?_) rfl⟩
    rw [wd_gs, if_pos (by omega)]
    congr 1; omega
  · refine ⟨_, g5, Runs.val fun E a w H MM => ?_⟩
    obtain ⟨g, es, clock, xs, a1, a2, a3, a4, b1, b2, b3⟩ := key E a w H MM
    have hj : j < es.toList.length := by rw [a3] at g1; simpa using g1
    obtain ⟨hfd, _⟩ := fd_some MM hk htags hc b2 b3 (i := 0) a4 (List.getElem?_eq_getElem hj) g2 g3 g4
    obtain ⟨_, _, v3⟩ := mapRec_get a4 (List.getElem?_eq_getElem hj)
    refine ⟨_, hrun a1 a2 b1 b2 hfd, lkR_sR (gs_lt _ _ _) (vR_move v3 fun i hi => ?_) rfl⟩
    have e1 : Nat.add (2 + j * Nat.add (csz kc) (csz vc)) (csz kc) = 2 + j * (csz kc + csz vc) + csz kc := rfl
    rw [wd_gs, if_pos (by omega), e1]
    congr 1; omega
/-! ### Storing -/
theorem same_fit {ks : List FK} {xs : List Value} (hk : S.flatK P 10000 kt = some ks) (hx : S.Fit ks xs) : Instr.sameBits 10000 (S.mkv P kt xs) (S.mkv P kt xs) = true := by
  have one : ∀ n (v : Value) (k : FK), S.kindOf v = some k → Instr.sameBits n v v = true := fun n v k h => by
    cases v <;> simp only [S.kindOf, reduceCtorEq] at h <;> cases n <;> simp [Instr.sameBits, S.str_beq]
  have mem : ∀ v ∈ xs, ∃ k, S.kindOf v = some k := fun v hv => by
    obtain ⟨i, hi⟩ := List.getElem?_of_mem hv
    have h := congrArg (·[i]?) hx
    simp only [List.getElem?_map, hi, Option.map_some] at h
    cases hk : ks[i]? with
    | none => rw [hk] at h; cases h
    | some k => rw [hk] at h; simp only [Option.map_some, Option.some.injEq] at h; exact ⟨k, h⟩
  rcases S.shape_of hk with ⟨h1, h2⟩ | ⟨h1, h2⟩
  · obtain ⟨v, rfl⟩ : ∃ v, xs = [v] := List.length_eq_one_iff.1 (by rw [hx.len, h2])
    obtain ⟨k, h⟩ := mem v (List.mem_cons_self ..)
    simp only [S.mkv, h1, if_true, List.headD_cons]
    exact one _ _ _ h
  · have : ∀ n, Instr.sameBits (n + 1) (.agg xs.toArray) (.agg xs.toArray) = true := fun n => by
      simp only [Instr.sameBits, BEq.rfl, Bool.true_and, List.all_eq_true]
      intro u hu
      obtain ⟨i, hi⟩ := List.getElem?_of_mem hu
      simp only [List.getElem?_zip_eq_some] at hi
      obtain ⟨h1, h2⟩ := hi
      rw [h1] at h2
      injection h2 with h2
      obtain ⟨k, h⟩ := mem u.1 (List.mem_of_getElem? (by simpa using h1))
      rw [← h2]
      exact one _ _ _ h
    simp only [S.mkv, h1, Bool.false_eq_true, if_false]
    exact this 9999
theorem MR.putM {E : GE} {f f' : Nat → Nat} {lm : Nat} {w : World} (MM : MR P E f nx lm w) {b k x' clock : Nat} {es : Array MapEntry} (hb : f b ≠ 0) (hE : E b = some (.map k)) (hk : k < w.heap.size) (hx : GR P E x' { w with heap := w.heap.setIfInBounds k (.map es clock) } (.map k)) (hf : ∀ q, f' q = if q = b then x' else f q) :
    MR P E f' nx lm { w with heap := w.heap.setIfInBounds k (.map es clock) } ∧ Go1 E E f f' nx nx w { w with heap := w.heap.setIfInBounds k (.map es clock) } := by
  have hblk : E.blk b = some k := by simp [GE.blk, hE, G.blk]
  have hlive : ∀ q, f' q ≠ 0 → f q ≠ 0 := fun q hq => by rw [hf] at hq; split at hq <;> first | (rename_i e; subst e; exact hb) | exact hq
  have hoth : ∀ j, j ≠ k → (w.heap.setIfInBounds k (.map es clock))[j]? = w.heap[j]? := fun j hj => Array.getElem?_setIfInBounds_ne (fun h => hj h.symm)
  refine ⟨⟨fun q hq => ?_, fun q q' j h h' => MM.inj q q' j (hlive q h) (hlive q' h'), MM.free, fun q j h => by simpa using MM.blt q j h, fun q hq => MM.low q (hlive q hq)⟩, ⟨GE.le_refl E, Nat.le_refl _, rfl, rfl, rfl, by simp, fun j hj hn => hoth j fun e => hn b hb (by rw [hblk, e]), fun q j h h' => by (rw [h] at h'; cases h'), fun q hq => .inl (hlive q hq)⟩⟩
  by_cases e : q = b
  · subst e
    refine ⟨_, hE, ?_⟩
    rw [hf, if_pos rfl]
    exact hx
  · have hq' := hlive q hq
    obtain ⟨g', h2, h3⟩ := MM.obj q hq'
    rw [hf, if_neg e]
    refine ⟨g', h2, h3.move (GE.le_refl E) fun j hj => hoth j fun ej => e ?_⟩
    subst ej
    exact MM.inj q b j hq' hb (by simp [GE.blk, h2, hj]) hblk
/-- A store into a map. -/
def eMu (F : Nat) (M : HT) (nx p q r kc vc : Nat) (tags : List Nat) (K : Nat → HT → Nat → Bool) : Bool :=
  ck (gw F p) 20 (nz (gw F q) (need (Nat.beq (gw (M.get (Nat.shiftRight (gw F p) 5)) 0) (mHdr kc vc)) (need (Nat.blt (gw (M.get (Nat.shiftRight (gw F p) 5)) 1) 4194304) (kTg M F F tags (Nat.add q (kOff kc)) (Nat.add q (kOff kc))
    (eFd M F (M.get (Nat.shiftRight (gw F p) 5)) tags (Nat.add q (kOff kc)) (kOff kc) (Nat.add (csz kc) (csz vc))
      (fun _ u => force (cp (M.get (Nat.shiftRight (gw F p) 5)) (Nat.add u (csz kc)) (csz vc) (gs F r (csz vc))) fun x => M.put x (Nat.shiftRight (gw F p) 5) fun M => K 0 M nx)
      (force (cp (cp (cp (M.get (Nat.shiftRight (gw F p) 5)) (Nat.add 2 (Nat.mul (gw (M.get (Nat.shiftRight (gw F p) 5)) 1) (Nat.add (csz kc) (csz vc)))) (csz kc) (gs F q (csz kc)))
        (Nat.add (Nat.add 2 (Nat.mul (gw (M.get (Nat.shiftRight (gw F p) 5)) 1) (Nat.add (csz kc) (csz vc)))) (csz kc)) (csz vc) (gs F r (csz vc))) 1 1 (Nat.succ (gw (M.get (Nat.shiftRight (gw F p) 5)) 1))) fun x => M.put x (Nat.shiftRight (gw F p) 5) fun M => K 0 M nx)
      (gw (M.get (Nat.shiftRight (gw F p) 5)) 1) 2 0)))))
theorem eMu_runs {kc vc r : Nat} {tags : List Nat} {f : Nat → Nat} (hM : f = M.get) (ho : o.op = .mapUpdate t x y z) (hx : okO Y x p 0 = true) (hy : okO Y y q kc = true) (hz : okO Y z r vc = true) (hm : P.underlying t = some (.map kt et)) (hkt : tyKey P kt kc tags = true) (hkc : kc < 65536) (hvc : vc < 65536)
    (h : eMu F M nx p q r kc vc tags K = true) : ∃ R M', K R M' nx = true ∧ Runs P Y o none F f nx R M'.get nx := by
  subst hM
  have mX : x ∈ opList o.op := by simp [opList, ho]
  have mY : y ∈ opList o.op := by simp [opList, ho]
  have mZ : z ∈ opList o.op := by simp [opList, ho]
  obtain ⟨ks, hk, htags, hc⟩ := tyKey_spec hkt
  unfold eMu at h
  rw [ck_iff, nz_iff, need_iff, need_iff, beq_true, shr5, Nat.blt_eq] at h
  obtain ⟨h1, h2, h3, hn, h4⟩ := h
  obtain ⟨h5, h6⟩ := kTg_spec h4
  have hh : gw (M.get (gw F p / 32)) 0 = kc * 65536 + vc * 4294967296 + 1 := h3
  have key : ∀ {lm : Nat} E (a : Act) (w : World), FO E Y F a o → MR P E M.get nx lm w → ∃ g es clock xs, E (gw F p / 32) = some (.map g) ∧ a.eval x = .map (some g) ∧ w.heap[g]? = some (.map es clock) ∧ gw (M.get (gw F p / 32)) 1 = es.size ∧ mapRec E kc vc (M.get (gw F p / 32)) 2 es.toList ∧
      a.eval y = S.mkv P kt xs ∧ S.Fit ks xs ∧ ∀ i k, ks[i]? = some k → ∃ v, xs[i]? = some v ∧ cv E (gw F (q + kOff kc + i)) = some v := fun E a w H MM => by
    obtain ⟨g, es, clock, a1, a2, a3, a4, a5⟩ := rdMap MM H mX hx h1 hkc hvc hh
    obtain ⟨xs, b1, b2, b3⟩ := key_vals hk htags hc (rd H mY hy) h2 fun i t hi => (h5 i t hi).1
    exact ⟨g, es, clock, xs, a1, a2, a3, a4, a5, b1, b2, b3⟩
  have hrun : ∀ {a : Act} {w : World} {g : Nat} {es : Array MapEntry} {clock : Nat} {xs : List Value} {r : Option (Nat × Value)}, a.eval x = .map (some g) → w.heap[g]? = some (.map es clock) → a.eval y = S.mkv P kt xs → S.Fit ks xs → Fd P kt ks xs es.toList 0 r →
      (∀ i v, r = some (i, v) → ∃ e, es[i]? = some e ∧ e.key = S.mkv P kt xs) →
      (execOp a.eval o).run P w = .ok .skip { w with heap := w.heap.setIfInBounds g (match r with | some (i, _) => .map (es.modify i fun e => { e with key := S.mkv P kt xs, val := a.eval z }) clock | none => .map (es.push { key := S.mkv P kt xs, val := a.eval z, born := clock }) (clock + 1)) } := fun {a w g es clock xs r} e1 e2 e3 e4 e5 e6 => by
    have hgo : (getObj g).run P w = .ok (.map es clock) w := by simp [getObj, Sem.run, e2]
    have hso : ∀ o', (setObj g o').run P w = .ok () { w with heap := w.heap.setIfInBounds g o' } := fun o' => by simp [setObj, Sem.run, e2]
    have hck := S.check_flat (P := P) false 10000 kt ks hk w xs e4
    have hfk := findKey_run (w := w) hk e4 e5
    simp only [execOp, ho, e1, e3, Instr.mapUpdate, Sem.run_bind, run_underlying hm, Result.andThen_ok, hgo, hck, hfk]
    cases r with
    | none => simp only [hso]; rfl
    | some r =>
      obtain ⟨i, v⟩ := r
      obtain ⟨e, g1, g2⟩ := e6 i v rfl
      have hks : (Instr.keyThatStays (S.mkv P kt xs) (S.mkv P kt xs)).run P w = .ok (S.mkv P kt xs) w := by
        simp [Instr.keyThatStays, same_fit hk e4]
      simp only [g1, Option.map_some, Option.getD_some, g2, hks, Sem.run_bind, Result.andThen_ok, hso]
      rfl
  rcases eFd_spec h6 with ⟨g1, g2⟩ | ⟨j, g1, g2, g3, g4, g5⟩
  · rw [force_eq] at g2
    obtain ⟨M', m1, m2⟩ := HT.put_some g2
    refine ⟨0, M', m2, Nat.le_refl _, fun E a w lm hlm H MM K' Q hK => ?_⟩
    obtain ⟨g, es, clock, xs, a0, a1, a2, a3, a4, b1, b2, b3⟩ := key E a w H MM
    have hfd := fd_none MM hk htags hc b2 b3 (i := 0) a4 fun j hj => g1 j (by rw [a3]; simpa using hj)
    have hr := hrun a1 a2 b1 b2 hfd fun i v e => by cases e
    have hg : g < w.heap.size := (Array.getElem?_eq_some_iff.1 a2).1
    generalize hX : M.get (gw F p / 32) = X at *
    have e1 : Nat.add 2 (Nat.mul (gw X 1) (Nat.add (csz kc) (csz vc))) = 2 + es.size * (csz kc + csz vc) := by rw [a3]; rfl
    have e2 : Nat.add (2 + es.size * (csz kc + csz vc)) (csz kc) = 2 + es.size * (csz kc + csz vc) + csz kc := rfl
    have e3 : Nat.succ (gw X 1) = es.size + 1 := by rw [a3]
    rw [e1, e2, e3] at m1
    have hp1 := csz_pos kc
    have hp2 := csz_pos vc
    have hsz : es.size < 4194304 := by rw [← a3]; exact hn
    have G1 : ∀ u, 2 ≤ u → u < 2 + es.size * (csz kc + csz vc) → gw (cp (cp (cp X (2 + es.size * (csz kc + csz vc)) (csz kc) (gs F q (csz kc))) (2 + es.size * (csz kc + csz vc) + csz kc) (csz vc) (gs F r (csz vc))) 1 1 (es.size + 1)) u = gw X u := fun u h1 h2 => by
      rw [gw_cp, if_neg (by omega), gw_cp, if_neg (by omega), gw_cp, if_neg (by omega)]
    have G2 : ∀ u, u < csz kc → gw (cp (cp (cp X (2 + es.size * (csz kc + csz vc)) (csz kc) (gs F q (csz kc))) (2 + es.size * (csz kc + csz vc) + csz kc) (csz vc) (gs F r (csz vc))) 1 1 (es.size + 1)) (2 + es.size * (csz kc + csz vc) + u) = gw F (q + u) := fun u h1 => by
      rw [gw_cp, if_neg (by omega), gw_cp, if_neg (by omega), gw_cp, if_pos (by omega), wd_gs, if_pos (by omega)]
      congr 1; omega
    have G3 : ∀ u, u < csz vc → gw (cp (cp (cp X (2 + es.size * (csz kc + csz vc)) (csz kc) (gs F q (csz kc))) (2 + es.size * (csz kc + csz vc) + csz kc) (csz vc) (gs F r (csz vc))) 1 1 (es.size + 1)) (2 + es.size * (csz kc + csz vc) + csz kc + u) = gw F (r + u) := fun u h1 => by
      rw [gw_cp, if_neg (by omega), gw_cp, if_pos (by omega), wd_gs, if_pos (by omega)]
      congr 1; omega
    obtain ⟨MM', Go⟩ := MM.putM (b := gw F p / 32) (clock := clock + 1) (es := es.push { key := S.mkv P kt xs, val := a.eval z, born := clock }) (f' := M'.get) (by rw [hX]; exact gw_ne (i := 0) (by rw [hh]; omega)) a0 hg
      ⟨es.push { key := S.mkv P kt xs, val := a.eval z, born := clock }, clock + 1, kc, vc, by show (w.heap.setIfInBounds g _)[g]? = _; simp [hg], by rw [gw_cp, if_neg (by omega), gw_cp, if_neg (by omega), gw_cp, if_neg (by omega)]; exact hh, hkc, hvc, by rw [gw_cp, if_pos (by omega), show 1 - 1 = 0 by rfl, wd_small (by omega)]; simp, fun e he => trivial, mapRec_of fun i e he => by
        by_cases hi : i < es.size
        · rw [show (es.push { key := S.mkv P kt xs, val := a.eval z, born := clock }).toList[i]? = es.toList[i]? by rw [Array.toList_push, List.getElem?_append_left (by simpa using hi)]] at he
          obtain ⟨v1, v2, v3⟩ := mapRec_get a4 he
          have hmul : (i + 1) * (csz kc + csz vc) ≤ es.size * (csz kc + csz vc) := Nat.mul_le_mul_right _ hi
          rw [Nat.add_mul] at hmul
          refine ⟨by rw [G1 _ (by omega) (by omega)]; exact v1, vR_move v2 fun u hu => G1 _ (by omega) (by omega), vR_move v3 fun u hu => G1 _ (by omega) (by omega)⟩
        · have hi' : i = es.size := by
            have := (List.getElem?_eq_some_iff.1 he).1
            simp at this; omega
          subst hi'
          simp at he
          subst he
          refine ⟨fun e0 => h2 ((G2 0 hp1).symm.trans e0), ?_, vR_move (rd H mZ hz) fun u hu => G3 u hu⟩
          rw [← b1]
          exact vR_move (rd H mY hy) fun u hu => G2 u hu⟩ m1
    unfold Oper.wp
    rw [hr, Oper.upon_skip]
    exact hK E undef _ Go MM' fun sh e => by cases e
  · rw [force_eq] at g5
    obtain ⟨M', m1, m2⟩ := HT.put_some g5
    refine ⟨0, M', m2, Nat.le_refl _, fun E a w lm hlm H MM K' Q hK => ?_⟩
    obtain ⟨g, es, clock, xs, a0, a1, a2, a3, a4, b1, b2, b3⟩ := key E a w H MM
    have hj : j < es.toList.length := by rw [a3] at g1; simpa using g1
    have hje := List.getElem?_eq_getElem hj
    obtain ⟨hfd, hkey⟩ := fd_some MM hk htags hc b2 b3 (i := 0) a4 hje g2 g3 g4
    rw [Nat.zero_add] at hfd
    have hr := hrun a1 a2 b1 b2 hfd fun i v e => by
      injection e with e
      injection e with e e'
      subst e
      exact ⟨_, by rw [← Array.getElem?_toList]; exact hje, hkey⟩
    have hg : g < w.heap.size := (Array.getElem?_eq_some_iff.1 a2).1
    generalize hX : M.get (gw F p / 32) = X at *
    have e1 : Nat.add (2 + j * Nat.add (csz kc) (csz vc)) (csz kc) = 2 + j * (csz kc + csz vc) + csz kc := rfl
    rw [e1] at m1
    have hp1 := csz_pos kc
    have hp2 := csz_pos vc
    obtain ⟨MM', Go⟩ := MM.putM (b := gw F p / 32) (clock := clock) (es := es.modify j fun e => { e with key := S.mkv P kt xs, val := a.eval z }) (f' := M'.get) (by rw [hX]; exact gw_ne (i := 0) (by rw [hh]; omega)) a0 hg
      ⟨es.modify j fun e => { e with key := S.mkv P kt xs, val := a.eval z }, clock, kc, vc, by show (w.heap.setIfInBounds g _)[g]? = _; simp [hg], by rw [gw_cp, if_neg (by omega)]; exact hh, hkc, hvc, by rw [gw_cp, if_neg (by omega)]; simpa using a3, fun e he => trivial, mapRec_of fun i e he => by
        simp only [Array.toList_modify, List.getElem?_modify] at he
        cases hi : es.toList[i]? with
        | none => rw [hi] at he; cases he
        | some e' =>
          rw [hi] at he
          obtain ⟨v1, v2, v3⟩ := mapRec_get a4 hi
          have hout : ∀ u, ¬ (2 + j * (csz kc + csz vc) + csz kc ≤ u ∧ u < 2 + j * (csz kc + csz vc) + csz kc + csz vc) → gw (cp X (2 + j * (csz kc + csz vc) + csz kc) (csz vc) (gs F r (csz vc))) u = gw X u := fun u hu => by rw [gw_cp, if_neg hu]
          by_cases hij : j = i
          · subst hij
            simp only [if_true, Option.map_eq_map, Option.map_some, Option.some.injEq] at he
            subst he
            refine ⟨by rw [hout _ (by omega)]; exact v1, ?_, ?_⟩
            · show vR E _ _ kc (S.mkv P kt xs)
              have : e' = es.toList[j] := by rw [hje] at hi; exact (Option.some.inj hi).symm
              rw [← hkey, ← this]
              exact vR_move v2 fun u hu => hout _ (by omega)
            · refine vR_move (rd H mZ hz) fun u hu => ?_
              rw [gw_cp, if_pos (by omega), wd_gs, if_pos (by omega)]
              congr 1; omega
          · simp only [if_neg hij, Option.map_eq_map, Option.map_some, id, Option.some.injEq] at he
            subst he
            have hne : (i + 1) * (csz kc + csz vc) ≤ j * (csz kc + csz vc) ∨ (j + 1) * (csz kc + csz vc) ≤ i * (csz kc + csz vc) := by
              rcases Nat.lt_or_gt_of_ne hij with h | h
              · exact .inr (Nat.mul_le_mul_right _ h)
              · exact .inl (Nat.mul_le_mul_right _ h)
            rw [Nat.add_mul, Nat.add_mul] at hne
            exact ⟨by rw [hout _ (by omega)]; exact v1, vR_move v2 fun u hu => hout _ (by omega), vR_move v3 fun u hu => hout _ (by omega)⟩⟩ m1
    unfold Oper.wp
    rw [hr, Oper.upon_skip]
    exact hK E undef _ Go MM' fun sh e => by cases e
end
end
end Go.Rill.VM
end
section
namespace Go.Rill.VM
set_option linter.unusedVariables false
set_option linter.unusedSimpArgs false
open Go.RowKit
noncomputable section
section
variable {P : Program} {Y : Lay} {o : Oper} {F p q : Nat} {M : HT} {nx : Nat} {x y : Operand} {K : Nat → HT → Nat → Bool} {K1 : Nat → Bool} {t s T e : TypeId}
/-- A part of a slice, where this needs no new label. -/
def eSlp (F p : Nat) (lo hi : Option (Nat × Nat)) (sz : Nat) (K : Nat → Bool) : Bool :=
  bd F lo 0 fun l =>
    iff' (Nat.beq (Nat.land (gw F p) 31) 16)
      (bd F hi (sn (gw F p)) fun h => need (Nat.ble l h) (need (Nat.ble h (sn (gw F p))) (need (or (Nat.beq l 0) (Nat.blt l (sn (gw F p))))
        (need (Nat.blt (Nat.add (so (gw F p)) (Nat.mul l sz)) 4194304) (need (Nat.blt (Nat.add (sc (gw F p)) l) 8388608) (K (slw 16 (lb (gw F p)) (Nat.add (so (gw F p)) (Nat.mul l sz)) (Nat.sub h l) (Nat.add (sc (gw F p)) l))))))))
      (need (Nat.beq (Nat.land (gw F p) 31) 15)
        (bd F hi (sn (gw F p)) fun h => need (Nat.ble l h) (need (Nat.ble h (sc (gw F p))) (need (Nat.blt (sc (gw F p)) 4194304) (need (not (Nat.beq l (sc (gw F p))))
          (need (Nat.blt (Nat.add (so (gw F p)) (Nat.mul l sz)) 4194304) (K (slw 15 (lb (gw F p)) (Nat.add (so (gw F p)) (Nat.mul l sz)) (Nat.sub h l) (Nat.sub (sc (gw F p)) l)))))))))
theorem eSlp_runs {sz : Nat} {lo hi : Option (Nat × Nat)} {L H : Option Operand} (ho : o.op = .slice t x L H none) (hx : okO Y x p 0 = true) (hlo : okB Y L lo = true) (hhi : okB Y H hi = true) (ht : tySlice P t e = true) (hs : tySize P e sz = true)
    (h : eSlp F p lo hi sz K1 = true) : ∃ R, K1 R = true ∧ ∀ f nx, Runs P Y o (some (.val 0)) F f nx R f nx := by
  have mX : x ∈ opList o.op := by simp [opList, ho]
  have mL : ∀ Z, L = some Z → Z ∈ opList o.op := fun Z e => by subst e; simp [opList, ho]
  have mH : ∀ Z, H = some Z → Z ∈ opList o.op := fun Z e => by subst e; simp [opList, ho]
  unfold eSlp at h
  obtain ⟨l, h, _, hl⟩ := bd_bnd hlo h mL
  rw [iff'_eq, land31] at h
  have hsn := sn_lt (gw F p)
  have hso := so_lt (gw F p)
  have hlb := lb_lt (gw F p)
  split at h
  · rename_i hk
    have hk := Nat.eq_of_beq_eq_true hk
    obtain ⟨u, h, _, hh⟩ := bd_bnd hhi h mH
    rw [need_iff, need_iff, need_iff, need_iff, need_iff, Nat.ble_eq, Nat.ble_eq, Nat.blt_eq, Nat.blt_eq] at h
    obtain ⟨h1, h2, hc, h3, h4, h⟩ := h
    refine ⟨_, h, fun f nx => Runs.val fun E a w Hf MM => ?_⟩
    obtain ⟨g, T, c, a1, a2, a3, a4⟩ := rdS16 Hf mX hx hk
    have hc' : l = 0 ∨ l < sn (gw F p) := by
      rw [Bool.or_eq_true] at hc
      rcases hc with hc | hc
      · exact .inl (Nat.eq_of_beq_eq_true hc)
      · exact .inr (by simpa using hc)
    have e3 : Nat.add (so (gw F p)) (Nat.mul l sz) = so (gw F p) + l * sz := rfl
    have e2 : Nat.add (sc (gw F p)) l = sc (gw F p) + l := rfl
    have e1 : Nat.sub u l = u - l := rfl
    have hrun := run_sliceG (P := P) (w := w) ho a2 ht hs (hl E a Hf) (hh E a Hf) h1 (by omega)
    have hv : (if c - sc (gw F p) = l then some (⟨g, so (gw F p), none⟩ : Addr) else (some (⟨g, so (gw F p), none⟩ : Addr)).map (·.add (l * sz))) = some ⟨g, so (gw F p) + l * sz, none⟩ := by
      by_cases hcl : c - sc (gw F p) = l
      · rw [if_pos hcl]
        rcases hc' with rfl | hc'
        · rw [Nat.zero_mul, Nat.add_zero]
        · omega
      · rw [if_neg hcl]; simp [add_plain]
    rw [hv, show c - sc (gw F p) - l = c - (sc (gw F p) + l) by omega] at hrun
    rw [e1, e2, e3]
    rw [e3] at h3
    rw [e2] at h4
    exact ⟨_, hrun, slw16 a1 hlb h3 (by omega) h4 (by omega) a4⟩
  · rw [need_iff] at h
    obtain ⟨hk, h⟩ := h
    have hk := Nat.eq_of_beq_eq_true hk
    obtain ⟨u, h, _, hh⟩ := bd_bnd hhi h mH
    rw [need_iff, need_iff, need_iff, need_iff, need_iff, Nat.ble_eq, Nat.ble_eq, Nat.blt_eq, Nat.blt_eq] at h
    obtain ⟨h1, h2, h3, hc, h4, h⟩ := h
    refine ⟨_, h, fun f nx => Runs.val fun E a w Hf MM => ?_⟩
    obtain ⟨g, T, c, a1, a2, a3⟩ := rdS15 Hf mX hx hk
    have hrun := run_sliceG (P := P) (w := w) ho a2 ht hs (hl E a Hf) (hh E a Hf) h1 h2
    have hc' : ¬ sc (gw F p) = l := fun e => by rw [← e, Nat.beq_refl] at hc; cases hc
    have hv : (if sc (gw F p) = l then some (⟨g, so (gw F p), none⟩ : Addr) else (some (⟨g, so (gw F p), none⟩ : Addr)).map (·.add (l * sz))) = some ⟨g, so (gw F p) + l * sz, none⟩ := by
      rw [if_neg hc']; simp [add_plain]
    rw [hv] at hrun
    have e1 : Nat.sub u l = u - l := rfl
    have e2 : Nat.sub (sc (gw F p)) l = sc (gw F p) - l := rfl
    have e3 : Nat.add (so (gw F p)) (Nat.mul l sz) = so (gw F p) + l * sz := rfl
    rw [e1, e2, e3]
    rw [e3] at h4
    exact ⟨_, hrun, slw15 a1 hlb h4 (by omega) (by omega) (by omega)⟩
/-- A method of an interface's value, as a value. -/
def eMth (F p T nm : Nat) (K : Nat → Bool) : Bool :=
  ck (gw F p) 22 (need (Nat.beq (Nat.land (Nat.shiftRight (gw F p) 5) 65535) T) (need (Nat.beq (Nat.shiftRight (gw F p) 45) 0) (need (Nat.blt nm 65536)
    (K (Nat.add (Nat.shiftLeft (Nat.add T (Nat.add (Nat.shiftLeft (Nat.mod (Nat.shiftRight (gw F p) 21) 16777216) 16) (Nat.shiftLeft nm 40))) 5) 26)))))
theorem land16 (w : Nat) : Nat.land w 65535 = w % 65536 := Nat.and_two_pow_sub_one_eq_mod w 16
theorem shr45 (w : Nat) : Nat.shiftRight w 45 = w / 35184372088832 := Nat.shiftRight_eq_div_pow _ _
theorem shr21 (w : Nat) : Nat.shiftRight w 21 = w / 2097152 := Nat.shiftRight_eq_div_pow _ _
/-- An interface's word: its type, where it points. -/
theorem rdIf {E : GE} {a : Act} (H : FO E Y F a o) (hx : x ∈ opList o.op) (h : okO Y x p 0 = true) (hk : gw F p % 32 = 22) : ∃ g T' c, E (gw F p / 2097152 % 16777216) = some (.obj g T' c) ∧ a.eval x = .iface (gw F p / 32 % 65536) (.pointer (some ⟨g, gw F p / 35184372088832, none⟩)) := by
  have h1 := rd1 H hx h (mod_ne hk (by decide))
  unfold cv at h1
  rw [hk] at h1
  simp only [cvt, Option.map_eq_some_iff] at h1
  obtain ⟨a', h2, h3⟩ := h1
  obtain ⟨g, T', c, h4, rfl⟩ := GE.pt_some h2
  have e1 : gw F p / 32 / 65536 = gw F p / 2097152 := Nat.div_div_eq_div_mul _ _ _
  have e2 : gw F p / 32 / 1099511627776 = gw F p / 35184372088832 := Nat.div_div_eq_div_mul _ _ _
  rw [e1] at h4
  rw [e2] at h3
  exact ⟨g, T', c, h4, h3.symm⟩
theorem mthw {T b n : Nat} (hT : T < 65536) (hb : b < 16777216) (hn : n < 65536) (k : Nat) (hk : k < 32) : let r := (T + (b * 65536 + n * 1099511627776)) * 32 + k; r % 32 = k ∧ r / 32 % 65536 = T ∧ r / 32 / 65536 % 16777216 = b ∧ r / 32 / 1099511627776 = n ∧ r < 2 ^ 96 := by
  intro r
  have e : r = (T + (b * 65536 + n * 1099511627776)) * 32 + k := rfl
  rw [e]
  omega
theorem eMth_runs {nm : Nat} (ho : o.op = .makeFunc (.method (mthName nm)) #[x] #[]) (hx : okO Y x p 0 = true) (hT : @LT.lt Nat instLTNat T 65536) (h : eMth F p T nm K1 = true) : ∃ R, K1 R = true ∧ ∀ f nx, Runs P Y o (some (.val 0)) F f nx R f nx := by
  have mX : x ∈ opList o.op := by simp [opList, ho]
  unfold eMth at h
  rw [ck_iff, need_iff, need_iff, need_iff, Nat.blt_eq] at h
  obtain ⟨hk, h1, h2, h3, h⟩ := h
  have h1 := Nat.eq_of_beq_eq_true h1
  have h2 := Nat.eq_of_beq_eq_true h2
  rw [land16, shr5] at h1
  rw [shr45] at h2
  refine ⟨_, h, fun f nx => Runs.val fun E a w Hf MM => ?_⟩
  obtain ⟨g, T', c, a1, a2⟩ := rdIf Hf mX hx hk
  rw [h1, h2] at a2
  have e5 : ∀ u k, Nat.shiftLeft u k = u * 2 ^ k := fun u k => Nat.shiftLeft_eq u k
  have ee : Nat.add (Nat.shiftLeft (Nat.add T (Nat.add (Nat.shiftLeft (Nat.mod (Nat.shiftRight (gw F p) 21) 16777216) 16) (Nat.shiftLeft nm 40))) 5) 26 = (T + (gw F p / 2097152 % 16777216 * 65536 + nm * 1099511627776)) * 32 + 26 := by
    rw [e5, e5, e5, shr21]; rfl
  rw [ee]
  obtain ⟨q1, q2, q3, q4, q5⟩ := mthw (T := T) (b := gw F p / 2097152 % 16777216) (n := nm) hT (by omega) h3 26 (by decide)
  have hrun : (execOp a.eval o).run P w = .ok (.value (.func (.method (mthName nm)) #[.iface T (.pointer (some ⟨g, 0, none⟩))] #[])) w := by
    simp [execOp, ho, a2, Instr.makeFunc]
  refine ⟨_, hrun, sR_one q5 ?_⟩
  unfold cv
  rw [q1]
  simp only [cvt, q2, q3, q4, GE.pt, a1, Option.map_some]
/-- Such a value, held against nil. -/
def eNkm (F p T nm : Nat) (K : Nat → Bool) : Bool :=
  ck (gw F p) 26 (need (Nat.beq (Nat.land (Nat.shiftRight (gw F p) 5) 65535) T) (need (Nat.beq (Nat.shiftRight (gw F p) 45) nm) (K (gw F p))))
/-- A type's method, of its pointers. -/
def tyMth (P : Program) (T : TypeId) (name : String) (f : Nat) : Bool := match P.info? T with
  | some i => (match i.methods.find? (·.name == name) with
    | some m => m.path.isEmpty && (match m.func with | some (g, true) => Nat.beq g f | _ => false)
    | none => false) && (match P.underlying T with | some (.pointer _) => true | _ => false)
  | none => false
theorem tyMth_spec {name : String} {f : Nat} (h : tyMth P T name f = true) : ∃ i m el, P.info? T = some i ∧ i.methods.find? (·.name == name) = some m ∧ m.path.toList = [] ∧ m.path.isEmpty = true ∧ m.func = some (f, true) ∧ P.underlying T = some (.pointer el) := by
  unfold tyMth at h
  split at h
  · rename_i i hi
    rw [Bool.and_eq_true] at h
    obtain ⟨h1, h2⟩ := h
    split at h1
    · rename_i m hm
      rw [Bool.and_eq_true] at h1
      obtain ⟨h3, h4⟩ := h1
      split at h4
      · rename_i g hg
        have := Nat.eq_of_beq_eq_true h4
        subst this
        split at h2
        · rename_i el hu
          exact ⟨i, m, el, hi, hm, by simpa [Array.isEmpty_iff] using h3, h3, hg, hu⟩
        · cases h2
      · cases h4
    · cases h1
  · cases h
theorem eNkm_runs {nm f0 : Nat} (ho : o.op = .nilCheck x) (hx : okO Y x p 0 = true) (ht : tyMth P T (mthName nm) f0 = true) (h : eNkm F p T nm K1 = true) : ∃ R, K1 R = true ∧ ∀ f nx, Runs P Y o (some (.val 0)) F f nx R f nx := by
  have mX : x ∈ opList o.op := by simp [opList, ho]
  unfold eNkm at h
  rw [ck_iff, need_iff, need_iff] at h
  obtain ⟨hk, h1, h2, h⟩ := h
  have h1 := Nat.eq_of_beq_eq_true h1
  have h2 := Nat.eq_of_beq_eq_true h2
  rw [land16, shr5] at h1
  rw [shr45] at h2
  refine ⟨_, h, fun f nx => Runs.val fun E a w Hf MM => ?_⟩
  have hcv := rd1 Hf mX hx (mod_ne hk (by decide))
  have hv := hcv
  unfold cv at hv
  rw [hk] at hv
  simp only [cvt, Option.map_eq_some_iff] at hv
  obtain ⟨a', h4, h5⟩ := hv
  have e2 : gw F p / 32 / 1099511627776 = gw F p / 35184372088832 := Nat.div_div_eq_div_mul _ _ _
  rw [e2, h2, h1] at h5
  obtain ⟨i, m, el, g1, g2, g3, g4, g5, g6⟩ := tyMth_spec ht
  have hna : ∀ n, (nilAhead (n + 1) T (.pointer (some a')) (mthName nm)).run P w = .ok (some false) w := fun n => by
    unfold nilAhead
    simp [typeInfo, g1, g2, g3, followBlind, g5]
  have hfuel : ∃ n, P.types.size + Made.depth = n + 1 := ⟨P.types.size + Made.depth - 1, by simp [Made.depth]⟩
  obtain ⟨n, hfuel⟩ := hfuel
  refine ⟨a.eval x, ?_, sR_one (gw_lt _ _) hcv⟩
  rw [← h5]
  have hprog : ∀ (k : Program → Sem Next), (Sem.run P (do let p ← program; k p) w) = (k P).run P w := fun k => by simp
  simp only [execOp, ho, ← h5, Sem.run_bind]
  simp [hfuel, hna n]
/-- A function with one pointer of its own. -/
def eMkf (F p f : Nat) (K : Nat → Bool) : Bool :=
  ck (gw F p) 13 (need (Nat.blt (ofs (gw F p)) 65536) (K (Nat.add (Nat.shiftLeft (Nat.add f (Nat.add (Nat.shiftLeft (lb (gw F p)) 16) (Nat.shiftLeft (ofs (gw F p)) 40))) 5) 27)))
theorem eMkf_runs {f0 : Nat} (ho : o.op = .makeFunc (.func f0) #[] #[x]) (hx : okO Y x p 0 = true) (hf : f0 < 65536) (h : eMkf F p f0 K1 = true) : ∃ R, K1 R = true ∧ ∀ f nx, Runs P Y o (some (.val 0)) F f nx R f nx := by
  have mX : x ∈ opList o.op := by simp [opList, ho]
  unfold eMkf at h
  rw [ck_iff, need_iff, Nat.blt_eq] at h
  obtain ⟨hk, h3, h⟩ := h
  refine ⟨_, h, fun f nx => Runs.val fun E a w Hf MM => ?_⟩
  obtain ⟨g, T', c, a1, a2⟩ := rdPtr Hf mX hx hk
  have e5 : ∀ u k, Nat.shiftLeft u k = u * 2 ^ k := fun u k => Nat.shiftLeft_eq u k
  have ee : Nat.add (Nat.shiftLeft (Nat.add f0 (Nat.add (Nat.shiftLeft (lb (gw F p)) 16) (Nat.shiftLeft (ofs (gw F p)) 40))) 5) 27 = (f0 + (lb (gw F p) * 65536 + ofs (gw F p) * 1099511627776)) * 32 + 27 := by
    rw [e5, e5, e5]; rfl
  rw [ee]
  obtain ⟨q1, q2, q3, q4, q5⟩ := mthw (T := f0) (b := lb (gw F p)) (n := ofs (gw F p)) hf (lb_lt _) h3 27 (by decide)
  have hrun : (execOp a.eval o).run P w = .ok (.value (.func (.func f0) #[] #[.pointer (some ⟨g, ofs (gw F p), none⟩)])) w := by
    simp [execOp, ho, a2, Instr.makeFunc]
  refine ⟨_, hrun, sR_one q5 ?_⟩
  unfold cv
  rw [q1]
  simp only [cvt, q2, q3, q4, GE.pt, a1, Option.map_some]
/-- The least of three. -/
def eMn3 (F t p q r : Nat) (K : Nat → Bool) : Bool :=
  ck (gw F p) t (ck (gw F q) t (ck (gw F r) t (iff' (Nat.ble (gw F p) (gw F q)) (iff' (Nat.ble (gw F p) (gw F r)) (K (gw F p)) (K (gw F r))) (iff' (Nat.ble (gw F q) (gw F r)) (K (gw F q)) (K (gw F r))))))
theorem eMn3_runs {z : Operand} {r : Nat} {k : IntKind} {args : List Operand} {ts : Array TypeId} (ho : o.op = .call { callee := .builtin .min, args := args.toArray, argTypes := ts }) (ha : args = [x, y, z]) (hx : okO Y x p 0 = true) (hy : okO Y y q 0 = true) (hz : okO Y z r 0 = true) (h : eMn3 F (tg k) p q r K1 = true) : ∃ R, K1 R = true ∧ ∀ f nx, Runs P Y o (some (.val 0)) F f nx R f nx := by
  have mX : x ∈ opList o.op := by simp [opList, ho, ha]
  have mY : y ∈ opList o.op := by simp [opList, ho, ha]
  have mZ : z ∈ opList o.op := by simp [opList, ho, ha]
  have ht := tg_pos k
  unfold eMn3 at h
  rw [ck_iff, ck_iff, ck_iff, iff'_eq, iff'_eq, iff'_eq] at h
  obtain ⟨h1, h2, h3, h⟩ := h
  have key : ∀ R, (∀ a : Int, a = ((R / 32 : Nat) : Int) - 18446744073709551616 → R % 32 = tg k → R < 2 ^ 96 → True) → True := fun _ _ => trivial
  have fin : ∀ R, R < 2 ^ 96 → R % 32 = tg k → (((R / 32 : Nat) : Int) - 18446744073709551616 = (if ((gw F r / 32 : Nat) : Int) - 18446744073709551616 < (if ((gw F q / 32 : Nat) : Int) - 18446744073709551616 < ((gw F p / 32 : Nat) : Int) - 18446744073709551616 then ((gw F q / 32 : Nat) : Int) - 18446744073709551616 else ((gw F p / 32 : Nat) : Int) - 18446744073709551616) then ((gw F r / 32 : Nat) : Int) - 18446744073709551616 else (if ((gw F q / 32 : Nat) : Int) - 18446744073709551616 < ((gw F p / 32 : Nat) : Int) - 18446744073709551616 then ((gw F q / 32 : Nat) : Int) - 18446744073709551616 else ((gw F p / 32 : Nat) : Int) - 18446744073709551616))) → ∀ f nx, Runs P Y o (some (.val 0)) F f nx R f nx := fun R r1 r2 r3 f nx => Runs.val fun E a w Hf MM => by
    refine ⟨_, run_min3 ho ha (rdInt Hf mX hx h1) (rdInt Hf mY hy h2) (rdInt Hf mZ hz h3), sR_one r1 ?_⟩
    rw [cv_int r2, r3]
  have b1 := gw_lt F p
  have b2 := gw_lt F q
  have b3 := gw_lt F r
  split at h
  · rename_i c1
    have c1 := Nat.le_of_ble_eq_true c1
    split at h
    · rename_i c2
      have c2 := Nat.le_of_ble_eq_true c2
      exact ⟨_, h, fin _ b1 h1 (by split <;> split <;> omega)⟩
    · rename_i c2
      have c2 : ¬ gw F p ≤ gw F r := fun h => c2 (Nat.ble_eq_true_of_le h)
      exact ⟨_, h, fin _ b3 h3 (by split <;> split <;> omega)⟩
  · rename_i c1
    have c1 : ¬ gw F p ≤ gw F q := fun h => c1 (Nat.ble_eq_true_of_le h)
    split at h
    · rename_i c2
      have c2 := Nat.le_of_ble_eq_true c2
      exact ⟨_, h, fin _ b2 h2 (by split <;> split <;> omega)⟩
    · rename_i c2
      have c2 : ¬ gw F q ≤ gw F r := fun h => c2 (Nat.ble_eq_true_of_le h)
      exact ⟨_, h, fin _ b3 h3 (by split <;> split <;> omega)⟩
/-- So many noughts behind no slice. -/
def eApz (F : Nat) (M : HT) (nx p q t z sz T : Nat) (K : Nat → HT → Nat → Bool) : Bool :=
  ck (gw F p) 14 (bd F (some (q, t)) 0 fun n => need (Nat.blt 0 n) (eApn M nx T n (rep (gs F z sz) sz n) K))
theorem eApz_runs {tn : TypeId} {kn : IntKind} {z t2 sz bytes : Nat} {zv : Value} {f : Nat → Nat} {args : List Operand} {ts : List TypeId} (hM : f = M.get) (ho : o.op = .call { callee := .builtin .append, args := args.toArray, argTypes := ts.toArray }) (ha : args = [x, y]) (hts : ts = [t, tn]) (hx : okO Y x p 0 = true) (hy : okB Y (some y) (some (q, t2)) = true)
    (ht : tySlice P t e = true) (htn : P.underlying tn = some (.int kn)) (hzz : zeroOf P e = some zv) (hq : z + sz ≤ Y.nc) (hc : conL Y.con z zv.cells.toList = true) (hn : zv.cells.toList.length = sz) (hz : tyZero P e sz = true) (hb : tyBytes' P e bytes = true) (hs : tySize P e sz = true) (h0 : 0 < sz) (hT : e < 18446744073709551616) (hby : bytes + 1 ≤ 33554432)
    (h : eApz F M nx p q t2 z sz e K = true) : ∃ R M' nx', K R M' nx' = true ∧ Runs P Y o (some (.val 0)) F f nx R M'.get nx' := by
  subst hM
  have mX : x ∈ opList o.op := by simp [opList, ho, ha]
  have mY : ∀ Z', some y = some Z' → Z' ∈ opList o.op := fun Z' e => by injection e with e; subst e; simp [opList, ho, ha]
  unfold eApz at h
  rw [ck_iff] at h
  obtain ⟨hk, h⟩ := h
  obtain ⟨n, h, _, hnn⟩ := bd_bnd hy h mY
  rw [need_iff, Nat.blt_eq] at h
  obtain ⟨hn0, h⟩ := h
  obtain ⟨hn4, hnx, M2, h6, h7⟩ := eApn_spec h
  refine ⟨_, M2, _, h7, Nat.le_succ _, fun E a w lm hlm H MM K' Q hK => ?_⟩
  obtain ⟨b, c, a2, a3, _⟩ := rdS0 H mX hx (.inl hk)
  obtain ⟨rfl, rfl⟩ := a3 hk
  obtain ⟨k1, x1, hx1, e1⟩ := hnn E a H
  unfold tyZero at hz
  unfold tyBytes' at hb
  cases hi : P.info? e with
  | none => rw [hi] at hz; cases hz
  | some i =>
    rw [hi] at hz hb
    simp only [Bool.and_eq_true, beq_iff_eq] at hz hb
    cases hz2 : i.zero with
    | none => rw [hz2] at hz; cases hz.2
    | some zz =>
      have hzv : zz = zv := by
        unfold zeroOf at hzz
        rw [hi] at hzz
        simp only [Option.bind_some, hz2] at hzz
        exact Option.some.inj hzz
      subst hzv
      have hzs : zz.cells.size = sz := by simpa using hn
      have hmul : n * i.bytes ≤ 4194304 * 33554432 := Nat.mul_le_mul (by omega) (by omega)
      have hr := Lib.run_append_nil_zeros (P := P) w t tn o.type e i zz k1 kn (slice_und ht) htn hi hz2 n hn0 (by rw [hz.1]; exact h0) (by omega) (by omega)
      have hge := grownCap_ge w n 0 e
      have hcm : grownCap w n 0 e ≤ maxLen := grownCap_le_maxLen w n 0 e (by simp only [maxLen]; omega)
      generalize grownCap w n 0 e = cap at *
      generalize hcs : Builtin.zeroCells zz.cells n ++ Builtin.zeroCells zz.cells (cap - n) = cs at *
      have hsz1 : (Builtin.zeroCells zz.cells n).size = n * sz := by simp [Builtin.zeroCells, hzs]
      have hsize : cs.size = cap * sz := by
        rw [← hcs]
        simp only [Array.size_append, hsz1]
        simp only [Builtin.zeroCells, Array.size_map, Array.size_range, hzs, ← Nat.add_mul]
        congr 1
        omega
      have htake : cs.toList.take (n * sz) = (Builtin.zeroCells zz.cells n).toList := by
        rw [← hcs, Array.toList_append, ← hsz1]
        exact List.take_left' (by simp)
      have hrun : (execOp a.eval o).run P w = .ok (.value (.slice (some ⟨w.heap.size, 0, none⟩) n cap)) (w.drew.alloc (.cells cs e)) := by
        subst ha hts
        rw [← e1] at hr
        simp only [execOp, ho, resolve, Sem.run_bind, Sem.run_pure, Result.andThen_ok, invoke, builtin, List.map_toArray, List.map_cons, List.map_nil, a2, hx1, hr]
      have zget : ∀ i', i' < n * sz → ∃ u, (Builtin.zeroCells zz.cells n).toList[i']? = some u ∧ zz.cells.toList[i' % sz]? = some u := fun i' hi' => by
        have hm : i' % sz < sz := Nat.mod_lt _ h0
        refine ⟨zz.cells[i' % sz], ?_, by simp⟩
        simp only [Builtin.zeroCells, Array.toList_map, List.getElem?_map, Array.toList_range, hzs, List.getElem?_range hi', Option.map_some]
        rw [getElem!_pos zz.cells _ (by omega)]
      have hone : ∀ u ∈ (Builtin.zeroCells zz.cells n).toList, u.oneCell' = true := fun u hu => by
        obtain ⟨j, hj⟩ := List.getElem?_of_mem hu
        have hjl : j < n * sz := by have := (List.getElem?_eq_some_iff.1 hj).1; simpa [hsz1] using this
        obtain ⟨u', g1, g2⟩ := zget j hjl
        rw [hj] at g1
        injection g1 with g1
        subst g1
        exact (con1_cv (conL_get hc _ _ g2) E).2
      have hx' : Ext w (w.drew.alloc (.cells cs e)) := (Ext.drew w).trans (Ext.alloc _ _)
      obtain ⟨MM', G⟩ := MM.add (by omega) (g := .obj w.heap.size e cap) (f' := M2.get) (x := mkx e (rep (gs F z sz) sz n)) (w' := w.drew.alloc (.cells cs e)) hx' (fun k hk => by injection hk with hk; subst hk; exact ⟨Nat.le_refl _, by simp⟩) (grown_GR hT hs (by show (w.heap.push _)[w.heap.size]? = _; simp) hsize htake hone fun i' hi' => by
        rw [wd_rep (gs_lt _ _ _) h0] at hi' ⊢
        split at hi'
        · rename_i hlt
          rw [if_pos hlt]
          have hm : i' % sz < sz := Nat.mod_lt _ h0
          rw [wd_gs, if_pos hm, H.con _ (by omega)]
          obtain ⟨u, g1, g2⟩ := zget i' hlt
          exact ⟨hlt, u, (con1_cv (conL_get hc _ _ g2) _).1, g1⟩
        · exact absurd rfl hi') h6
      unfold Oper.wp
      rw [hrun, Oper.upon_value]
      exact hK _ _ _ G MM' fun sh hs => by
        injection hs with hs
        subst hs
        exact grown_sR (T := e) (by simp [GE.set]) hnx hn4 hge hcm
end
end
end Go.Rill.VM
end
section
namespace Go.Rill.VM
set_option linter.unusedVariables false
set_option linter.unusedSimpArgs false
open Go.RowKit
noncomputable section
section
variable {P : Program} {Y : Lay} {o : Oper} {F p q : Nat} {M : HT} {nx : Nat} {x y : Operand} {K : Nat → HT → Nat → Bool} {K1 : Nat → Bool} {t s T e : TypeId}
/-- So many words stored. -/
theorem putN {E : GE} {f f' : Nat → Nat} {lm : Nat} {w : World} (MM : MR P E f nx lm w) {b g T c O X m : Nat} {vs : List Value} (hE : E b = some (.obj g T c)) (hm : vs.length = m) (h0 : 0 < m) (h4 : gw (f b) (O + m) ≠ 0) (hv1 : ∀ v ∈ vs, v.oneCell' = true)
    (hX : ∀ i, i < m → wd X i ≠ 0 → ∃ u, cv E (wd X i) = some u ∧ vs[i]? = some u) (hf : ∀ q, f' q = if q = b then cp (f b) (O + 1) m X else f q) :
    ∃ cs, w.heap[g]? = some (.cells cs T (0, 0)) ∧ O + m ≤ cs.size ∧ MR P E f' nx lm (w.setRow g (cs.toList.take O ++ vs ++ cs.toList.drop (O + m)).toArray) ∧ Go1 E E f f' nx nx w (w.setRow g (cs.toList.take O ++ vs ++ cs.toList.drop (O + m)).toArray) := by
  obtain ⟨n, rfl⟩ : ∃ n, m = n + 1 := ⟨m - 1, by omega⟩
  have h4' : gw (f b) (O + n + 1) ≠ 0 := h4
  obtain ⟨cs, lim, h12, h13, h14, h15, h16⟩ := MM.cell hE h4'
  obtain ⟨hlim, v, h17, h18⟩ := h16 _ h4'
  have hlt : O + n < cs.size := (Array.getElem?_eq_some_iff.1 h18).1
  have hlen : (cs.toList.take O ++ vs ++ cs.toList.drop (O + (n + 1))).length = cs.size := by
    simp only [List.length_append, List.length_take, List.length_drop, Array.length_toList]; omega
  obtain ⟨MM', G⟩ := MM.put (lim := lim) (f' := f') (x' := cp (f b) (O + 1) (n + 1) X) (cs' := (cs.toList.take O ++ vs ++ cs.toList.drop (O + (n + 1))).toArray) (gw_ne h4') hE h12 (by rw [gw_cp, if_neg (by omega)]; exact h14) (fun u hu => by
    obtain ⟨j, hj⟩ := List.getElem?_of_mem hu
    rw [List.getElem?_take] at hj
    split at hj
    · rename_i hjl
      by_cases e4 : j < O
      · rw [List.getElem?_append_left (by simp; omega), List.getElem?_append_left (by simp; omega), List.getElem?_take_of_lt e4] at hj
        exact h13 u (List.mem_of_getElem? (i := j) (by rw [List.getElem?_take, if_pos hjl]; exact hj))
      · by_cases e5 : j < O + (n + 1)
        · rw [List.getElem?_append_left (by simp; omega), List.getElem?_append_right (by simp; omega)] at hj
          exact hv1 u (List.mem_of_getElem? hj)
        · rw [List.getElem?_append_right (by simp; omega)] at hj
          simp only [List.length_append, List.length_take, Array.length_toList, List.getElem?_drop] at hj
          rw [show O + (n + 1) + (j - (min O cs.size + vs.length)) = j by omega] at hj
          exact h13 u (List.mem_of_getElem? (i := j) (by rw [List.getElem?_take, if_pos hjl]; exact hj))
    · cases hj) (by rw [List.size_toArray, hlen]; exact h15) (fun i hi => by
    rw [gw_cp] at hi ⊢
    simp only [List.getElem?_toArray]
    by_cases e : O ≤ i ∧ i < O + (n + 1)
    · rw [if_pos (by omega)] at hi ⊢
      have e2 : i + 1 - (O + 1) = i - O := by omega
      rw [e2] at hi ⊢
      obtain ⟨u, a1, a2⟩ := hX (i - O) (by omega) hi
      refine ⟨by omega, u, a1, ?_⟩
      rw [List.getElem?_append_left (by simp; omega), List.getElem?_append_right (by simp; omega)]
      simp only [List.length_take, Array.length_toList]
      rw [Nat.min_eq_left (by omega)]
      exact a2
    · rw [if_neg (by omega)] at hi ⊢
      obtain ⟨a0, u, a1, a2⟩ := h16 i hi
      refine ⟨a0, u, a1, ?_⟩
      by_cases e4 : i < O
      · rw [List.getElem?_append_left (by simp; omega), List.getElem?_append_left (by simp; omega), List.getElem?_take_of_lt e4]
        rw [Array.getElem?_toList]; exact a2
      · rw [List.getElem?_append_right (by simp; omega)]
        simp only [List.length_append, List.length_take, Array.length_toList, List.getElem?_drop]
        rw [show O + (n + 1) + (i - (min O cs.size + vs.length)) = i by omega]
        rw [Array.getElem?_toList]; exact a2) hf
  exact ⟨cs, h12, by omega, MM', G⟩
/-- A slice's items are cleared. -/
def eClr (F : Nat) (M : HT) (nx p z sz : Nat) (K : Nat → HT → Nat → Bool) : Bool :=
  slK (gw F p) (iff' (Nat.beq (sn (gw F p)) 0) (K 0 M nx) (nz (gw (M.get (lb (gw F p))) (Nat.add (so (gw F p)) (Nat.mul (sn (gw F p)) sz)))
    (force (cp (M.get (lb (gw F p))) (Nat.add (so (gw F p)) 1) (Nat.mul (sn (gw F p)) sz) (rep (gs F z sz) sz (sn (gw F p)))) fun x => M.put x (lb (gw F p)) fun M => K 0 M nx))) (K 0 M nx)
theorem eClr_runs {z sz : Nat} {zv : Value} {f : Nat → Nat} {args : List Operand} {ts : List TypeId} (hM : f = M.get) (ho : o.op = .call { callee := .builtin .clear, args := args.toArray, argTypes := ts.toArray }) (ha : args = [x]) (hts : ts = [t]) (hx : okO Y x p 0 = true) (ht : tySlice P t e = true)
    (hzz : zeroOf P e = some zv) (hq : z + sz ≤ Y.nc) (hc : conL Y.con z zv.cells.toList = true) (hn : zv.cells.toList.length = sz) (h0 : 0 < sz) (h : eClr F M nx p z sz K = true) : ∃ R M', K R M' nx = true ∧ Runs P Y o none F f nx R M'.get nx := by
  subst hM
  have mX : x ∈ opList o.op := by simp [opList, ho, ha]
  have hnone : ∀ {a : Act} {w : World} {b : Option Addr} {c : Nat}, a.eval x = .slice b 0 c → (execOp a.eval o).run P w = .ok (.value (.tuple #[])) w := fun {a w b c} e1 => by
    subst ha hts
    cases b <;> simp [execOp, ho, resolve, invoke, builtin, e1, Builtin.clear_, run_underlying (slice_und ht)]
  have hsame : (∀ {lm : Nat} E a w, FO E Y F a o → MR P E M.get nx lm w → ∃ b c, a.eval x = .slice b 0 c) → Runs P Y o none F M.get nx 0 M.get nx := fun hh => ⟨Nat.le_refl _, fun E a w lm hlm H MM K' Q hK => by
    obtain ⟨b, c, e1⟩ := hh E a w H MM
    unfold Oper.wp
    rw [hnone e1, Oper.upon_value]
    exact hK E _ w Go1.refl MM fun sh e => by cases e⟩
  rcases slK_iff h with ⟨hk, h⟩ | ⟨hk, h⟩
  · rw [iff'_eq] at h
    split at h
    · rename_i hz
      have hz := Nat.eq_of_beq_eq_true hz
      refine ⟨0, M, h, hsame fun E a w H MM => ?_⟩
      obtain ⟨g, T, c, C, a1, a2, a3⟩ := rdS H mX hx hk
      rw [hz] at a2
      exact ⟨_, _, a2⟩
    · rename_i hz
      have hz : sn (gw F p) ≠ 0 := fun e => hz (by rw [e]; rfl)
      rw [nz_iff, force_eq] at h
      obtain ⟨h4, h⟩ := h
      obtain ⟨M', h6, h7⟩ := HT.put_some h
      refine ⟨0, M', h7, Nat.le_refl _, fun E a w lm hlm H MM K' Q hK => ?_⟩
      obtain ⟨g, T, c, C, a1, a2, a3⟩ := rdS H mX hx hk
      have hzs : zv.cells.size = sz := by simpa using hn
      generalize hN : sn (gw F p) = N at *
      have zget : ∀ i', i' < N * sz → ∃ u, (Builtin.zeroCells zv.cells N).toList[i']? = some u ∧ zv.cells.toList[i' % sz]? = some u := fun i' hi' => by
        have hm : i' % sz < sz := Nat.mod_lt _ h0
        refine ⟨zv.cells[i' % sz], ?_, by simp⟩
        simp only [Builtin.zeroCells, Array.toList_map, List.getElem?_map, Array.toList_range, hzs, List.getElem?_range hi', Option.map_some]
        rw [getElem!_pos zv.cells _ (by omega)]
      have hlen : (Builtin.zeroCells zv.cells N).toList.length = N * sz := by simp [Builtin.zeroCells, hzs]
      have hone : ∀ u ∈ (Builtin.zeroCells zv.cells N).toList, u.oneCell' = true := fun u hu => by
        obtain ⟨j, hj⟩ := List.getElem?_of_mem hu
        have hjl : j < N * sz := by have := (List.getElem?_eq_some_iff.1 hj).1; rwa [hlen] at this
        obtain ⟨u', g1, g2⟩ := zget j hjl
        rw [hj] at g1
        injection g1 with g1
        subst g1
        exact (con1_cv (conL_get hc _ _ g2) E).2
      have e1 : Nat.mul N sz = N * sz := rfl
      have e2 : Nat.add (so (gw F p)) 1 = so (gw F p) + 1 := rfl
      rw [e1, e2] at h6
      have hpos : 0 < N * sz := Nat.mul_pos (by omega) h0
      obtain ⟨cs, c1, c2, MM', G⟩ := putN MM (f' := M'.get) (O := so (gw F p)) (X := rep (gs F z sz) sz N) a1 hlen hpos h4 hone (fun i' hi' hne => by
        rw [wd_rep (gs_lt _ _ _) h0, if_pos hi'] at hne ⊢
        have hm : i' % sz < sz := Nat.mod_lt _ h0
        rw [wd_gs, if_pos hm, H.con _ (by omega)]
        obtain ⟨u, g1, g2⟩ := zget i' hi'
        exact ⟨u, (con1_cv (conL_get hc _ _ g2) _).1, g1⟩) h6
      have hrun : (execOp a.eval o).run P w = .ok (.value (.tuple #[])) (w.setRow g (cs.toList.take (so (gw F p)) ++ (Builtin.zeroCells zv.cells N).toList ++ cs.toList.drop (so (gw F p) + N * sz)).toArray) := by
        subst ha hts
        have hst := run_storeCells_at P g (so (gw F p)) T (Builtin.zeroCells zv.cells N).toList 0 cs w c1 (by rw [hlen]; omega) hone
        rw [Nat.add_zero, hlen] at hst
        cases N with
        | zero => omega
        | succ N => simp [execOp, ho, resolve, invoke, builtin, a2, Builtin.clear_, run_underlying (slice_und ht), zeroVal hzz, hst]
      unfold Oper.wp
      rw [hrun, Oper.upon_value]
      exact hK E _ _ G MM' fun sh e => by cases e
  · refine ⟨0, M, h, hsame fun E a w H MM => ?_⟩
    obtain ⟨b, c, h2, _⟩ := rdS0 H mX hx hk
    exact ⟨b, c, h2⟩
/-- Appending, also where there is room. -/
def eApw (F : Nat) (M : HT) (nx p q sz T : Nat) (K : Nat → HT → Nat → Bool) : Bool :=
  iff' (Nat.beq (Nat.land (gw F p) 31) 15)
    (eSrc F M q sz fun m ws => iff' (Nat.ble (Nat.add (sn (gw F p)) m) (sc (gw F p)))
      (iff' (Nat.beq m 0) (K (gw F p) M nx) (nz (gw (M.get (lb (gw F p))) (Nat.add (Nat.add (so (gw F p)) (Nat.mul (sn (gw F p)) sz)) (Nat.mul m sz)))
        (need (Nat.blt (Nat.add (sn (gw F p)) m) 4194304) (force (cp (M.get (lb (gw F p))) (Nat.add (Nat.add (so (gw F p)) (Nat.mul (sn (gw F p)) sz)) 1) (Nat.mul m sz) ws) fun x => M.put x (lb (gw F p)) fun M => K (slw 15 (lb (gw F p)) (so (gw F p)) (Nat.add (sn (gw F p)) m) (sc (gw F p))) M nx))))
      (eApp F M nx p q sz T K))
    (eApp F M nx p q sz T K)
theorem run_append_room {ρ : Operand → Value} {w : World} {tx : TypeId} {args : List Operand} {ts : List TypeId} {sz n m c g off : Nat} {news : List Value} {u : Value} {w' : World} (ho : o.op = .call { callee := .builtin .append, args := args.toArray, argTypes := ts.toArray }) (ha : args = [x, y]) (hts : ts = [t, tx]) (hX : ρ x = .slice (some ⟨g, off, none⟩) n c) (hY : ρ y = u) (ht : tySlice P t e = true) (hs : tySize P e sz = true) (hr : Src P sz tx u m news w) (hroom : n + m ≤ c)
    (hst : (storeCells ⟨g, off + n * sz, none⟩ news).run P w = .ok () w') : (execOp ρ o).run P w = .ok (.value (.slice (some ⟨g, off, none⟩) (n + m) c)) w' := by
  subst ha hts
  obtain ⟨i, hi, his⟩ := tySize_info hs
  rcases hr.kind with ⟨e', hk⟩ | hk <;>
    simp [execOp, ho, resolve, invoke, builtin, hX, hY, Builtin.append_, run_underlying (slice_und ht), run_underlying hk, sizeOf, typeInfo, hi, his, hr.len, hroom, hr.cells, add_plain, hst]
theorem eApw_runs {tx e' : TypeId} {sz bytes : Nat} {f : Nat → Nat} {args : List Operand} {ts : List TypeId} (hM : f = M.get) (ho : o.op = .call { callee := .builtin .append, args := args.toArray, argTypes := ts.toArray }) (ha : args = [x, y]) (hts : ts = [t, tx]) (hx : okO Y x p 0 = true) (hy : okO Y y q 0 = true)
    (ht : tySlice P t e = true) (htx : tySlice P tx e' = true) (hz : tyZero P e sz = true) (hb : tyBytes' P e bytes = true) (hsz : 0 < sz) (hs : tySize P e sz = true) (hT : e < 18446744073709551616) (hby : bytes + 1 ≤ 33554432)
    (h : eApw F M nx p q sz e K = true) : ∃ R M' nx', K R M' nx' = true ∧ Runs P Y o (some (.val 0)) F f nx R M'.get nx' := by
  have mX : x ∈ opList o.op := by simp [opList, ho, ha]
  have mY : y ∈ opList o.op := by simp [opList, ho, ha]
  unfold eApw at h
  rw [iff'_eq, land31] at h
  by_cases hk : Nat.beq (gw F p % 32) 15 = true
  · rw [if_pos hk] at h
    have hk := Nat.eq_of_beq_eq_true hk
    subst hM
    obtain ⟨m, ws, h, hm, hws, hsrc⟩ := eSrc_spec (nx := nx) hsz hy mY htx h
    rw [iff'_eq] at h
    by_cases hroom : Nat.ble (Nat.add (sn (gw F p)) m) (sc (gw F p)) = true
    · rw [if_pos hroom, iff'_eq] at h
      have hroom : sn (gw F p) + m ≤ sc (gw F p) := Nat.le_of_ble_eq_true hroom
      split at h
      · rename_i hm0
        have hm0 := Nat.eq_of_beq_eq_true hm0
        subst hm0
        refine ⟨_, M, nx, h, Nat.le_refl _, fun E a w lm hlm H MM K' Q hK => ?_⟩
        have hcv := rd1 H mX hx (mod_ne hk (by decide))
        obtain ⟨g, T, c, a1, a2, a3⟩ := rdS15 H mX hx hk
        obtain ⟨news, hso⟩ := hsrc E a w H MM
        have hnil : news = [] := List.eq_nil_of_length_eq_zero (by simpa using hso.src.newsLen)
        subst hnil
        have hrun := run_append_room (P := P) (w := w) (w' := w) ho ha hts a2 rfl ht hs hso.src hroom rfl
        rw [Nat.add_zero, ← a2] at hrun
        unfold Oper.wp
        rw [hrun, Oper.upon_value]
        exact hK E _ w Go1.refl MM fun sh hs => by
          injection hs with hs
          subst hs
          exact sR_one (gw_lt _ _) hcv
      · rename_i hm0
        have hm0 : m ≠ 0 := fun e => hm0 (by rw [e]; rfl)
        rw [nz_iff, need_iff, force_eq, Nat.blt_eq] at h
        obtain ⟨h4, h5, h⟩ := h
        obtain ⟨M', h6, h7⟩ := HT.put_some h
        refine ⟨_, M', nx, h7, Nat.le_refl _, fun E a w lm hlm H MM K' Q hK => ?_⟩
        obtain ⟨g, T, c, a1, a2, a3⟩ := rdS15 H mX hx hk
        obtain ⟨news, hso⟩ := hsrc E a w H MM
        have hnl := hso.src.newsLen
        have e1 : Nat.mul m sz = m * sz := rfl
        have e2 : Nat.add (Nat.add (so (gw F p)) (Nat.mul (sn (gw F p)) sz)) 1 = so (gw F p) + sn (gw F p) * sz + 1 := rfl
        have e3 : Nat.add (sn (gw F p)) m = sn (gw F p) + m := rfl
        rw [e1, e2] at h6
        rw [e3] at h5
        have hpos : 0 < m * sz := Nat.mul_pos (by omega) hsz
        obtain ⟨cs, c1, c2, MM', G⟩ := putN MM (f' := M'.get) (O := so (gw F p) + sn (gw F p) * sz) (X := ws) a1 hnl hpos h4 hso.src.one (fun i' hi' hne => hso.rel i' hne) h6
        have hst := run_storeCells_at P g (so (gw F p) + sn (gw F p) * sz) T news 0 cs w c1 (by rw [hnl]; omega) hso.src.one
        rw [Nat.add_zero, hnl] at hst
        have hrun := run_append_room (P := P) (w := w) ho ha hts a2 rfl ht hs hso.src hroom hst
        unfold Oper.wp
        rw [hrun, Oper.upon_value]
        exact hK E _ _ G MM' fun sh hs => by
          injection hs with hs
          subst hs
          exact slw15 a1 (lb_lt _) (so_lt _) h5 (sc_lt (gw_lt _ _)) hroom
    · rw [if_neg hroom] at h
      exact eApp_runs rfl ho ha hts hx hy ht htx hz hb hsz hs hT hby h
  · rw [if_neg hk] at h
    exact eApp_runs hM ho ha hts hx hy ht htx hz hb hsz hs hT hby h
end
end
end Go.Rill.VM
end
section
namespace Go.Rill.VM
set_option linter.unusedVariables false
set_option linter.unusedSimpArgs false
open Go.RowKit
open S (FK)
noncomputable section
section
variable {P : Program} {Y : Lay} {o : Oper} {F p q : Nat} {M : HT} {nx : Nat} {x y : Operand} {K : Nat → HT → Nat → Bool} {K1 : Nat → Bool} {t s T e kt et : TypeId}
/-- How many entries a map has. -/
def eLnm (F : Nat) (M : HT) (p : Nat) (K : Nat → Bool) : Bool :=
  ck (gw F p) 20 (nz (gw (M.get (Nat.shiftRight (gw F p) 5)) 0) (need (Nat.blt (gw (M.get (Nat.shiftRight (gw F p) 5)) 1) 4194304) (K (iw (gw (M.get (Nat.shiftRight (gw F p) 5)) 1)))))
theorem eLnm_runs {f : Nat → Nat} {args : List Operand} {ts : List TypeId} (hM : f = M.get) (ho : o.op = .call { callee := .builtin .len, args := args.toArray, argTypes := ts.toArray }) (ha : args = [x]) (hts : ts = [t]) (hx : okO Y x p 0 = true) (hm : P.underlying t = some (.map kt et))
    (h : eLnm F M p K1 = true) : ∃ R, K1 R = true ∧ Runs P Y o (some (.val 0)) F f nx R M.get nx := by
  subst hM
  have mX : x ∈ opList o.op := by simp [opList, ho, ha]
  unfold eLnm at h
  rw [ck_iff, nz_iff, need_iff, Nat.blt_eq, shr5] at h
  obtain ⟨h1, h2, h3, h4⟩ := h
  refine ⟨_, h4, Runs.val fun E a w H MM => ?_⟩
  have hv := rd1 H mX hx (mod_ne h1 (by decide))
  rw [cv20 h1] at hv
  split at hv
  · rename_i g hE
    injection hv with hv
    obtain ⟨g', b1, b2⟩ := MM.obj (gw F p / 32) (gw_ne h2)
    rw [hE] at b1
    injection b1 with b1
    subst b1
    obtain ⟨es, clock, kc, vc, e1, _, _, _, e5, _⟩ := b2
    have hgo : (getObj g).run P w = .ok (.map es clock) w := by simp [getObj, Sem.run, e1]
    refine ⟨.int .i64 (es.size : Int), ?_, ?_⟩
    · subst ha hts
      simp [execOp, ho, resolve, invoke, builtin, ← hv, Builtin.len_, run_underlying hm, hgo, goInt]
    · rw [e5] at h3 ⊢
      exact iw_sR (by omega)
  · cases hv
theorem set_same {w : World} {g : Nat} {ob : Obj} (h : w.heap[g]? = some ob) : { w with heap := w.heap.setIfInBounds g ob } = w := by
  have : w.heap.setIfInBounds g ob = w.heap := by
    apply Array.ext_getElem?
    intro i
    by_cases e : g = i
    · subst e
      rw [h]
      have := (Array.getElem?_eq_some_iff.1 h).1
      simp [this]
    · rw [Array.getElem?_setIfInBounds_ne e]
  rw [this]
/-- What is not in a map is taken out of it. -/
def eDel (F : Nat) (M : HT) (p q kc vc : Nat) (tags : List Nat) (K : Nat → Bool) : Bool :=
  ck (gw F p) 20 (nz (gw F q) (need (Nat.beq (gw (M.get (Nat.shiftRight (gw F p) 5)) 0) (mHdr kc vc)) (kTg M F F tags (Nat.add q (kOff kc)) (Nat.add q (kOff kc))
    (eFd M F (M.get (Nat.shiftRight (gw F p) 5)) tags (Nat.add q (kOff kc)) (kOff kc) (Nat.add (csz kc) (csz vc)) (fun _ _ => false) (K 0) (gw (M.get (Nat.shiftRight (gw F p) 5)) 1) 2 0))))
theorem eDel_runs {kc vc : Nat} {tags : List Nat} {f : Nat → Nat} {args : List Operand} {ts : List TypeId} (hM : f = M.get) (ho : o.op = .call { callee := .builtin .delete, args := args.toArray, argTypes := ts.toArray }) (ha : args = [x, y]) (hts : ts = [t, s]) (hx : okO Y x p 0 = true) (hy : okO Y y q kc = true) (hm : P.underlying t = some (.map kt et)) (hkt : tyKey P kt kc tags = true) (hkc : kc < 65536) (hvc : vc < 65536)
    (h : eDel F M p q kc vc tags K1 = true) : ∃ R, K1 R = true ∧ Runs P Y o none F f nx R M.get nx := by
  subst hM
  have mX : x ∈ opList o.op := by simp [opList, ho, ha]
  have mY : y ∈ opList o.op := by simp [opList, ho, ha]
  obtain ⟨ks, hk, htags, hc⟩ := tyKey_spec hkt
  unfold eDel at h
  rw [ck_iff, nz_iff, need_iff, beq_true, shr5] at h
  obtain ⟨h1, h2, h3, h4⟩ := h
  obtain ⟨h5, h6⟩ := kTg_spec h4
  have hh : gw (M.get (gw F p / 32)) 0 = kc * 65536 + vc * 4294967296 + 1 := h3
  rcases eFd_spec h6 with ⟨g1, g2⟩ | ⟨j, _, _, _, _, g5⟩
  · refine ⟨0, g2, Nat.le_refl _, fun E a w lm hlm H MM K' Q hK => ?_⟩
    obtain ⟨g, es, clock, a1, a2, a3, a4, a5⟩ := rdMap MM H mX hx h1 hkc hvc hh
    obtain ⟨xs, b1, b2, b3⟩ := key_vals hk htags hc (rd H mY hy) h2 fun i t hi => (h5 i t hi).1
    have hfd := fd_none MM hk htags hc b2 b3 (i := 0) a5 fun j hj => g1 j (by rw [a4]; simpa using hj)
    have hgo : (getObj g).run P w = .ok (.map es clock) w := by simp [getObj, Sem.run, a3]
    have hso : (setObj g (.map es clock)).run P w = .ok () w := by
      have : (setObj g (.map es clock)).run P w = .ok () { w with heap := w.heap.setIfInBounds g (.map es clock) } := by simp [setObj, Sem.run, a3]
      rw [this, set_same a3]
    have hck := S.check_flat (P := P) es.isEmpty 10000 kt ks hk w xs b2
    have hfk := findKey_run (w := w) hk b2 hfd
    have hrun : (execOp a.eval o).run P w = .ok (.value (.tuple #[])) w := by
      subst ha hts
      simp [execOp, ho, resolve, invoke, builtin, a2, b1, Builtin.delete_, run_underlying hm, hgo, hck, hfk, hso]
    unfold Oper.wp
    rw [hrun, Oper.upon_value]
    exact hK E _ w Go1.refl MM fun sh e => by cases e
  · cases g5
/-- Items are copied into a slice that has room for all of them. -/
def eCpy (F : Nat) (M : HT) (nx p q sz : Nat) (K : Nat → HT → Nat → Bool) : Bool :=
  slK (gw F p) (eSrc F M q sz fun m ws => need (Nat.ble m (sn (gw F p))) (iff' (Nat.beq m 0) (K (iw 0) M nx)
    (nz (gw (M.get (lb (gw F p))) (Nat.add (so (gw F p)) (Nat.mul m sz))) (force (cp (M.get (lb (gw F p))) (Nat.add (so (gw F p)) 1) (Nat.mul m sz) ws) fun x => M.put x (lb (gw F p)) fun M => K (iw m) M nx)))) false
theorem eCpy_runs {tx e' : TypeId} {sz : Nat} {f : Nat → Nat} {args : List Operand} {ts : List TypeId} (hM : f = M.get) (ho : o.op = .call { callee := .builtin .copy, args := args.toArray, argTypes := ts.toArray }) (ha : args = [x, y]) (hts : ts = [t, tx]) (hx : okO Y x p 0 = true) (hy : okO Y y q 0 = true)
    (ht : tySlice P t e = true) (htx : tySlice P tx e' = true) (hs : tySize P e sz = true) (hsz : 0 < sz) (h : eCpy F M nx p q sz K = true) : ∃ R M', K R M' nx = true ∧ Runs P Y o (some (.val 0)) F f nx R M'.get nx := by
  subst hM
  have mX : x ∈ opList o.op := by simp [opList, ho, ha]
  have mY : y ∈ opList o.op := by simp [opList, ho, ha]
  rcases slK_iff h with ⟨hk, h⟩ | ⟨_, h⟩
  · obtain ⟨m, ws, h, hm, hws, hsrc⟩ := eSrc_spec (nx := nx) hsz hy mY htx h
    rw [need_iff, Nat.ble_eq, iff'_eq] at h
    obtain ⟨hmn, h⟩ := h
    split at h
    · rename_i hz
      have hz := Nat.eq_of_beq_eq_true hz
      subst hz
      refine ⟨_, M, h, Runs.val fun E a w H MM => ?_⟩
      obtain ⟨g, T, c, C, a1, a2, a3⟩ := rdS H mX hx hk
      obtain ⟨news, hn⟩ := hsrc E a w H MM
      have hl : news = [] := List.eq_nil_of_length_eq_zero (by rw [hn.src.newsLen, Nat.zero_mul])
      subst hl
      have h1 := hn.src.len w
      have h2 := hn.src.cells
      refine ⟨.int .i64 0, ?_, iw_sR (by decide)⟩
      have hst : (storeCells ⟨g, so (gw F p), none⟩ []).run P w = .ok () w := by simp [storeCells]
      subst ha hts
      simp [execOp, ho, resolve, invoke, builtin, a2, Builtin.copy_, run_underlying (slice_und ht), h1, run_size (w := w) hs, h2, hst, goInt]
    · rename_i hz
      have hz : m ≠ 0 := fun e => hz (by rw [e]; rfl)
      rw [nz_iff, force_eq] at h
      obtain ⟨h4, h⟩ := h
      obtain ⟨M', h6, h7⟩ := HT.put_some h
      refine ⟨_, M', h7, Nat.le_refl _, fun E a w lm hlm H MM K' Q hK => ?_⟩
      obtain ⟨g, T, c, C, a1, a2, a3⟩ := rdS H mX hx hk
      obtain ⟨news, hn⟩ := hsrc E a w H MM
      have hpos : 0 < m * sz := Nat.mul_pos (by omega) hsz
      have e1 : Nat.mul m sz = m * sz := rfl
      have e2 : Nat.add (so (gw F p)) 1 = so (gw F p) + 1 := rfl
      rw [e1, e2] at h6
      obtain ⟨cs, c1, c2, MM', G⟩ := putN MM (f' := M'.get) (O := so (gw F p)) (X := ws) a1 hn.src.newsLen hpos h4 hn.src.one (fun i hi hne => hn.rel i hne) h6
      have h1 := hn.src.len w
      have h2 := hn.src.cells
      have hst := run_storeCells_at P g (so (gw F p)) T news 0 cs w c1 (by rw [hn.src.newsLen]; omega) hn.src.one
      rw [Nat.add_zero, hn.src.newsLen] at hst
      have hmin : Nat.min m (sn (gw F p)) = m := Nat.min_eq_left hmn
      have hrun : (execOp a.eval o).run P w = .ok (.value (.int .i64 (m : Int))) (w.setRow g (cs.toList.take (so (gw F p)) ++ news ++ cs.toList.drop (so (gw F p) + m * sz)).toArray) := by
        subst ha hts
        simp [execOp, ho, resolve, invoke, builtin, a2, Builtin.copy_, run_underlying (slice_und ht), h1, run_size (w := w) hs, hmin, h2, hst, goInt]
      unfold Oper.wp
      rw [hrun, Oper.upon_value]
      exact hK E _ _ G MM' fun sh e => by
        injection e with e
        subst e
        exact iw_sR (by omega)
  · cases h
/-- An array out of some items. -/
theorem eBldA_runs {len sz : Nat} {el : TypeId} {z : Value} {n : Nat} {parts : List (Nat × Operand)} {ps : List (Nat × Nat × Nat)} (ho : o.op = .build t parts.toArray) (hu : P.underlying t = some (.array len el)) (hs : tySize P el sz = true) (hz : zeroOf P t = some z)
    (hq : q + (n + 1) ≤ Y.nc) (hc : conL Y.con q z.cells.toList = true) (hn : z.cells.toList.length = n + 1) (hp : okParts Y (fun i => some (i * sz, sz)) (n + 1) parts ps = true)
    (h : eFill F ps (gs F q (n + 1)) (fun X => K1 (wcons 1 X)) = true) : ∃ R, K1 R = true ∧ ∀ f nx, Runs P Y o (some (.val (n + 1))) F f nx R f nx := by
  obtain ⟨X', h1, h2⟩ := eFill_spec (o := o) hp (fun x hx => by simp [opList, ho] at hx ⊢; exact hx) h
  refine ⟨_, h1, fun f nx => Runs.val fun E a w H MM => ?_⟩
  obtain ⟨A', f1, f2⟩ := h2 E a z.cells H ⟨by simpa using hn, fun u hu => by
    obtain ⟨i, hi⟩ := List.getElem?_of_mem hu
    exact (con1_cv (conL_get hc i u hi) E).2, fun i hi => by
    rw [wd_gs] at hi ⊢
    split at hi
    · rename_i e
      rw [if_pos e, H.con _ (by omega)]
      have hl : i < z.cells.toList.length := by omega
      refine ⟨e, z.cells.toList[i], (con1_cv (conL_get hc i _ (List.getElem?_eq_getElem hl)) E).1, ?_⟩
      rw [← Array.getElem?_toList]
      exact List.getElem?_eq_getElem hl
    · exact absurd rfl hi⟩
  refine ⟨.agg A', ?_, agg_vR f2.size f2.one fun i hi hu => ?_⟩
  · have hzv : (zeroValue t).run P w = .ok z w := zeroVal hz
    have hps : (parts.toArray.map fun x => (x.1, a.eval x.2)).toList = parts.map fun x => (x.1, a.eval x.2) := by simp
    simp only [execOp, ho, Instr.build, Sem.run_bind, hzv, Result.andThen_ok, run_underlying hu, run_size (w := w) hs, hps]
    simp only [f1]
    rfl
  · rw [wd_wcons (by decide), if_neg (by omega)] at hu ⊢
    have e : 0 + 1 + i - 1 = i := by omega
    rw [e] at hu ⊢
    exact (f2.rel i hu).2
end
end
end Go.Rill.VM
end
