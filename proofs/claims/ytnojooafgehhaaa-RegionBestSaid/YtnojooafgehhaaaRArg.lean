/- Arguments: bytes, and records, as they come. Of whatever program. -/
import Derived.Test.YtnojooafgehhaaaRR
import Derived.WalkKit
import Derived.ChangeSlices
import Derived.OpenShut
import Derived.WideShapes
import Derived.Lib.SmallJoins
namespace Go.Rill
set_option linter.unusedVariables false
set_option linter.unusedSimpArgs false
open Go.RowKit Go.ChangeShapes Go.WideShapes
section
variable {H : Type} {enc : TypeId × Value → H} {P : Program} {W : World} {base b0 : Nat} {spare : Nat → Bool} {held : Bool} {r : Reach} {t e : TypeId} {v : Value}
theorem u8_wf {n : Int} (h : (Lit.int .u8 n).wf = true) : 0 ≤ n ∧ n < 256 := by
  have h : (decide (IntKind.u8.min ≤ n) && decide (n ≤ IntKind.u8.max)) = true := h
  have a : IntKind.min .u8 = 0 := rfl
  have b : IntKind.max .u8 = 255 := rfl
  rw [a, b, Bool.and_eq_true, decide_eq_true_eq, decide_eq_true_eq] at h
  omega
theorem u8_back {n : Int} (h : (Lit.int .u8 n).wf = true) : ((UInt8.ofNat n.toNat).toNat : Int) = n := by
  have := u8_wf h
  simp only [UInt8.toNat_ofNat']
  omega
def AllW (cs : List Value) : Prop := ∀ v ∈ cs, ∃ k n, v = .int k n ∧ (Lit.int k n).wf = true
theorem cells_of_size {k : Nat} (h : tySize P t k = true) : P.cellsOf t = k := by
  obtain ⟨i, hi, hs⟩ := tySize_info h
  simp [Program.cellsOf, hi, hs]
/-- Its numbers have one cell each. -/
def flatO (P : Program) : Nat → TypeId → Bool
  | 0, _ => false
  | D + 1, t => match P.underlying t with
    | some (.int _) => P.cellsOf t == 1
    | some (.struct fs) => fs.toList.all fun f => flatO P D f.type
    | some (.array _ e) => flatO P D e
    | _ => false
/-- Structs and arrays of numbers alone are what their kinds say. -/
theorem trod_flat : ∀ (D : Nat) (t : TypeId) (ks : List IntKind), flatK P D t = some ks → flatO P D t = true → ∀ (fuel : Nat) (cs : List Value) (x : DataW H × List MemPlace), DataW.trod enc P W base spare held fuel t cs = some x → Fit ks cs ∧ AllW cs
  | 0, t, ks, h => by simp [flatK] at h
  | D + 1, t, ks, h => by
    intro hO fuel cs x hx
    have cellsLen : ∀ t ks, flatK P D t = some ks → flatO P D t = true → P.cellsOf t = ks.length := fun t ks hk hO => by
      rcases shape_of hk with ⟨h1, h2⟩ | ⟨h1, h2⟩
      · rw [h2]
        cases D with
        | zero => simp [flatK] at hk
        | succ D' =>
          have hu : ∃ k, P.underlying t = some (.int k) := by
            unfold flatK at hk
            cases hu : P.underlying t with
            | none => rw [hu] at hk; cases hk
            | some dd =>
              rw [hu] at hk
              cases dd with
              | int k => exact ⟨k, rfl⟩
              | struct fs => simp [tyOne, hu] at h1
              | array n e => simp [tyOne, hu] at h1
              | _ => cases hk
          obtain ⟨k, hu⟩ := hu
          unfold flatO at hO
          rw [hu] at hO
          simpa using hO
      · exact cells_of_size (tyAgg_size h2)
    cases fuel with
    | zero => simp [DataW.trod] at hx
    | succ fuel =>
      unfold flatK at h
      unfold flatO at hO
      cases hu : P.underlying t with
      | none => rw [hu] at h; cases h
      | some dd =>
        rw [hu] at h hO
        cases dd with
        | int k =>
          simp only at h
          split at h
          · injection h with h
            subst h
            obtain ⟨n, rfl, _, hw⟩ := DataW.trod_int hu hx
            exact ⟨rfl, fun v hv => by simp at hv; subst hv; exact ⟨_, _, rfl, hw⟩⟩
          · cases h
        | struct fs =>
          simp only at h
          cases hf : flatFs (flatK P D) fs.toList 0 with
          | none => rw [hf] at h; cases h
          | some ks' =>
            rw [hf] at h
            simp only at h
            split at h
            · rename_i hc
              rw [Bool.and_eq_true] at hc
              injection h with h
              subst h
              unfold DataW.trod at hx
              rw [hu] at hx
              simp only at hx
              split at hx
              · rename_i hlen
                rw [cells_of_size (tyAgg_size hc.1)] at hlen
                simp only [Option.map_eq_some_iff] at hx
                obtain ⟨xs, hxs, _⟩ := hx
                have key : ∀ (L : List Field) (off : Nat) (kk : List IntKind), (L.all fun f => flatO P D f.type) = true → flatFs (flatK P D) L off = some kk → ∀ (xs : List (DataW H × List MemPlace)), (L.mapM fun f => DataW.trod enc P W base spare held fuel f.type ((cs.drop f.offset).take (P.cellsOf f.type))) = some xs → off + kk.length ≤ cs.length → Fit kk ((cs.drop off).take kk.length) ∧ AllW ((cs.drop off).take kk.length) := by
                  intro L
                  induction L with
                  | nil =>
                    intro off kk hA h xs hxs hl
                    simp only [flatFs, Option.some.injEq] at h
                    subst h
                    exact ⟨by simp [Fit], fun v hv => by simp at hv⟩
                  | cons f L ih =>
                    intro off kk hA h xs hxs hl
                    simp only [List.all_cons, Bool.and_eq_true] at hA
                    unfold flatFs at h
                    cases hk : flatK P D f.type with
                    | none => rw [hk] at h; cases h
                    | some k1 =>
                      rw [hk] at h
                      simp only at h
                      split at h
                      · rename_i hc
                        simp only [Bool.and_eq_true, Bool.not_eq_true', beq_iff_eq] at hc
                        cases hr : flatFs (flatK P D) L (off + k1.length) with
                        | none => rw [hr] at h; cases h
                        | some k2 =>
                          rw [hr] at h
                          simp only [Option.some.injEq] at h
                          subst h
                          simp only [List.mapM_cons, Option.bind_eq_bind, Option.bind_eq_some_iff] at hxs
                          obtain ⟨y, hy, ys, hys, _⟩ := hxs
                          rw [hc.1, cellsLen _ _ hk hA.1] at hy
                          obtain ⟨a1, a2⟩ := trod_flat D f.type k1 hk hA.1 fuel _ _ hy
                          simp only [List.length_append] at hl
                          obtain ⟨b1, b2⟩ := ih (off + k1.length) k2 hA.2 hr ys hys (by omega)
                          have e : (cs.drop off).take (k1 ++ k2).length = (cs.drop off).take k1.length ++ (cs.drop (off + k1.length)).take k2.length := by
                            rw [List.length_append, List.take_add, List.drop_drop]
                          rw [e]
                          exact ⟨a1.app b1, fun v hv => by
                            rcases List.mem_append.1 hv with hv | hv
                            · exact a2 v hv
                            · exact b2 v hv⟩
                      · cases h
                have := key fs.toList 0 _ hO hf xs hxs (by omega)
                rwa [List.drop_zero, List.take_of_length_le (by omega)] at this
              · cases hx
            · cases h
        | array n e =>
          simp only at h
          cases hf : flatK P D e with
          | none => rw [hf] at h; cases h
          | some ks' =>
            rw [hf] at h
            simp only at h
            split at h
            · rename_i hc
              simp only [Bool.and_eq_true, beq_iff_eq] at hc
              injection h with h
              subst h
              unfold DataW.trod at hx
              rw [hu] at hx
              simp only at hx
              split at hx
              · rename_i hlen
                rw [cells_of_size (tyAgg_size hc.2)] at hlen
                simp only [Option.map_eq_some_iff] at hx
                obtain ⟨xs, hxs, _⟩ := hx
                rw [List.range_eq_range'] at hxs
                have key : ∀ (m s : Nat) (xs : List (DataW H × List MemPlace)), ((List.range' s m).mapM fun i => DataW.trod enc P W base spare held fuel e ((cs.drop (i * P.cellsOf e)).take (P.cellsOf e))) = some xs → (s + m) * ks'.length ≤ cs.length → Fit (List.replicate m ks').flatten ((cs.drop (s * ks'.length)).take (m * ks'.length)) ∧ AllW ((cs.drop (s * ks'.length)).take (m * ks'.length)) := by
                  intro m
                  induction m with
                  | zero =>
                    intro s xs hxs hl
                    rw [Nat.zero_mul, List.take_zero]
                    exact ⟨by simp [Fit], fun v hv => by simp at hv⟩
                  | succ m ih =>
                    intro s xs hxs hl
                    rw [List.range'_succ] at hxs
                    simp only [List.mapM_cons, Option.bind_eq_bind, Option.bind_eq_some_iff] at hxs
                    obtain ⟨y, hy, ys, hys, _⟩ := hxs
                    rw [hc.1.1] at hy
                    obtain ⟨a1, a2⟩ := trod_flat D e ks' hf hO fuel _ _ hy
                    obtain ⟨b1, b2⟩ := ih (s + 1) ys hys (by rw [show s + 1 + m = s + (m + 1) by omega]; exact hl)
                    have e1 : (cs.drop (s * ks'.length)).take ((m + 1) * ks'.length) = (cs.drop (s * ks'.length)).take ks'.length ++ (cs.drop ((s + 1) * ks'.length)).take (m * ks'.length) := by
                      rw [show (m + 1) * ks'.length = ks'.length + m * ks'.length by rw [Nat.add_mul]; omega, List.take_add, List.drop_drop]
                      rw [show s * ks'.length + ks'.length = (s + 1) * ks'.length by rw [Nat.add_mul]; omega]
                    rw [e1, List.replicate_succ, List.flatten_cons]
                    exact ⟨a1.app b1, fun v hv => by
                      rcases List.mem_append.1 hv with hv | hv
                      · exact a2 v hv
                      · exact b2 v hv⟩
                have := key n 0 xs hxs (by rw [Nat.zero_add]; omega)
                rwa [Nat.zero_mul, List.drop_zero, List.take_of_length_le (by omega)] at this
              · cases hx
            · cases h
        | _ => cases h
/-- Cells of these kinds are a record's. -/
theorem rec_of {cs : List Value} (hf : Fit ([.i64] ++ [.i64] ++ [.i64] ++ List.replicate 32 .u8 ++ [.i64] ++ List.replicate 32 .u8 ++ [.i64] ++ [.i64] ++ [.i64] ++ [.i64] ++ List.replicate 32 .u8 ++ List.replicate 32 .u8) cs) (hw : AllW cs) : ∃ r : Rec, r.Ok ∧ cs = r.cells := by
  obtain ⟨c11, d12, rfl, f11, g12⟩ := hf.split
  obtain ⟨c10, d11, rfl, f10, g11⟩ := f11.split
  obtain ⟨c9, d10, rfl, f9, g10⟩ := f10.split
  obtain ⟨c8, d9, rfl, f8, g9⟩ := f9.split
  obtain ⟨c7, d8, rfl, f7, g8⟩ := f8.split
  obtain ⟨c6, d7, rfl, f6, g7⟩ := f7.split
  obtain ⟨c5, d6, rfl, f5, g6⟩ := f6.split
  obtain ⟨c4, d5, rfl, f4, g5⟩ := f5.split
  obtain ⟨c3, d4, rfl, f3, g4⟩ := f4.split
  obtain ⟨c2, d3, rfl, f2, g3⟩ := f3.split
  obtain ⟨d1, d2, rfl, g1, g2⟩ := f2.split
  have one : ∀ {l : List Value}, Fit [.i64] l → ∃ n, l = [iv n] := fun {l} h => by
    obtain ⟨v, rfl⟩ : ∃ v, l = [v] := List.length_eq_one_iff.1 (by rw [h.len]; rfl)
    simp only [Fit, List.map_cons, List.map_nil, List.cons.injEq, and_true] at h
    cases v <;> simp only [kindOf, reduceCtorEq, Option.some.injEq] at h
    subst h
    exact ⟨_, rfl⟩
  have many : ∀ {n : Nat} {l : List Value}, Fit (List.replicate n .u8) l → AllW l → ∃ s : List UInt8, s.length = n ∧ l = bc s := by
    intro n
    induction n with
    | zero => intro l h _; exact ⟨[], rfl, List.eq_nil_of_length_eq_zero (by simpa using h.len)⟩
    | succ n ih =>
      intro l h hw
      cases l with
      | nil => have := h.len; simp at this
      | cons v l =>
        simp only [Fit, List.map_cons, List.replicate_succ, List.cons.injEq] at h
        obtain ⟨h1, h2⟩ := h
        obtain ⟨s, e1, e2⟩ := ih (l := l) h2 fun v hv => hw v (List.mem_cons_of_mem _ hv)
        obtain ⟨k, m, rfl, hm⟩ := hw v (List.mem_cons_self ..)
        simp only [kindOf, Option.some.injEq] at h1
        subst h1
        refine ⟨UInt8.ofNat m.toNat :: s, by simp [e1], ?_⟩
        rw [bc_cons, ← e2, u8_back hm]
  have W := hw
  unfold AllW at W
  obtain ⟨n1, rfl⟩ := one g1
  obtain ⟨n2, rfl⟩ := one g2
  obtain ⟨n3, rfl⟩ := one g3
  obtain ⟨s4, e4, rfl⟩ := many g4 fun v hv => W v (by simp [hv])
  obtain ⟨n5, rfl⟩ := one g5
  obtain ⟨s6, e6, rfl⟩ := many g6 fun v hv => W v (by simp [hv])
  obtain ⟨n7, rfl⟩ := one g7
  obtain ⟨n8, rfl⟩ := one g8
  obtain ⟨n9, rfl⟩ := one g9
  obtain ⟨n10, rfl⟩ := one g10
  obtain ⟨s11, e11, rfl⟩ := many g11 fun v hv => W v (by simp [hv])
  obtain ⟨s12, e12, rfl⟩ := many g12 fun v hv => W v (by simp [hv])
  exact ⟨⟨n1, n2, n3, s4, n5, s6, n7, n8, n9, n10, s11, s12⟩, ⟨e4, e6, e11, e12⟩, by simp [Rec.cells]⟩
end
end Go.Rill
