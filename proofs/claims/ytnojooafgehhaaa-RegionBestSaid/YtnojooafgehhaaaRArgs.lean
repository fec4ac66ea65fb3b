/- Arguments: slices of records, as they come. Of whatever program. -/
import Derived.Test.YtnojooafgehhaaaRArg
import Derived.Test.YtnojooafgehhaaaRR
namespace Go.Rill
set_option linter.unusedVariables false
set_option linter.unusedSimpArgs false
open Go.RowKit Go.ChangeShapes Go.WideShapes
section
variable {H : Type} {enc : TypeId × Value → H} {P : Program} {W : World} {base b0 : Nat} {spare : Nat → Bool} {held : Bool} {r : Reach} {t e : TypeId} {v : Value}
theorem choose_list {α : Type} {p : Nat → α → Prop} : ∀ (n : Nat), (∀ i, i < n → ∃ x, p i x) → ∃ l : List α, l.length = n ∧ ∀ i (h : i < l.length), p i l[i]
  | 0, _ => ⟨[], rfl, fun i h => absurd h (Nat.not_lt_zero _)⟩
  | n + 1, h => by
    obtain ⟨l, e, hl⟩ := choose_list (p := p) n fun i hi => h i (by omega)
    obtain ⟨x, hx⟩ := h n (by omega)
    refine ⟨l ++ [x], by simp [e], fun i hi => ?_⟩
    by_cases hn : i < l.length
    · rw [List.getElem_append_left hn]; exact hl i hn
    · have : i = n := by simp at hi; omega
      subst this
      rw [List.getElem_append_right (by omega)]
      simpa using hx
def StampIn (r : Rec) : Prop := -9223372036854775808 ≤ r.stamp ∧ r.stamp ≤ 9223372036854775807
theorem i64_wf {n : Int} (h : (Lit.int .i64 n).wf = true) : -9223372036854775808 ≤ n ∧ n ≤ 9223372036854775807 := by
  have h : (decide (IntKind.i64.min ≤ n) && decide (n ≤ IntKind.i64.max)) = true := h
  have a : IntKind.min .i64 = -9223372036854775808 := by decide
  have b : IntKind.max .i64 = 9223372036854775807 := by decide
  rw [a, b, Bool.and_eq_true, decide_eq_true_eq, decide_eq_true_eq] at h
  exact h
/-- Any records that are handed in read as records. -/
theorem recs_arg {fs : Array Field} {d : DataW H} {p : List MemPlace} (ht : P.underlying t = some (.slice e)) (hu : P.underlying e = some (.struct fs)) (hk : flatK P 10000 e = some ([.i64] ++ [.i64] ++ [.i64] ++ List.replicate 32 .u8 ++ [.i64] ++ List.replicate 32 .u8 ++ [.i64] ++ [.i64] ++ [.i64] ++ [.i64] ++ List.replicate 32 .u8 ++ List.replicate 32 .u8))
    (hO : flatO P 10000 e = true) (hc : P.cellsOf e = 136) (hval : Value.okWide P W r b0 t v) (h : DataW.Trod enc P W base (fun _ => true) held t v d p) : ∃ l : List Rec, Oks l ∧ Recs W v l ∧ ∀ r ∈ l, StampIn r := by
  have hval' := hval
  obtain ⟨a, len, cap, rfl⟩ := okWide_slice ht hval
  obtain ⟨fuel, hf⟩ := h
  rcases DataW.trod_slice ht hf with ⟨hcs, _⟩ | ⟨x, l, c, elems, rest, n, _, hcs, _, hb, hl, hm, hlen, hel, _, _⟩
  · simp [Value.cells] at hcs
    obtain ⟨rfl, rfl, rfl⟩ := hcs
    exact ⟨[], (fun r hr => (by cases hr)), Recs.nil W, (fun r hr => (by cases hr))⟩
  · simp [Value.cells] at hcs
    obtain ⟨rfl, rfl, rfl⟩ := hcs
    have hcl : Cell.ok P W r b0 t (.slice (some x) len cap) := by
      unfold Value.okWide at hval'
      rw [ht] at hval'
      simp only at hval'
      unfold Cell.okWide at hval'
      rw [ht] at hval'
      exact hval'
    unfold Cell.ok at hcl
    rw [ht] at hcl
    obtain ⟨_, _, _, hs, row, cells, hsh, _⟩ := hcl
    obtain ⟨g, off, spot⟩ := x
    have hs : spot = none := hs
    subst hs
    have hg : g < W.heap.size := by
      unfold World.shape? at hsh
      cases hh : W.heap[g]? with
      | none => rw [hh] at hsh; cases hsh
      | some o => exact (Array.getElem?_eq_some_iff.1 hh).1
    obtain ⟨L, hL, each⟩ := choose_list (p := fun i (r : Rec) => r.Ok ∧ StampIn r ∧ ∀ j u, r.cells[j]? = some u → W.cell? ⟨g, off + (i * 136 + j), none⟩ = some u) len fun i hi => by
      have h1 := hel i hi
      rw [List.getElem?_eq_getElem (by omega), Option.bind_eq_some_iff] at h1
      obtain ⟨cs, h2, h3⟩ := h1
      obtain ⟨a1, a2⟩ := trod_flat 10000 e _ hk hO n cs _ h3
      obtain ⟨q, hq, rfl⟩ := rec_of a1 a2
      obtain ⟨_, h4, h5⟩ := World.cells?_some h2
      refine ⟨q, hq, ?_, fun j u hu => ?_⟩
      · obtain ⟨k, m, hkm, hw⟩ := a2 (iv q.stamp) (by simp [Rec.cells])
        simp only [iv, Value.int.injEq] at hkm
        obtain ⟨rfl, rfl⟩ := hkm
        exact i64_wf hw
      · have hj : j < q.cells.length := (List.getElem?_eq_some_iff.1 hu).1
        have := h5 j (by omega)
        rw [hu, hc, add_plain, add_plain] at this
        rw [← this]
        congr 2
        omega
    have hok : Oks L := fun r hr => by
      obtain ⟨i, hi, rfl⟩ := List.getElem_of_mem hr
      exact (each i hi).1
    refine ⟨L, hok, ⟨rcs_len hok, .inr ⟨g, off, cap, by rw [hL], by omega, hm, hg, fun j u hu => ?_⟩⟩, fun r hr => ?_⟩
    · have hj : j < L.length * 136 := by have := (List.getElem?_eq_some_iff.1 hu).1; rwa [rcs_len hok] at this
      have hk : j / 136 < L.length := Nat.div_lt_of_lt_mul (by omega)
      have e1 : j = j / 136 * 136 + j % 136 := by omega
      rw [e1] at hu ⊢
      rw [rcs_at hok hk (Nat.mod_lt _ (by decide))] at hu
      exact (each _ hk).2.2 _ _ hu
    · obtain ⟨i, hi, rfl⟩ := List.getElem_of_mem hr
      exact (each i hi).2.1
end
end Go.Rill
