/- Arguments: bytes, and records, as they come. Of whatever program. -/
import Derived.Test.YtnojooafgehhaaaRR
import Derived.WalkKit
import Derived.ChangeSlices
import Derived.OpenShut
import Derived.WideShapes
import Derived.Lib.SmallJoins
namespace Go.Rill
set_option linter.unusedVariables false
set_option linter.unusedSimpArgs false
open Go.RowKit Go.ChangeShapes Go.WideShapes
section
variable {H : Type} {enc : TypeId × Value → H} {P : Program} {W : World} {base b0 : Nat} {spare : Nat → Bool} {held : Bool} {r : Reach} {t e : TypeId} {v : Value}
theorem u8_wf {n : Int} (h : (Lit.int .u8 n).wf = true) : 0 ≤ n ∧ n < 256 := by
  have h : (decide (IntKind.u8.min ≤ n) && decide (n ≤ IntKind.u8.max)) = true := h
  have a : IntKind.min .u8 = 0 := rfl
  have b : IntKind.max .u8 = 255 := rfl
  rw [a, b, Bool.and_eq_true, decide_eq_true_eq, decide_eq_true_eq] at h
  omega
theorem u8_back {n : Int} (h : (Lit.int .u8 n).wf = true) : ((UInt8.ofNat n.toNat).toNat : Int) = n := by
  have := u8_wf h
  simp only [UInt8.toNat_ofNat']
  omega
/-- Any bytes that are handed in read as bytes. -/
theorem bytes_arg {d : DataW H} {p : List MemPlace} (ht : P.underlying t = some (.slice e)) (he : P.underlying e = some (.int .u8)) (hc : P.cellsOf e = 1) (hval : Value.okWide P W r b0 t v) (h : DataW.Trod enc P W base (fun _ => true) held t v d p) : ∃ l, Bytes W v l := by
  have hval' := hval
  obtain ⟨a, len, cap, rfl⟩ := okWide_slice ht hval
  obtain ⟨fuel, hf⟩ := h
  rcases open_ints ht he hc hf with ⟨hcs, _⟩ | ⟨x, l, c, zs, hcs, _, hl, hm, hz, _, hcell, hwz⟩
  · simp [Value.cells] at hcs
    obtain ⟨rfl, rfl, rfl⟩ := hcs
    exact ⟨[], Bytes.nil W⟩
  · simp [Value.cells] at hcs
    obtain ⟨rfl, rfl, rfl⟩ := hcs
    have hcl : Cell.ok P W r b0 t (.slice (some x) len cap) := by
      unfold Value.okWide at hval'
      rw [ht] at hval'
      simp only at hval'
      unfold Cell.okWide at hval'
      rw [ht] at hval'
      exact hval'
    unfold Cell.ok at hcl
    rw [ht] at hcl
    obtain ⟨_, _, _, hs, row, cells, hsh, _⟩ := hcl
    obtain ⟨g, off, spot⟩ := x
    have hs : spot = none := hs
    subst hs
    have hg : g < W.heap.size := by
      unfold World.shape? at hsh
      cases hh : W.heap[g]? with
      | none => rw [hh] at hsh; cases hsh
      | some o => exact (Array.getElem?_eq_some_iff.1 hh).1
    have hzl : zs.length = cap := by simpa using hz
    have hll : ((zs.take len).map fun n => UInt8.ofNat n.toNat).length = len := by simp; omega
    refine ⟨(zs.take len).map fun n => UInt8.ofNat n.toNat, by simp, .inr ⟨g, off, cap, by rw [hll], by omega, hm, hg, fun j u hu => ?_⟩⟩
    unfold bc at hu
    rw [List.map_map, List.getElem?_map] at hu
    cases hj : (zs.take len)[j]? with
    | none => rw [hj] at hu; cases hu
    | some n =>
      rw [hj] at hu
      simp only [Option.map_some, Function.comp, Option.some.injEq] at hu
      have hjl := (List.getElem?_eq_some_iff.1 hj).1
      have hjz : j < zs.length := by simp at hjl; omega
      have hn : zs[j]? = some n := by
        rw [List.getElem?_take] at hj
        split at hj
        · exact hj
        · cases hj
      have hmem : n ∈ zs := List.mem_of_getElem? hn
      rw [u8_back (hwz n hmem)] at hu
      have := hcell j hjz
      rw [add_plain, List.getD_eq_getElem?_getD, hn] at this
      rw [this, ← hu]
      rfl
end
end Go.Rill
