/- What is known of GeoTells and of geo.may, for the run of GeoKnown. -/
import Derived.Test.YtallgbdcolfleaaVV
import Derived.Test.YtallgbdcolfleaaGeoTellsWalk
namespace Go.Proofs.Ytallgbdcolfleaa.VMGeo
open Go.Rill Go.Rill.VM Go.RowKit Go.Proofs.Ytallgbdcolfleaa.GeoPlain
set_option linter.unusedVariables false
theorem list3 {α : Type} : ∀ {l : List α}, l.length = 3 → ∃ a b c, l = [a, b, c]
  | [a, b, c], _ => ⟨a, b, c, rfl⟩
theorem list2 {α : Type} : ∀ {l : List α}, l.length = 2 → ∃ a b, l = [a, b]
  | [a, b], _ => ⟨a, b, rfl⟩
theorem tells (vs : List Value) (w : World) (h : IntsV [3, 2, 0, 0] vs) : Calls Try.prog 7 vs.toArray w fun e w' => e = .returned (.bool true) ∧ Ext w w' := by
  obtain _ | ⟨v0, _ | ⟨v1, _ | ⟨v2, _ | ⟨v3, _ | ⟨v4, r⟩⟩⟩⟩⟩ := vs
  · exact h.elim
  · exact h.2.elim
  · exact h.2.2.elim
  · exact h.2.2.2.elim
  · obtain ⟨⟨xs, rfl, n0, a0⟩, ⟨ys, rfl, n1, a1⟩, ⟨p, rfl, hp⟩, ⟨q, rfl, hq⟩, _⟩ := h
    obtain ⟨x, y, z, rfl⟩ := list3 n0
    obtain ⟨u, v, rfl⟩ := list2 n1
    obtain ⟨x, rfl, hx⟩ := a0 x (by simp)
    obtain ⟨y, rfl, hy⟩ := a0 y (by simp)
    obtain ⟨z, rfl, hz⟩ := a0 z (by simp)
    obtain ⟨u, rfl, hu⟩ := a1 u (by simp)
    obtain ⟨v, rfl, hv⟩ := a1 v (by simp)
    exact GeoLaws.GeoTells_walk x y z u v p q w hx hy hz hu hv hp hq
  · exact h.2.2.2.2.elim
def mayR (s l b : Int) : Bool := decide (GOK s l b)
theorem may (a b c : Int) (w : World) (_ : (Lit.int .i64 a).wf = true) (_ : (Lit.int .i64 b).wf = true) (_ : (Lit.int .i64 c).wf = true) : Calls Try.prog 25 #[.agg #[.int .i64 a, .int .i64 b, .int .i64 c]] w fun e w' => e = .returned (.bool (mayR a b c)) ∧ Ext w w' :=
  PGeoTells.geo_may.calls 4 a b c _ w (may_eq 0 a b c)
end Go.Proofs.Ytallgbdcolfleaa.VMGeo
