/- The law GeoNeeds: at any geometry and number the printed function answers true. -/
import Derived.Test.YtallgbdcolfleaaGeoPlainGeoNeeds
namespace Go.Proofs.Ytallgbdcolfleaa.GeoLaws
open Go.RowKit Go.Proofs.Ytallgbdcolfleaa.PGeoNeeds Go.Proofs.Ytallgbdcolfleaa.GeoPlainGeoNeeds Go.Proofs.YtallgbdcolfleaaW.PrintWords Go.Proofs.YtallgbdcolfleaaW.PrintLast Go.Proofs.YtallgbdcolfleaaW.PrintMore
set_option linter.unusedVariables false
set_option linter.unusedSimpArgs false

theorem pick_bd (x n : Int) (hn : 1 ≤ n) (h1 : n ≤ 9223372036854775807) : ∃ r, rillkit_Pick.f x n = some r ∧ 0 ≤ r ∧ r < n := by
  unfold rillkit_Pick.f
  rw [if_neg (by omega), if_neg (by omega)]
  have h2 := Int.tmod_lt_of_pos x (show 0 < n by omega)
  have h3 : -n < Int.tmod x n := by
    have := Int.tmod_lt_of_pos (-x) (show 0 < n by omega)
    rw [Int.neg_tmod] at this; omega
  split
  · rw [wrap_id (by omega) (by omega)]; exact ⟨_, rfl, by omega, by omega⟩
  · exact ⟨_, rfl, by omega, by omega⟩
theorem need_facts {l m : Int} (l0 : 32 ≤ l) (l1 : l ≤ 64) (m0 : 0 ≤ m) (m1 : m < 64) :
    needZ l m ≤ needZ l (m + 1) ∧ needZ l (m + 1) ≤ needZ l m + 1 ∧ 4 * m ≤ needZ l m * (l - 1) ∧ (0 < m → (needZ l m - 1) * (l - 1) < 4 * m) ∧ (m = 0 → needZ l m = 0) ∧ needZ l m * (l - 1) ≤ 1000 ∧ -100 ≤ (needZ l m - 1) * (l - 1) := by
  unfold needZ
  rcases slots_cases l0 l1 with h | h | h | h | h | h | h | h | h | h | h | h | h | h | h | h | h | h | h | h | h | h | h | h | h | h | h | h | h | h | h | h | h <;> subst h <;> omega
theorem need_most {l m : Int} (l0 : 32 ≤ l) (l1 : l ≤ 64) (m0 : 0 ≤ m) (m1 : m ≤ 64) : needZ l m ≤ needZ l 64 := by
  unfold needZ
  rcases slots_cases l0 l1 with h | h | h | h | h | h | h | h | h | h | h | h | h | h | h | h | h | h | h | h | h | h | h | h | h | h | h | h | h | h | h | h | h <;> subst h <;> omega
theorem needs_j0 (k : Nat) (s l b x m : Int) (h : GOK s l b) (m0 : 0 ≤ m) (m1 : m < 64) : rilllaw10_GeoNeeds.j0 (k + 5) x m (needZ l m) false s l b = some true := by
  have h' := h
  obtain ⟨⟨s0, s1, l0, l1, b0, b1⟩, _⟩ := h'
  have e1 : mn (mx m 0) 64 = m := by unfold mn mx; omega
  have e2 : mn (mx 64 0) 64 = 64 := by unfold mn mx; omega
  have bd := need_bd l0 l1 m0 (by omega)
  have b2 := need_bd (m := mn (mx x 0) 64) l0 l1 (by unfold mn mx; omega) (by unfold mn mx; omega)
  have b3 := need_most (m := mn (mx x 0) 64) l0 l1 (by unfold mn mx; omega) (by unfold mn mx; omega)
  simp only [rilllaw10_GeoNeeds.j0, reserve_eq, needs_eq, works_eq, if_pos h, e1, e2, Option.bind_some, Bool.false_eq_true, if_false]
  rw [wrap_id (by omega) (by omega), if_pos rfl, if_pos (by omega), if_pos b3]
theorem needs_true (s l b x : Int) (hx : (Lit.int .i64 x).wf = true) : rilllaw10_GeoNeeds.f 20 s l b x = some true := by
  unfold rilllaw10_GeoNeeds.f
  rw [check_eq 16]
  simp only [Option.bind_some]
  by_cases h : GOK s l b
  · have h' := h
    obtain ⟨⟨s0, s1, l0, l1, b0, b1⟩, _⟩ := h'
    rw [if_pos h, if_pos rfl]
    obtain ⟨m, hm, m0, m1⟩ := pick_bd x 64 (by omega) (by omega)
    obtain ⟨f1, f2, f3, f4, f5, f6, f7⟩ := need_facts l0 l1 m0 m1
    have e1 : mn (mx m 0) 64 = m := by unfold mn mx; omega
    have e2 : mn (mx (m + 1) 0) 64 = m + 1 := by unfold mn mx; omega
    have bd := need_bd l0 l1 m0 (by omega)
    rw [hm]; simp only [Option.bind_some]
    rw [wrap_id (x := m + 1) (by omega) (by omega)]
    simp only [needs_eq 16, if_pos h, e1, e2, Option.bind_some]
    have key := needs_j0 15 s l b x m h m0 m1
    rw [if_neg (by omega), wrap_id (x := needZ l m + 1) (by omega) (by omega), if_neg (by omega), wrap_id (x := l - 1) (by omega) (by omega), wrap_id (x := needZ l m * (l - 1)) (by omega) (by omega), wrap_id (x := 4 * m) (by omega) (by omega), if_neg (by omega)]
    by_cases hz : 0 < m
    · rw [if_pos (by omega), wrap_id (x := needZ l m - 1) (by omega) (by omega), wrap_id (x := (needZ l m - 1) * (l - 1)) (by omega) (by have := f4 hz; omega), if_neg (by have := f4 hz; omega), if_neg (by omega)]
      exact key
    · rw [if_neg (by omega), if_pos (by omega)]
      have e0 := f5 (by omega)
      rw [show (needZ l m != 0) = false by simp [e0]]
      exact key
  · rw [if_neg h, if_neg (by decide), needs_eq 16, reserve_eq 16, works_eq 16, if_neg h, if_neg h]
    rfl
theorem GeoNeeds_walk (s l b x : Int) (w : World) (_ : (Lit.int .i64 s).wf = true) (_ : (Lit.int .i64 l).wf = true) (_ : (Lit.int .i64 b).wf = true) (hx : (Lit.int .i64 x).wf = true) :
    Calls Try.prog 6 #[.agg #[.int .i64 s, .int .i64 l, .int .i64 b], .int .i64 x] w fun e w' => e = .returned (.bool true) ∧ Below w.heap.size w w' :=
  rilllaw10_GeoNeeds.calls 20 s l b x true w (needs_true s l b x hx)
end Go.Proofs.Ytallgbdcolfleaa.GeoLaws
