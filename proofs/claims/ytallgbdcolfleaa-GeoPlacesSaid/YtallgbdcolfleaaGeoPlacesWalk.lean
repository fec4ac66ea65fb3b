/- The law GeoPlaces: at any geometry, place and sector the printed function answers true. -/
import Derived.Test.YtallgbdcolfleaaGeoPlainGeoPlaces
namespace Go.Proofs.Ytallgbdcolfleaa.GeoLaws
open Go.RowKit Go.Proofs.Ytallgbdcolfleaa.PGeoPlaces Go.Proofs.Ytallgbdcolfleaa.GeoPlainGeoPlaces Go.Proofs.YtallgbdcolfleaaW.PrintWords Go.Proofs.YtallgbdcolfleaaW.PrintLast Go.Proofs.YtallgbdcolfleaaW.PrintMore
set_option linter.unusedVariables false
set_option linter.unusedSimpArgs false

theorem place_of {l p q : Int} (l0 : 32 ≤ l) (l1 : l ≤ 64) (q0 : 0 ≤ q) (q1 : q < l) : (3 + p * l + q - 3) / l = p ∧ (3 + p * l + q - 3) % l = q := by
  rcases slots_cases l0 l1 with h | h | h | h | h | h | h | h | h | h | h | h | h | h | h | h | h | h | h | h | h | h | h | h | h | h | h | h | h | h | h | h | h <;> subst h <;> omega
theorem of_place {s l a : Int} (l0 : 32 ≤ l) (l1 : l ≤ 64) (a0 : 3 ≤ a) (a1 : a < 3 + s * l) : 0 ≤ (a - 3) / l ∧ (a - 3) / l < s ∧ 0 ≤ (a - 3) % l ∧ (a - 3) % l < l ∧ 3 + (a - 3) / l * l + (a - 3) % l = a := by
  rcases slots_cases l0 l1 with h | h | h | h | h | h | h | h | h | h | h | h | h | h | h | h | h | h | h | h | h | h | h | h | h | h | h | h | h | h | h | h | h <;> subst h <;> omega
theorem at_room {s l p q : Int} (s1 : s ≤ 32) (l0 : 32 ≤ l) (l1 : l ≤ 64) (h : Pl s l p q) : 3 ≤ 3 + p * l + q ∧ 3 + p * l + q < 3 + s * l := by
  obtain ⟨p0, p1, q0, q1⟩ := h
  rcases slots_cases l0 l1 with h | h | h | h | h | h | h | h | h | h | h | h | h | h | h | h | h | h | h | h | h | h | h | h | h | h | h | h | h | h | h | h | h <;> subst h <;> omega

theorem places_j3 (k : Nat) (s l b : Int) (h : GOK s l b) : rilllaw10_GeoPlaces.j3 (k + 5) false s l b = some true := by
  have h' := h
  obtain ⟨⟨s0, s1, l0, l1, b0, b1⟩, _⟩ := h'
  have hb := sl_bd s0 s1 l0 l1
  simp only [rilllaw10_GeoPlaces.j3, sectors_eq, works_eq, if_pos h, Option.bind_some, Bool.false_eq_true, if_false]
  rw [wrap_id (x := s * l) (by omega) (by omega), wrap_id (x := 3 + s * l) (by omega) (by omega), if_pos rfl, if_pos (by omega)]
theorem places_j2 (k : Nat) (s l b a : Int) (h : GOK s l b) : rilllaw10_GeoPlaces.j2 (k + 6) a false s l b = some true := by
  have h' := h
  obtain ⟨⟨s0, s1, l0, l1, b0, b1⟩, _⟩ := h'
  simp only [rilllaw10_GeoPlaces.j2, sectors_eq, place_eq, at_eq, if_pos h, Option.bind_some, Bool.false_eq_true, if_false]
  by_cases g : 3 ≤ a ∧ a < 3 + s * l
  · obtain ⟨e0, e1, e2, e3, e4⟩ := of_place l0 l1 g.1 g.2
    have hp : GOK s l b ∧ Pl s l ((a - 3) / l) ((a - 3) % l) := ⟨h, e0, e1, e2, e3⟩
    have hq : GOK s l b ∧ 3 ≤ a ∧ a < 3 + s * l := ⟨h, g⟩
    simp only [if_pos hp, if_pos hq, e4, if_pos (show a ≥ 3 by omega), show decide (a < 3 + s * l) = true by simp; omega, bne_self_eq_false]
    simp [places_j3 k s l b h]
  · have hq : ¬ (GOK s l b ∧ 3 ≤ a ∧ a < 3 + s * l) := fun c => g c.2
    simp only [if_neg hq]
    by_cases g3 : a ≥ 3
    · rw [if_pos g3, show decide (a < 3 + s * l) = false by simp; omega]
      simp [places_j3 k s l b h]
    · rw [if_neg g3]
      simp [places_j3 k s l b h]
theorem places_j1 (k : Nat) (s l b p q a n : Int) (t : Bool) (h : GOK s l b) (ht : t = decide (Pl s l p q)) (hn : t = true → n = 3 + p * l + q) : rilllaw10_GeoPlaces.j1 (k + 7) a t n false s l b p q = some true := by
  have h' := h
  obtain ⟨⟨s0, s1, l0, l1, b0, b1⟩, _⟩ := h'
  simp only [rilllaw10_GeoPlaces.j1, place_eq, Option.bind_some, Bool.false_eq_true, if_false]
  by_cases g : Pl s l p q
  · have ht2 : t = true := by rw [ht]; simp [g]
    subst ht2
    have hn := hn rfl
    subst hn
    have hr := at_room s1 l0 l1 g
    have hq : GOK s l b ∧ 3 ≤ 3 + p * l + q ∧ 3 + p * l + q < 3 + s * l := ⟨h, hr⟩
    obtain ⟨f0, f1⟩ := place_of (p := p) l0 l1 g.2.2.1 g.2.2.2
    simp only [if_pos hq, f0, f1]
    simp [places_j2 k s l b a h]
  · have ht2 : t = false := by rw [ht]; simp [g]
    subst ht2
    simp [places_j2 k s l b a h]
theorem places_j0 (k : Nat) (s l b p q a : Int) (t : Bool) (h : GOK s l b) (ht : t = decide (Pl s l p q)) : rilllaw10_GeoPlaces.j0 (k + 8) a t s l b p q = some true := by
  have h' := h
  obtain ⟨⟨s0, s1, l0, l1, b0, b1⟩, _⟩ := h'
  simp only [rilllaw10_GeoPlaces.j0, at_eq, sectors_eq, if_pos h, Option.bind_some]
  by_cases g : Pl s l p q
  · have ht2 : t = true := by rw [ht]; simp [g]
    subst ht2
    have hr := at_room s1 l0 l1 g
    have hq : GOK s l b ∧ Pl s l p q := ⟨h, g⟩
    have e1 : ((true != (3 + p * l + q != 0)) = true) = False := by simp; omega
    simp only [if_pos hq, e1, if_false, if_true, if_neg (show ¬ (3 + p * l + q < 3) by omega), show decide (3 + p * l + q ≥ 3 + s * l) = false by simp; omega]
    exact places_j1 k s l b p q a _ true h ht (fun _ => rfl)
  · have ht2 : t = false := by rw [ht]; simp [g]
    subst ht2
    have hq : ¬ (GOK s l b ∧ Pl s l p q) := fun c => g c.2
    simp only [if_neg hq]
    exact places_j1 k s l b p q a _ false h ht (fun c => by cases c)
theorem places_true (s l b p q a : Int) : rilllaw10_GeoPlaces.f 20 s l b p q a = some true := by
  unfold rilllaw10_GeoPlaces.f
  rw [check_eq 16]
  simp only [Option.bind_some]
  by_cases h : GOK s l b
  · rw [if_pos h, if_pos rfl]
    have key : ∀ t, t = decide (Pl s l p q) → rilllaw10_GeoPlaces.j0 20 a t s l b p q = some true := fun t ht => places_j0 12 s l b p q a t h ht
    have hf : ∀ c : Prop, (Pl s l p q → c) → ¬ c → false = decide (Pl s l p q) := fun c hc hn => (decide_eq_false (fun g => hn (hc g))).symm
    split
    · split
      · split
        · refine key _ ?_
          rw [decide_eq_decide]
          exact ⟨fun g => ⟨by omega, by omega, by omega, g⟩, fun g => g.2.2.2⟩
        · rename_i g; exact key _ (hf _ (fun g => g.2.2.1) g)
      · rename_i g; exact key _ (hf _ (fun g => g.2.1) g)
    · rename_i g; exact key _ (hf _ (fun g => g.1) g)
  · have hq : ¬ (GOK s l b ∧ Pl s l p q) := fun c => h c.1
    rw [if_neg h, if_neg (by decide), sectors_eq 16, at_eq 16, works_eq 16, if_neg h, if_neg hq]
    rfl
theorem GeoPlaces_walk (s l b p q a : Int) (w : World) (_ : (Lit.int .i64 s).wf = true) (_ : (Lit.int .i64 l).wf = true) (_ : (Lit.int .i64 b).wf = true) (_ : (Lit.int .i64 p).wf = true) (_ : (Lit.int .i64 q).wf = true) (_ : (Lit.int .i64 a).wf = true) :
    Calls Try.prog 4 #[.agg #[.int .i64 s, .int .i64 l, .int .i64 b], .agg #[.int .i64 p, .int .i64 q], .int .i64 a] w fun e w' => e = .returned (.bool true) ∧ Below w.heap.size w w' :=
  rilllaw10_GeoPlaces.calls 20 s l b p q a true w (places_true s l b p q a)
end Go.Proofs.Ytallgbdcolfleaa.GeoLaws
