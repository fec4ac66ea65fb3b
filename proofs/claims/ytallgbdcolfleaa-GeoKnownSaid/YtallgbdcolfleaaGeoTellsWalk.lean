/- The law GeoTells: at any geometry, place, sector and number the printed function answers true: what the program answers is what the document's counting answers. -/
import Derived.Test.YtallgbdcolfleaaGeoPlain
import Derived.Test.YtallgbdcolfleaaTellsWalk
namespace Go.Proofs.Ytallgbdcolfleaa.GeoLaws
open Go.RowKit Go.Proofs.Ytallgbdcolfleaa.PGeoTells Go.Proofs.Ytallgbdcolfleaa.GeoPlain Go.Proofs.YtallgbdcolfleaaW.PrintWords Go.Proofs.YtallgbdcolfleaaW.PrintLast Go.Proofs.YtallgbdcolfleaaW.PrintMore
set_option linter.unusedVariables false
set_option linter.unusedSimpArgs false
namespace Tells

theorem needs_test {l m n : Int} (l0 : 32 ≤ l) (l1 : l ≤ 64) (m0 : 0 ≤ m) (m1 : m ≤ 64) (n0 : 0 ≤ n) (n1 : n ≤ needZ l m) : (n * (l - 1) < 4 * m ↔ n < needZ l m) ∧ 0 ≤ n * (l - 1) ∧ n * (l - 1) ≤ 1000 := by
  unfold needZ at *
  rcases slots_cases l0 l1 with h | h | h | h | h | h | h | h | h | h | h | h | h | h | h | h | h | h | h | h | h | h | h | h | h | h | h | h | h | h | h | h | h <;> subst h <;> omega
theorem needs_loop {l m : Int} (s b : Int) (l0 : 32 ≤ l) (l1 : l ≤ 64) (m0 : 0 ≤ m) (m1 : m ≤ 64) (d : Nat) : ∀ (k : Nat) (n : Int), 0 ≤ n → n ≤ needZ l m → needZ l m - n = d → d < k →
    rillref10_needs.l0 k m n s l b = some (needZ l m) := by
  have bd := need_bd l0 l1 m0 m1
  induction d with
  | zero =>
    intro k n n0 n1 hd hk
    obtain ⟨k, rfl⟩ : ∃ j, k = j + 1 := ⟨k - 1, by omega⟩
    obtain ⟨t, p0, p1⟩ := needs_test l0 l1 m0 m1 n0 n1
    simp only [rillref10_needs.l0]
    rw [wrap_id (x := l - 1) (by omega) (by omega), wrap_id (x := n * (l - 1)) (by omega) (by omega), wrap_id (x := 4 * m) (by omega) (by omega), if_neg (by omega)]
    congr 1; omega
  | succ d ih =>
    intro k n n0 n1 hd hk
    obtain ⟨k, rfl⟩ : ∃ j, k = j + 1 := ⟨k - 1, by omega⟩
    obtain ⟨t, p0, p1⟩ := needs_test l0 l1 m0 m1 n0 n1
    simp only [rillref10_needs.l0]
    rw [wrap_id (x := l - 1) (by omega) (by omega), wrap_id (x := n * (l - 1)) (by omega) (by omega), wrap_id (x := 4 * m) (by omega) (by omega), if_pos (t.2 (by omega)), wrap_id (x := n + 1) (by omega) (by omega)]
    exact ih k (n + 1) (by omega) (by omega) (by omega) (by omega)
theorem rneeds_eq {l m : Int} (k : Nat) (s b : Int) (l0 : 32 ≤ l) (l1 : l ≤ 64) (m0 : 0 ≤ m) (m1 : m ≤ 64) : rillref10_needs.f (k + 10) s l b m = some (needZ l m) := by
  have bd := need_bd l0 l1 m0 m1
  exact needs_loop s b l0 l1 m0 m1 (needZ l m).toNat (k + 10) 0 (by omega) (by omega) (by omega) (by omega)

theorem right_eq (k : Nat) (s l b : Int) : rillref10_right.f (k + 12) s l b = some (decide (GOK s l b)) := by
  have no : ¬ InR s l b → some false = some (decide (GOK s l b)) := fun c => by congr 1; exact (decide_eq_false (fun q => c q.1)).symm
  unfold rillref10_right.f
  by_cases hs0 : s < 16
  · rw [if_pos hs0]
    simp only [rillref10_right.j0]; rw [if_pos trivial]; exact no (fun c => by unfold InR at c; omega)
  · rw [if_neg hs0]
    simp only [rillref10_right.j0]
    by_cases hs1 : s > 32
    · rw [if_pos (by simpa using hs1)]; exact no (fun c => by unfold InR at c; omega)
    · rw [if_neg (by simpa using hs1)]
      by_cases hl0 : l < 32
      · rw [if_pos hl0]; simp only [rillref10_right.j1]; rw [if_pos trivial]; exact no (fun c => by unfold InR at c; omega)
      · rw [if_neg hl0]
        simp only [rillref10_right.j1]
        by_cases hl1 : l > 64
        · rw [if_pos (by simpa using hl1)]; exact no (fun c => by unfold InR at c; omega)
        · rw [if_neg (by simpa using hl1)]
          by_cases hb0 : b < 1
          · rw [if_pos hb0]; exact no (fun c => by unfold InR at c; omega)
          · rw [if_neg hb0]
            by_cases hb1 : b > 64
            · rw [if_pos hb1]; exact no (fun c => by unfold InR at c; omega)
            · rw [if_neg hb1]
              have l0 : 32 ≤ l := by omega
              have l1 : l ≤ 64 := by omega
              obtain ⟨n0, n1⟩ := need_bd l0 l1 (m := b) (by omega) (by omega)
              obtain ⟨e0, e1⟩ := lean_bd l0 l1
              obtain ⟨p0, p1⟩ := prod_bd (s := s) (n := needZ l b) (by omega) (by omega) l0 l1 n0 n1
              rw [rneeds_eq k s b l0 l1 (by omega) (by omega)]
              simp only [Option.bind_some]
              have el : wrap64 (Int.tdiv (wrap64 (l - 1)) 5) = leanZ l := by
                unfold leanZ
                rw [wrap_id (x := l - 1) (by omega) (by omega), tdiv_pos (by omega), wrap_id (by omega) (by omega)]
              rw [el, wrap_id (x := s - needZ l b) (by omega) (by omega), wrap_id (x := s - needZ l b - 14) (by omega) (by omega), wrap_id (x := leanZ l + 1) (by omega) (by omega), wrap_id (x := _ * _) (by omega) (by omega), wrap_id (x := b + 9) (by omega) (by omega)]
              congr 1
              rw [decide_eq_decide]
              have hin : InR s l b := by unfold InR; omega
              exact ⟨fun q => ⟨hin, q⟩, fun q => q.2⟩
theorem rcheck_eq (k : Nat) (s l b : Int) : rillref10_Check.f (k + 12) s l b = some (if GOK s l b then 0 else 15) := by
  unfold rillref10_Check.f
  rw [right_eq]; simp only [Option.bind_some, decide_eq_true_eq]
  split <;> rfl
theorem rsectors_eq (k : Nat) (s l b : Int) : rillref10_Sectors.f (k + 12) s l b = some (if GOK s l b then 3 + s * l else 0) := by
  unfold rillref10_Sectors.f
  rw [right_eq]; simp only [Option.bind_some, decide_eq_true_eq]
  split
  · rename_i h
    obtain ⟨⟨s0, s1, l0, l1, b0, b1⟩, _⟩ := h
    have := sl_bd s0 s1 l0 l1
    rw [wrap_id (x := s * _) (by omega) (by omega), wrap_id (by omega) (by omega)]
  · rfl
theorem seg_test {l x n : Int} (l0 : 32 ≤ l) (l1 : l ≤ 64) (x0 : 0 ≤ x) (x1 : x ≤ 2048) (n0 : 0 ≤ n) (n1 : n ≤ x / l) : (x - n * l ≥ l ↔ n < x / l) ∧ 0 ≤ n * l ∧ n * l ≤ x ∧ x - x / l * l = x % l ∧ x / l ≤ 64 := by
  rcases slots_cases l0 l1 with h | h | h | h | h | h | h | h | h | h | h | h | h | h | h | h | h | h | h | h | h | h | h | h | h | h | h | h | h | h | h | h | h <;> subst h <;> omega
theorem place_loop {l a : Int} (s b : Int) (l0 : 32 ≤ l) (l1 : l ≤ 64) (a0 : 3 ≤ a) (a1 : a ≤ 2051) (d : Nat) : ∀ (k : Nat) (n : Int), 0 ≤ n → n ≤ (a - 3) / l → (a - 3) / l - n = d → d < k →
    rillref10_Place.l0 k a n s l b = some ((a - 3) / l, (a - 3) % l, true) := by
  induction d with
  | zero =>
    intro k n n0 n1 hd hk
    obtain ⟨k, rfl⟩ : ∃ j, k = j + 1 := ⟨k - 1, by omega⟩
    obtain ⟨t, p0, p1, p2, p3⟩ := seg_test (x := a - 3) l0 l1 (by omega) (by omega) n0 n1
    have e : n = (a - 3) / l := by omega
    simp only [rillref10_Place.l0]
    rw [wrap_id (x := a - 3) (by omega) (by omega), wrap_id (x := n * l) (by omega) (by omega), wrap_id (x := a - 3 - n * l) (by omega) (by omega), if_neg (by omega), e, p2]
  | succ d ih =>
    intro k n n0 n1 hd hk
    obtain ⟨k, rfl⟩ : ∃ j, k = j + 1 := ⟨k - 1, by omega⟩
    obtain ⟨t, p0, p1, p2, p3⟩ := seg_test (x := a - 3) l0 l1 (by omega) (by omega) n0 n1
    simp only [rillref10_Place.l0]
    rw [wrap_id (x := a - 3) (by omega) (by omega), wrap_id (x := n * l) (by omega) (by omega), wrap_id (x := a - 3 - n * l) (by omega) (by omega), if_pos (t.2 (by omega)), wrap_id (x := n + 1) (by omega) (by omega)]
    exact ih k (n + 1) (by omega) (by omega) (by omega) (by omega)
theorem rplace_eq (k : Nat) (s l b a : Int) : rillref10_Place.f (k + 70) s l b a = some (if GOK s l b ∧ 3 ≤ a ∧ a < 3 + s * l then ((a - 3) / l, (a - 3) % l, true) else (0, 0, false)) := by
  unfold rillref10_Place.f
  by_cases h3 : a < 3
  · rw [if_pos h3, if_neg (by omega)]
    simp only [rillref10_Place.j0]
    rfl
  · rw [if_neg h3, rsectors_eq (k + 58)]
    simp only [Option.bind_some, rillref10_Place.j0]
    by_cases h : GOK s l b
    · rw [if_pos h]
      have h' := h
      obtain ⟨⟨s0, s1, l0, l1, b0, b1⟩, _⟩ := h
      have hb := sl_bd s0 s1 l0 l1
      by_cases g : a < 3 + s * l
      · rw [if_neg (by simp; omega), if_pos ⟨h', by omega, g⟩]
        obtain ⟨t, p0, p1, p2, p3⟩ := seg_test (x := a - 3) (n := 0) l0 l1 (by omega) (by omega) (by omega) (by have := div_bd (a := a - 3) (by omega) (by omega) l0 l1; omega)
        have := div_bd (a := a - 3) (by omega) (by omega) l0 l1
        exact place_loop s b l0 l1 (by omega) (by omega) ((a - 3) / l).toNat _ 0 (by omega) (by omega) (by omega) (by omega)
      · rw [if_pos (by simp; omega), if_neg (by omega)]
    · rw [if_neg h, if_pos (by simp; omega), if_neg (fun c => h c.1)]
theorem place_iff {s l p q x : Int} (s1 : s ≤ 32) (l0 : 32 ≤ l) (l1 : l ≤ 64) (x0 : 3 ≤ x) (x1 : x < 3 + s * l) : ((x - 3) / l = p ∧ (x - 3) % l = q) ↔ (Pl s l p q ∧ x = 3 + p * l + q) := by
  unfold Pl
  rcases slots_cases l0 l1 with h | h | h | h | h | h | h | h | h | h | h | h | h | h | h | h | h | h | h | h | h | h | h | h | h | h | h | h | h | h | h | h | h <;> subst h <;> omega
theorem pl_room {s l p q : Int} (s1 : s ≤ 32) (l0 : 32 ≤ l) (l1 : l ≤ 64) (h : Pl s l p q) : 3 ≤ 3 + p * l + q ∧ 3 + p * l + q < 3 + s * l := by
  obtain ⟨p0, p1, q0, q1⟩ := h
  rcases slots_cases l0 l1 with h | h | h | h | h | h | h | h | h | h | h | h | h | h | h | h | h | h | h | h | h | h | h | h | h | h | h | h | h | h | h | h | h <;> subst h <;> omega
theorem at_loop {s l b : Int} (p q : Int) (h : GOK s l b) (d : Nat) : ∀ (k : Nat) (x : Int), 3 ≤ x → x ≤ 3 + s * l → 3 + s * l - x = d → d + 71 < k → (Pl s l p q → x ≤ 3 + p * l + q) →
    rillref10_At.l0 k x s l b p q = some (if Pl s l p q then 3 + p * l + q else 0) := by
  have h' := h
  obtain ⟨⟨s0, s1, l0, l1, b0, b1⟩, _⟩ := h'
  have hb := sl_bd s0 s1 l0 l1
  induction d with
  | zero =>
    intro k x x0 x1 hd hk hp
    obtain ⟨k, rfl⟩ : ∃ j, k = j + 1 := ⟨k - 1, by omega⟩
    have es : rillref10_Sectors.f k s l b = some (if GOK s l b then 3 + s * l else 0) := by
      obtain ⟨j, rfl⟩ : ∃ j, k = j + 12 := ⟨k - 12, by omega⟩
      exact rsectors_eq j s l b
    have ep : rillref10_Place.f k s l b x = some (if GOK s l b ∧ 3 ≤ x ∧ x < 3 + s * l then ((x - 3) / l, (x - 3) % l, true) else (0, 0, false)) := by
      obtain ⟨j, rfl⟩ : ∃ j, k = j + 70 := ⟨k - 70, by omega⟩
      exact rplace_eq j s l b x
    simp only [rillref10_At.l0]
    rw [es, if_pos h]
    simp only [Option.bind_some]
    rw [if_neg (by omega), if_neg (fun c => by have := hp c; have := pl_room s1 l0 l1 c; omega)]
  | succ d ih =>
    intro k x x0 x1 hd hk hp
    obtain ⟨k, rfl⟩ : ∃ j, k = j + 1 := ⟨k - 1, by omega⟩
    have es : rillref10_Sectors.f k s l b = some (if GOK s l b then 3 + s * l else 0) := by
      obtain ⟨j, rfl⟩ : ∃ j, k = j + 12 := ⟨k - 12, by omega⟩
      exact rsectors_eq j s l b
    have ep : rillref10_Place.f k s l b x = some (if GOK s l b ∧ 3 ≤ x ∧ x < 3 + s * l then ((x - 3) / l, (x - 3) % l, true) else (0, 0, false)) := by
      obtain ⟨j, rfl⟩ : ∃ j, k = j + 70 := ⟨k - 70, by omega⟩
      exact rplace_eq j s l b x
    simp only [rillref10_At.l0]
    rw [es, if_pos h]
    simp only [Option.bind_some]
    rw [if_pos (by omega), ep, if_pos ⟨h, x0, by omega⟩]
    simp only [Option.bind_some]
    have hi := place_iff (p := p) (q := q) s1 l0 l1 x0 (show x < 3 + s * l by omega)
    by_cases g : (x - 3) / l = p ∧ (x - 3) % l = q
    · obtain ⟨g1, g2⟩ := hi.1 g
      rw [if_pos (by simp [g.1, g.2]), if_pos g1, g2]
    · rw [if_neg (by simpa using g), wrap_id (by omega) (by omega)]
      refine ih k (x + 1) (by omega) (by omega) (by omega) (by omega) (fun c => ?_)
      have h1 := hp c
      have h2 : x ≠ 3 + p * l + q := fun e => g (hi.2 ⟨c, e⟩)
      omega
theorem rat_eq (k : Nat) (s l b p q : Int) : rillref10_At.f (k + 2200) s l b p q = some (if GOK s l b ∧ Pl s l p q then 3 + p * l + q else 0) := by
  unfold rillref10_At.f
  by_cases h : GOK s l b
  · have h' := h
    obtain ⟨⟨s0, s1, l0, l1, b0, b1⟩, _⟩ := h'
    have hb := sl_bd s0 s1 l0 l1
    rw [at_loop p q h (s * l).toNat (k + 2200) 3 (by omega) (by omega) (by omega) (by omega) (fun c => (pl_room s1 l0 l1 c).1)]
    by_cases g : Pl s l p q
    · rw [if_pos g, if_pos ⟨h, g⟩]
    · rw [if_neg g, if_neg (fun c => g c.2)]
  · rw [if_neg (fun c => h c.1)]
    obtain ⟨j, hj⟩ : ∃ j, k + 2200 = (j + 12) + 1 := ⟨k + 2187, by omega⟩
    rw [hj]
    simp only [rillref10_At.l0]
    rw [rsectors_eq, if_neg h]
    rfl
theorem rneed_eq (k : Nat) (s l b m : Int) : rillref10_Need.f (k + 12) s l b m = some (if GOK s l b then needZ l (mn (mx m 0) 64) else 0) := by
  unfold rillref10_Need.f
  rw [right_eq]; simp only [Option.bind_some, decide_eq_true_eq]
  by_cases h : GOK s l b
  · rw [if_pos h, if_pos h]
    obtain ⟨⟨s0, s1, l0, l1, b0, b1⟩, _⟩ := h
    simp only [rillref10_Need.j0, decide_eq_true_eq]
    by_cases h0 : m < 0
    · rw [if_pos h0]
      have e : mn (mx m 0) 64 = 0 := by unfold mn mx; omega
      rw [e]; unfold needZ
      congr 1
      rcases slots_cases l0 l1 with h | h | h | h | h | h | h | h | h | h | h | h | h | h | h | h | h | h | h | h | h | h | h | h | h | h | h | h | h | h | h | h | h <;> subst h <;> omega
    · rw [if_neg h0]
      by_cases h1 : m > 64
      · have e : mn (mx m 0) 64 = 64 := by unfold mn mx; omega
        rw [if_pos h1, rneeds_eq (k + 1) s b l0 l1 (by omega) (by omega), e]; rfl
      · have e : mn (mx m 0) 64 = m := by unfold mn mx; omega
        rw [if_neg h1, rneeds_eq (k + 1) s b l0 l1 (by omega) (by omega), e]; rfl
  · rw [if_neg h, if_neg h]
    simp only [rillref10_Need.j0]
    rfl
theorem rreserve_eq (k : Nat) (s l b m : Int) : rillref10_Reserve.f (k + 12) s l b m = some (if GOK s l b then needZ l (mn (mx m 0) 64) + 8 else 0) := by
  unfold rillref10_Reserve.f
  rw [right_eq]; simp only [Option.bind_some, decide_eq_true_eq]
  by_cases h : GOK s l b
  · rw [if_pos h, if_pos h, rneed_eq, if_pos h]
    obtain ⟨⟨s0, s1, l0, l1, b0, b1⟩, _⟩ := h
    have := need_bd l0 l1 (m := mn (mx m 0) 64) (by unfold mn mx; omega) (by unfold mn mx; omega)
    simp only [Option.bind_some]
    rw [wrap_id (by omega) (by omega)]
  · rw [if_neg h, if_neg h]
theorem rlean_eq (k : Nat) (s l b : Int) : rillref10_Lean.f (k + 12) s l b = some (if GOK s l b then leanZ l else 0) := by
  unfold rillref10_Lean.f
  rw [right_eq]; simp only [Option.bind_some, decide_eq_true_eq]
  by_cases h : GOK s l b
  · rw [if_pos h, if_pos h]
    obtain ⟨⟨s0, s1, l0, l1, b0, b1⟩, _⟩ := h
    unfold leanZ
    rw [wrap_id (x := l - 1) (by omega) (by omega), tdiv_pos (by omega), wrap_id (by omega) (by omega)]
  · rw [if_neg h, if_neg h]

theorem tells_true (s l b p q a m : Int) : rilllaw10_GeoTells.f 3000 s l b p q a m = some true := by
  unfold rilllaw10_GeoTells.f
  rw [place_eq 2996, rplace_eq 2930, check_eq 2996, rcheck_eq 2988, sectors_eq 2996, rsectors_eq 2988, at_eq 2996, rat_eq 800]
  simp only [Option.bind_some, if_true, beq_self_eq_true, bne_self_eq_false, Bool.not_true, Bool.or_false, Bool.false_eq_true, if_false]
  simp only [rilllaw10_GeoTells.j0]
  rw [needs_eq 2995, rneed_eq 2987, reserve_eq 2995, rreserve_eq 2987, leans_eq 2995, rlean_eq 2987, works_eq 2995]
  simp
theorem _root_.Go.Proofs.Ytallgbdcolfleaa.GeoLaws.GeoTells_walk (s l b p q a m : Int) (w : World) (_ : (Lit.int .i64 s).wf = true) (_ : (Lit.int .i64 l).wf = true) (_ : (Lit.int .i64 b).wf = true) (_ : (Lit.int .i64 p).wf = true) (_ : (Lit.int .i64 q).wf = true) (_ : (Lit.int .i64 a).wf = true) (_ : (Lit.int .i64 m).wf = true) :
    Calls Try.prog 7 #[.agg #[.int .i64 s, .int .i64 l, .int .i64 b], .agg #[.int .i64 p, .int .i64 q], .int .i64 a, .int .i64 m] w fun e w' => e = .returned (.bool true) ∧ Below w.heap.size w w' :=
  rilllaw10_GeoTells.calls 3000 s l b p q a m true rfl w (tells_true s l b p q a m)
end Tells
end Go.Proofs.Ytallgbdcolfleaa.GeoLaws
