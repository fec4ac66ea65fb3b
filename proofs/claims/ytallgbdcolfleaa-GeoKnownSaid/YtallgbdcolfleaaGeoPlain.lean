/- Plain facts on geometries: what the printed functions of layer 10 answer, in closed form. -/
import Derived.Test.YtallgbdcolfleaaPGeoTellsx
namespace Go.Proofs.Ytallgbdcolfleaa.GeoPlain
open Go.RowKit Go.Proofs.Ytallgbdcolfleaa.PGeoTells Go.Proofs.YtallgbdcolfleaaW.PrintWords Go.Proofs.YtallgbdcolfleaaW.PrintLast Go.Proofs.YtallgbdcolfleaaW.PrintMore
set_option linter.unusedVariables false
set_option linter.unusedSimpArgs false

theorem wrap_id {x : Int} (h0 : -9223372036854775808 ≤ x) (h1 : x ≤ 9223372036854775807) : wrap64 x = x := by
  unfold wrap64
  omega

def needZ (l m : Int) : Int := (m * 4 + l - 2) / (l - 1)
def leanZ (l : Int) : Int := (l - 1) / 5
def InR (s l b : Int) : Prop := 16 ≤ s ∧ s ≤ 32 ∧ 32 ≤ l ∧ l ≤ 64 ∧ 1 ≤ b ∧ b ≤ 64
def GOK (s l b : Int) : Prop := InR s l b ∧ b + 9 < (s - needZ l b - 14) * (leanZ l + 1)
instance (s l b : Int) : Decidable (InR s l b) := by unfold InR; infer_instance
instance (s l b : Int) : Decidable (GOK s l b) := by unfold GOK; infer_instance

/-- The values of the slots. -/
theorem slots_cases {l : Int} (h0 : 32 ≤ l) (h1 : l ≤ 64) :
    l = 32 ∨ l = 33 ∨ l = 34 ∨ l = 35 ∨ l = 36 ∨ l = 37 ∨ l = 38 ∨ l = 39 ∨ l = 40 ∨ l = 41 ∨ l = 42 ∨ l = 43 ∨ l = 44 ∨ l = 45 ∨ l = 46 ∨ l = 47 ∨ l = 48 ∨
    l = 49 ∨ l = 50 ∨ l = 51 ∨ l = 52 ∨ l = 53 ∨ l = 54 ∨ l = 55 ∨ l = 56 ∨ l = 57 ∨ l = 58 ∨ l = 59 ∨ l = 60 ∨ l = 61 ∨ l = 62 ∨ l = 63 ∨ l = 64 := by omega

theorem within3 (k : Nat) (a b c : S43) : geo_within.f (k + 4) [a, b, c] = some (decide (a.f1 ≤ a.f0 ∧ a.f0 ≤ a.f2 ∧ b.f1 ≤ b.f0 ∧ b.f0 ≤ b.f2 ∧ c.f1 ≤ c.f0 ∧ c.f0 ≤ c.f2)) := by
  have w1 : wrap64 (0 + 1) = 1 := by rw [wrap_id (by decide) (by decide)]; rfl
  have w2 : wrap64 (1 + 1) = 2 := by rw [wrap_id (by decide) (by decide)]; rfl
  have w3 : wrap64 (2 + 1) = 3 := by rw [wrap_id (by decide) (by decide)]; rfl
  simp only [geo_within.f, geo_within.l0, w1, w2, w3, rd_T43]
  simp
  grind


theorem within2 (k : Nat) (a b : S43) : geo_within.f (k + 3) [a, b] = some (decide (a.f1 ≤ a.f0 ∧ a.f0 ≤ a.f2 ∧ b.f1 ≤ b.f0 ∧ b.f0 ≤ b.f2)) := by
  have w1 : wrap64 (0 + 1) = 1 := by rw [wrap_id (by decide) (by decide)]; rfl
  have w2 : wrap64 (1 + 1) = 2 := by rw [wrap_id (by decide) (by decide)]; rfl
  simp only [geo_within.f, geo_within.l0, w1, w2, rd_T43]
  simp
  grind
theorem within1 (k : Nat) (a : S43) : geo_within.f (k + 2) [a] = some (decide (a.f1 ≤ a.f0 ∧ a.f0 ≤ a.f2)) := by
  have w1 : wrap64 (0 + 1) = 1 := by rw [wrap_id (by decide) (by decide)]; rfl
  simp only [geo_within.f, geo_within.l0, w1, rd_T43]
  simp
  grind

theorem tdiv_pos {a b : Int} (ha : 0 ≤ a) : Int.tdiv a b = a / b := Int.tdiv_eq_ediv_of_nonneg ha

/-- What a need is, for a number of blocks that may be. -/
theorem need_eq {s l b m : Int} (h0 : 32 ≤ l) (h1 : l ≤ 64) (m0 : 0 ≤ m) (m1 : m ≤ 64) : geo_need.f s l b m = some (needZ l m) := by
  unfold geo_need.f needZ
  rw [wrap_id (x := l - 1) (by omega) (by omega), wrap_id (x := m * 4) (by omega) (by omega), wrap_id (x := m * 4 + l) (by omega) (by omega), wrap_id (x := m * 4 + l - 2) (by omega) (by omega), if_neg (by omega), tdiv_pos (by omega)]
  rcases slots_cases h0 h1 with h | h | h | h | h | h | h | h | h | h | h | h | h | h | h | h | h | h | h | h | h | h | h | h | h | h | h | h | h | h | h | h | h <;> subst h <;> (congr 1; exact wrap_id (by omega) (by omega))
theorem need_bd {l m : Int} (h0 : 32 ≤ l) (h1 : l ≤ 64) (m0 : 0 ≤ m) (m1 : m ≤ 64) : 0 ≤ needZ l m ∧ needZ l m ≤ 9 := by
  unfold needZ
  rcases slots_cases h0 h1 with h | h | h | h | h | h | h | h | h | h | h | h | h | h | h | h | h | h | h | h | h | h | h | h | h | h | h | h | h | h | h | h | h <;> subst h <;> omega
theorem lean_eq {s l b : Int} (h0 : 32 ≤ l) (h1 : l ≤ 64) : geo_lean.f s l b = some (leanZ l) := by
  unfold geo_lean.f leanZ
  rw [wrap_id (x := l - 1) (by omega) (by omega), tdiv_pos (by omega), wrap_id (by omega) (by omega)]
theorem lean_bd {l : Int} (h0 : 32 ≤ l) (h1 : l ≤ 64) : 6 ≤ leanZ l ∧ leanZ l ≤ 12 := by unfold leanZ; omega
theorem prod_bd {s l n : Int} (s0 : 16 ≤ s) (s1 : s ≤ 32) (h0 : 32 ≤ l) (h1 : l ≤ 64) (n0 : 0 ≤ n) (n1 : n ≤ 9) : -100 ≤ (s - n - 14) * (leanZ l + 1) ∧ (s - n - 14) * (leanZ l + 1) ≤ 300 := by
  have ⟨a, b⟩ := lean_bd h0 h1
  have : leanZ l = 6 ∨ leanZ l = 7 ∨ leanZ l = 8 ∨ leanZ l = 9 ∨ leanZ l = 10 ∨ leanZ l = 11 ∨ leanZ l = 12 := by omega
  rcases this with h | h | h | h | h | h | h <;> rw [h] <;> omega

theorem may_eq (k : Nat) (s l b : Int) : geo_may.f (k + 4) s l b = some (decide (GOK s l b)) := by
  unfold geo_may.f
  rw [within3]
  simp only [Option.bind_some]
  by_cases h : InR s l b
  · have h' := h
    obtain ⟨s0, s1, l0, l1, b0, b1⟩ := h'
    obtain ⟨n0, n1⟩ := need_bd l0 l1 (m := b) (by omega) b1
    obtain ⟨e0, e1⟩ := lean_bd l0 l1
    obtain ⟨p0, p1⟩ := prod_bd s0 s1 l0 l1 n0 n1
    rw [if_pos (by simp; omega), need_eq l0 l1 (by omega) b1, lean_eq l0 l1]
    simp only [Option.bind_some]
    rw [wrap_id (x := b + 9) (by omega) (by omega), wrap_id (x := s - needZ l b) (by omega) (by omega), wrap_id (x := s - needZ l b - 14) (by omega) (by omega), wrap_id (x := leanZ l + 1) (by omega) (by omega), wrap_id (by omega) (by omega)]
    congr 1
    rw [decide_eq_decide]
    exact ⟨fun q => ⟨h, q⟩, fun q => q.2⟩
  · rw [if_neg (by simp only [decide_eq_true_eq]; intro q; apply h; unfold InR; omega)]
    congr 1
    exact (decide_eq_false (fun q => h q.1)).symm

theorem check_eq (k : Nat) (s l b : Int) : geo_Check.f (k + 4) s l b = some (if GOK s l b then 0 else 15) := by
  unfold geo_Check.f
  rw [may_eq]; simp only [Option.bind_some, decide_eq_true_eq]
  split <;> rfl
theorem sl_bd {s l : Int} (s0 : 16 ≤ s) (s1 : s ≤ 32) (l0 : 32 ≤ l) (l1 : l ≤ 64) : 512 ≤ s * l ∧ s * l ≤ 2048 := by
  rcases slots_cases l0 l1 with h | h | h | h | h | h | h | h | h | h | h | h | h | h | h | h | h | h | h | h | h | h | h | h | h | h | h | h | h | h | h | h | h <;> subst h <;> omega
theorem sectors_eq (k : Nat) (s l b : Int) : geo_Sectors.f (k + 4) s l b = some (if GOK s l b then 3 + s * l else 0) := by
  unfold geo_Sectors.f
  rw [may_eq]; simp only [Option.bind_some, decide_eq_true_eq]
  split
  · rename_i h
    obtain ⟨⟨s0, s1, l0, l1, b0, b1⟩, _⟩ := h
    have := sl_bd s0 s1 l0 l1
    rw [wrap_id (x := s * _) (by omega) (by omega), wrap_id (by omega) (by omega)]
  · rfl
def Pl (s l p q : Int) : Prop := 0 ≤ p ∧ p < s ∧ 0 ≤ q ∧ q < l
instance (s l p q : Int) : Decidable (Pl s l p q) := by unfold Pl; infer_instance
theorem pl_bd {p l : Int} (s0 : 0 ≤ p) (s1 : p ≤ 32) (l0 : 32 ≤ l) (l1 : l ≤ 64) : 0 ≤ p * l ∧ p * l ≤ 2048 := by
  rcases slots_cases l0 l1 with h | h | h | h | h | h | h | h | h | h | h | h | h | h | h | h | h | h | h | h | h | h | h | h | h | h | h | h | h | h | h | h | h <;> subst h <;> omega
theorem at_eq (k : Nat) (s l b p q : Int) : geo_At.f (k + 4) s l b p q = some (if GOK s l b ∧ Pl s l p q then 3 + p * l + q else 0) := by
  unfold geo_At.f
  rw [may_eq]; simp only [Option.bind_some, decide_eq_true_eq]
  by_cases h : GOK s l b
  · rw [if_pos h]
    obtain ⟨⟨s0, s1, l0, l1, b0, b1⟩, hh⟩ := h
    rw [within2]; simp only [Option.bind_some, decide_eq_true_eq]
    rw [wrap_id (x := s - 1) (by omega) (by omega), wrap_id (x := l - 1) (by omega) (by omega)]
    by_cases g : Pl s l p q
    · obtain ⟨g0, g1, g2, g3⟩ := g
      have := pl_bd g0 (by omega) l0 l1
      rw [if_pos (by omega), if_pos ⟨⟨⟨s0, s1, l0, l1, b0, b1⟩, hh⟩, g0, g1, g2, g3⟩]
      rw [wrap_id (x := p * _) (by omega) (by omega), wrap_id (x := 3 + p * _) (by omega) (by omega), wrap_id (by omega) (by omega)]
    · rw [if_neg (by intro c; apply g; unfold Pl; omega), if_neg (fun c => g c.2)]
  · rw [if_neg h, if_neg (fun c => h c.1)]
theorem needs_eq (k : Nat) (s l b m : Int) : geo_Need.f (k + 4) s l b m = some (if GOK s l b then needZ l (mn (mx m 0) 64) else 0) := by
  unfold geo_Need.f
  rw [may_eq]; simp only [Option.bind_some, decide_eq_true_eq]
  split
  · rename_i h
    obtain ⟨⟨s0, s1, l0, l1, b0, b1⟩, _⟩ := h
    rw [need_eq l0 l1 (by unfold mn mx; omega) (by unfold mn mx; omega)]; rfl
  · rfl
theorem leans_eq (k : Nat) (s l b : Int) : geo_Lean.f (k + 4) s l b = some (if GOK s l b then leanZ l else 0) := by
  unfold geo_Lean.f
  rw [may_eq]; simp only [Option.bind_some, decide_eq_true_eq]
  split
  · rename_i h
    obtain ⟨⟨s0, s1, l0, l1, b0, b1⟩, _⟩ := h
    rw [lean_eq l0 l1]; rfl
  · rfl
theorem reserve_eq (k : Nat) (s l b m : Int) : geo_Reserve.f (k + 4) s l b m = some (if GOK s l b then needZ l (mn (mx m 0) 64) + 8 else 0) := by
  unfold geo_Reserve.f
  rw [may_eq]; simp only [Option.bind_some, decide_eq_true_eq]
  split
  · rename_i h
    have h' := h
    obtain ⟨⟨s0, s1, l0, l1, b0, b1⟩, _⟩ := h
    have := need_bd l0 l1 (m := mn (mx m 0) 64) (by unfold mn mx; omega) (by unfold mn mx; omega)
    rw [needs_eq, if_pos h']; simp only [Option.bind_some]
    rw [wrap_id (by omega) (by omega)]
  · rfl
theorem div_bd {a l : Int} (a0 : 0 ≤ a) (a1 : a ≤ 3000) (l0 : 32 ≤ l) (l1 : l ≤ 64) : 0 ≤ a / l ∧ a / l ≤ 3000 := by
  rcases slots_cases l0 l1 with h | h | h | h | h | h | h | h | h | h | h | h | h | h | h | h | h | h | h | h | h | h | h | h | h | h | h | h | h | h | h | h | h <;> subst h <;> omega
theorem place_eq (k : Nat) (s l b a : Int) : geo_Place.f (k + 4) s l b a = some (if GOK s l b ∧ 3 ≤ a ∧ a < 3 + s * l then ((a - 3) / l, (a - 3) % l, true) else (0, 0, false)) := by
  unfold geo_Place.f
  rw [sectors_eq]; simp only [Option.bind_some]
  rw [within1]; simp only [Option.bind_some, decide_eq_true_eq]
  by_cases h : GOK s l b
  · rw [if_pos h]
    have h' := h
    obtain ⟨⟨s0, s1, l0, l1, b0, b1⟩, _⟩ := h
    have hb := sl_bd s0 s1 l0 l1
    rw [wrap_id (x := 3 + s * l - 1) (by omega) (by omega)]
    by_cases g : 3 ≤ a ∧ a < 3 + s * l
    · rw [if_pos (by omega), if_neg (by omega), if_pos ⟨h', g⟩, wrap_id (x := a - 3) (by omega) (by omega), tdiv_pos (by omega), Int.tmod_eq_emod_of_nonneg (by omega)]
      have := div_bd (a := a - 3) (by omega) (by omega) l0 l1
      rw [wrap_id (x := (a - 3) / l) (by omega) (by omega)]
    · rw [if_neg (by omega), if_neg (fun c => g c.2)]
  · rw [if_neg h, if_neg (by rw [wrap_id (by omega) (by omega)]; omega), if_neg (fun c => h c.1)]
theorem gok_ex : GOK 18 32 4 := by decide
theorem works_eq (k : Nat) : rilllaw10_works.f (k + 4) = some true := by
  unfold rilllaw10_works.f
  have e1 : needZ 32 (mn (mx 4 0) 64) = 1 := by decide
  have e2 : leanZ 32 = 6 := by decide
  have e3 : GOK 18 32 4 ∧ Pl 18 32 1 2 := ⟨gok_ex, by decide⟩
  simp only [check_eq, needs_eq, leans_eq, sectors_eq, at_eq, if_pos gok_ex, if_pos e3, Option.bind_some, e1, e2, if_true]
  decide
end Go.Proofs.Ytallgbdcolfleaa.GeoPlain
