/- Words of 96 bits in a number; a tree of numbers: for running closed code in the kernel. Of whatever program. -/
import Derived.Test.YtnebjbgcibjohaaRR
import Derived.Laws.Pointers
import Derived.Laws.Small
import Derived.Laws.StructEq
import Derived.ChangeKeysEq
section
namespace Go.Rill.VM
set_option linter.unusedVariables false
set_option linter.unusedSimpArgs false

/-- The word i of a number. -/
def wd (x i : Nat) : Nat := Nat.mod (Nat.shiftRight x (Nat.mul 96 i)) 79228162514264337593543950336
/-- n words from the word i on. -/
def ws (x i n : Nat) : Nat := Nat.mod (Nat.shiftRight x (Nat.mul 96 i)) (Nat.pow 2 (Nat.mul 96 n))
/-- .. of a number whose first 64 bits are salt. -/
def gw (F i : Nat) : Nat := Nat.mod (Nat.shiftRight F (Nat.add 64 (Nat.mul 96 i))) 79228162514264337593543950336
def gs (F i n : Nat) : Nat := Nat.mod (Nat.shiftRight F (Nat.add 64 (Nat.mul 96 i))) (Nat.pow 2 (Nat.mul 96 n))
def cpx (F d e : Nat) : Nat := Nat.xor F (Nat.xor (Nat.shiftLeft e (Nat.add 64 (Nat.mul 96 d))) (Nat.mod (Nat.mul e (Nat.add 2654435769 (Nat.mul d 40503))) 4294967291))
/-- The words d .. d + n - 1 are those of x. -/
def cp (F d n x : Nat) : Nat := cpx F d (Nat.xor (gs F d n) (Nat.mod x (Nat.pow 2 (Nat.mul 96 n))))

theorem wd_eq (x i : Nat) : wd x i = (x >>> (96 * i)) % 2 ^ 96 := rfl
theorem gw_eq (x i : Nat) : gw x i = (x >>> (64 + 96 * i)) % 2 ^ 96 := rfl
theorem gs_eq (x i n : Nat) : gs x i n = (x >>> (64 + 96 * i)) % 2 ^ (96 * n) := rfl
theorem wd_bit (x i j : Nat) : (wd x i).testBit j = (decide (j < 96) && x.testBit (96 * i + j)) := by
  rw [wd_eq, Nat.testBit_mod_two_pow, Nat.testBit_shiftRight]
theorem gw_bit (x i j : Nat) : (gw x i).testBit j = (decide (j < 96) && x.testBit (64 + 96 * i + j)) := by
  rw [gw_eq, Nat.testBit_mod_two_pow, Nat.testBit_shiftRight]
theorem gs_bit (x i n j : Nat) : (gs x i n).testBit j = (decide (j < 96 * n) && x.testBit (64 + 96 * i + j)) := by
  rw [gs_eq, Nat.testBit_mod_two_pow, Nat.testBit_shiftRight]
theorem gw_cp {F d n x q : Nat} : gw (cp F d n x) q = if d ≤ q ∧ q < d + n then wd x (q - d) else gw F q := by
  apply Nat.eq_of_testBit_eq
  intro k
  have e1 : cp F d n x = F ^^^ (((gs F d n ^^^ (x % 2 ^ (96 * n))) <<< (64 + 96 * d)) ^^^ (((gs F d n ^^^ (x % 2 ^ (96 * n))) * (2654435769 + d * 40503)) % 4294967291)) := rfl
  have h0 : (((gs F d n ^^^ (x % 2 ^ (96 * n))) * (2654435769 + d * 40503)) % 4294967291).testBit (64 + 96 * q + k) = false :=
    Nat.testBit_lt_two_pow (Nat.lt_of_lt_of_le (Nat.mod_lt _ (by decide)) (Nat.le_trans (show 4294967291 ≤ 2 ^ 64 by decide) (Nat.pow_le_pow_right (by decide) (by omega))))
  rw [e1, gw_bit, Nat.testBit_xor, Nat.testBit_xor, h0, Nat.testBit_shiftLeft, Nat.testBit_xor, gs_bit, Nat.testBit_mod_two_pow, Bool.xor_false]
  clear h0 e1
  by_cases hk : k < 96
  · by_cases hq : d ≤ q ∧ q < d + n
    · rw [if_pos hq, wd_bit]
      have h1 : 64 + 96 * d ≤ 64 + 96 * q + k := by omega
      have h2 : 64 + 96 * q + k - (64 + 96 * d) = 96 * (q - d) + k := by omega
      have h3 : 96 * (q - d) + k < 96 * n := by omega
      have h4 : 64 + 96 * d + (96 * (q - d) + k) = 64 + 96 * q + k := by omega
      simp only [hk, h1, h2, h3, h4, decide_true, Bool.true_and, ge_iff_le]
      cases F.testBit (64 + 96 * q + k) <;> simp
    · rw [if_neg hq, gw_bit]
      by_cases h1 : 64 + 96 * d ≤ 64 + 96 * q + k
      · have h3 : ¬ 64 + 96 * q + k - (64 + 96 * d) < 96 * n := by omega
        simp [hk, h3]
      · simp [hk, h1]
  · by_cases hq : d ≤ q ∧ q < d + n
    · simp [hk, hq, wd_bit]
    · simp [hk, hq, gw_bit]
theorem wd_zero (i : Nat) : wd 0 i = 0 := by rw [wd_eq, Nat.zero_shiftRight]
theorem gw_zero (i : Nat) : gw 0 i = 0 := by rw [gw_eq, Nat.zero_shiftRight]
/-! ### A tree: four branches a node, at the leaves a label and its number -/
inductive HT where
  | lf (k x : Nat)
  | nd (a b c d : HT)
noncomputable def HT.getr (t : HT) : Nat → Nat → Nat :=
  HT.rec (motive := fun _ => Nat → Nat → Nat) (fun k x _ q => Bool.rec (motive := fun _ => Nat) 0 x (Nat.beq q k))
    (fun _ _ _ _ ia ib ic id p q => Bool.rec (motive := fun _ => Nat)
      (Bool.rec (motive := fun _ => Nat) (ia (Nat.shiftRight p 2) q) (ib (Nat.shiftRight p 2) q) (Nat.beq (Nat.land p 1) 1))
      (Bool.rec (motive := fun _ => Nat) (ic (Nat.shiftRight p 2) q) (id (Nat.shiftRight p 2) q) (Nat.beq (Nat.land p 1) 1)) (Nat.ble 2 (Nat.land p 3))) t
noncomputable def HT.get (t : HT) (b : Nat) : Nat := t.getr b b
noncomputable def HT.putr (x : Nat) (t : HT) : Nat → Nat → (HT → Bool) → Bool :=
  HT.rec (motive := fun _ => Nat → Nat → (HT → Bool) → Bool)
    (fun k y _ q K => Bool.rec (motive := fun _ => Bool) (Bool.rec (motive := fun _ => Bool) false (K (HT.lf q x)) (Nat.beq y 0)) (K (HT.lf q x)) (Nat.beq q k))
    (fun a b c d ia ib ic id p q K => Bool.rec (motive := fun _ => Bool)
      (Bool.rec (motive := fun _ => Bool) (ia (Nat.shiftRight p 2) q fun a => K (HT.nd a b c d)) (ib (Nat.shiftRight p 2) q fun b => K (HT.nd a b c d)) (Nat.beq (Nat.land p 1) 1))
      (Bool.rec (motive := fun _ => Bool) (ic (Nat.shiftRight p 2) q fun c => K (HT.nd a b c d)) (id (Nat.shiftRight p 2) q fun d => K (HT.nd a b c d)) (Nat.beq (Nat.land p 1) 1)) (Nat.ble 2 (Nat.land p 3))) t
noncomputable def HT.put (x : Nat) (t : HT) (b : Nat) (K : HT → Bool) : Bool := t.putr x b b K
/-- A tree of so many levels, all noughts. -/
def HT.full : Nat → HT
  | 0 => .lf 0 0
  | n + 1 => .nd (HT.full n) (HT.full n) (HT.full n) (HT.full n)
end Go.Rill.VM
end
section
namespace Go.Rill.VM
set_option linter.unusedVariables false
set_option linter.unusedSimpArgs false
open Go.RowKit

def tg : IntKind → Nat
  | .i8 => 1 | .i16 => 2 | .i32 => 3 | .i64 => 4 | .u8 => 5 | .u16 => 6 | .u32 => 7 | .u64 => 8
def kd : Nat → Option IntKind
  | 1 => some .i8 | 2 => some .i16 | 3 => some .i32 | 4 => some .i64 | 5 => some .u8 | 6 => some .u16 | 7 => some .u32 | 8 => some .u64 | _ => none
theorem tg_pos (k : IntKind) : 1 ≤ tg k ∧ tg k ≤ 8 := by cases k <;> decide
/-- What a label stands for. -/
inductive G where
  | obj (blk : Nat) (T : TypeId) (cap : Nat)
  | map (blk : Nat)
  | str (s : List UInt8)
  | fn (f : FuncId) (caps : List Value)
  | any (v : Value)
def G.blk : G → Option Nat
  | .obj g _ _ => some g
  | .map g => some g
  | _ => none
abbrev GE := Nat → Option G
def GE.le (E E' : GE) : Prop := ∀ b g, E b = some g → E' b = some g
def GE.blk (E : GE) (b : Nat) : Option Nat := (E b).bind G.blk
def GE.pt (E : GE) (b off : Nat) : Option Addr := match E b with | some (.obj g _ _) => some ⟨g, off, none⟩ | _ => none
/-- Methods' names, by numbers of our own. -/
def mthName : Nat → String
  | 0 => "Seal"
  | 1 => "Open"
  | 2 => "Sum"
  | 3 => "Tag"
  | 4 => "Level"
  | 5 => "Raise"
  | 6 => "Read"
  | 7 => "Write"
  | 8 => "Sync"
  | _ => ""
/-- What a word stands for. -/
def cvt (E : GE) (t p : Nat) : Option Value :=
  match t with
  | 0 => none
  | 9 => if p = 0 then some undef else none
  | 11 => some (.bool (p == 1))
  | 12 => some (.pointer none)
  | 13 => (E.pt (p % 16777216) (p / 16777216)).map fun a => .pointer (some a)
  | 14 => some (.slice none 0 0)
  | 15 => if (p / 70368744177664) % 4194304 ≤ p / 295147905179352825856 then (E.pt (p % 16777216) (p / 16777216 % 4194304)).map fun a => .slice (some a) ((p / 70368744177664) % 4194304) (p / 295147905179352825856) else none
  | 16 => match E (p % 16777216) with
    | some (.obj g _ cap) => if (p / 70368744177664) % 4194304 + p / 295147905179352825856 ≤ cap ∧ cap ≤ maxLen then some (.slice (some ⟨g, p / 16777216 % 4194304, none⟩) ((p / 70368744177664) % 4194304) (cap - p / 295147905179352825856)) else none
    | _ => none
  | 17 => match E p with | some (.any (.slice (some a) 0 c)) => some (.slice (some a) 0 c) | _ => none
  | 18 => match E p with | some (.str s) => some (.string ⟨s.toArray⟩) | _ => none
  | 19 => some (.map none)
  | 20 => match E p with | some (.map g) => some (.map (some g)) | _ => none
  | 21 => some .nilIface
  | 22 => (E.pt (p / 65536 % 16777216) (p / 1099511627776)).map fun a => .iface (p % 65536) (.pointer (some a))
  | 23 => some (.func (.func p) #[] #[])
  | 24 => match E p with | some (.fn f cs) => some (.func (.func f) #[] cs.toArray) | _ => none
  | 25 => some .nilFunc
  | 26 => (E.pt (p / 65536 % 16777216) 0).map fun a => .func (.method (mthName (p / 1099511627776))) #[.iface (p % 65536) (.pointer (some a))] #[]
  | 27 => (E.pt (p / 65536 % 16777216) (p / 1099511627776)).map fun a => .func (.func (p % 65536)) #[] #[.pointer (some a)]
  | 28 => if p = 0 then some (.string .empty) else none
  | t => (kd t).map fun k => .int k ((p : Int) - 18446744073709551616)
def cv (E : GE) (w : Nat) : Option Value := cvt E (w % 32) (w / 32)

theorem GE.le_refl (E : GE) : E.le E := fun _ _ h => h
theorem GE.le_trans {A B C : GE} (h : A.le B) (k : B.le C) : A.le C := fun b g e => k b g (h b g e)
theorem GE.pt_mono {E E' : GE} (h : E.le E') {b off : Nat} {a : Addr} (e : E.pt b off = some a) : E'.pt b off = some a := by
  unfold GE.pt at *
  cases hb : E b with
  | none => rw [hb] at e; cases e
  | some g => rw [h b g hb]; rw [hb] at e; exact e
theorem cvt_mono {E E' : GE} (h : E.le E') {t p : Nat} {v : Value} (e : cvt E t p = some v) : cvt E' t p = some v := by
  unfold cvt at *
  split at e
  case h_5 => rw [Option.map_eq_some_iff] at *; obtain ⟨a, h1, h2⟩ := e; exact ⟨a, GE.pt_mono h h1, h2⟩
  case h_7 =>
    split at e
    · rename_i hc; rw [if_pos hc]; rw [Option.map_eq_some_iff] at *; obtain ⟨a, h1, h2⟩ := e; exact ⟨a, GE.pt_mono h h1, h2⟩
    · cases e
  case h_8 => split at e <;> first | (rename_i hb; simp only [h _ _ hb]; exact e) | cases e
  case h_9 => split at e <;> first | (rename_i hb; simp only [h _ _ hb]; exact e) | cases e
  case h_10 => split at e <;> first | (rename_i hb; simp only [h _ _ hb]; exact e) | cases e
  case h_12 => split at e <;> first | (rename_i hb; simp only [h _ _ hb]; exact e) | cases e
  case h_14 => rw [Option.map_eq_some_iff] at *; obtain ⟨a, h1, h2⟩ := e; exact ⟨a, GE.pt_mono h h1, h2⟩
  case h_16 => split at e <;> first | (rename_i hb; simp only [h _ _ hb]; exact e) | cases e
  case h_18 => rw [Option.map_eq_some_iff] at *; obtain ⟨a, h1, h2⟩ := e; exact ⟨a, GE.pt_mono h h1, h2⟩
  case h_19 => rw [Option.map_eq_some_iff] at *; obtain ⟨a, h1, h2⟩ := e; exact ⟨a, GE.pt_mono h h1, h2⟩
  all_goals exact e
theorem cv_mono {E E' : GE} (h : E.le E') {w : Nat} {v : Value} (e : cv E w = some v) : cv E' w = some v := cvt_mono h e
theorem cv_int {E : GE} {w : Nat} {k : IntKind} (h : w % 32 = tg k) : cv E w = some (.int k (((w / 32 : Nat) : Int) - 18446744073709551616)) := by
  unfold cv
  rw [h]
  cases k <;> rfl
/-- A number as a word. -/
def wi (k : IntKind) (n : Int) : Nat := Nat.add (Nat.mul (Int.toNat (Int.add n 18446744073709551616)) 32) (tg k)
theorem wi_cv {E : GE} {k : IntKind} {n : Int} (h : -18446744073709551616 ≤ n) : cv E (wi k n) = some (.int k n) := by
  have e : wi k n = Int.toNat (n + 18446744073709551616) * 32 + tg k := rfl
  have h1 := (tg_pos k).2
  have h2 : (wi k n) % 32 = tg k := by omega
  have h3 : (wi k n) / 32 = Int.toNat (n + 18446744073709551616) := by omega
  rw [cv_int h2, h3]
  congr 2
  omega

/-! ### Shapes -/
inductive Sh where
  | val (c : Nat)
  | tup (cs : List Nat)
/-- Words of a value of c cells (0: of one that is no struct, no array). -/
def csz : Nat → Nat
  | 0 => 1
  | n + 1 => n + 2
def csum : List Nat → Nat
  | [] => 0
  | c :: r => csz c + csum r
def Sh.sz : Sh → Nat
  | .val c => csz c
  | .tup cs => 1 + csum cs
def vR (E : GE) (u : Nat → Nat) (p c : Nat) (v : Value) : Prop :=
  u p ≠ 0 → match c with
    | 0 => cv E (u p) = some v
    | n + 1 => ∃ cs : Array Value, v = .agg cs ∧ cs.size = n + 1 ∧ (∀ x ∈ cs.toList, x.oneCell' = true) ∧ ∀ i, i < n + 1 → u (p + 1 + i) ≠ 0 → ∃ x, cv E (u (p + 1 + i)) = some x ∧ cs[i]? = some x
def tR (E : GE) (u : Nat → Nat) : Nat → List Nat → List Value → Prop
  | _, [], [] => True
  | p, c :: cs, v :: vs => vR E u p c v ∧ tR E u (p + csz c) cs vs
  | _, _, _ => False
def sR (E : GE) (u : Nat → Nat) (p : Nat) : Sh → Value → Prop
  | .val c, v => vR E u p c v
  | .tup cs, v => u p ≠ 0 → ∃ vs : List Value, v = .tuple vs.toArray ∧ tR E u (p + 1) cs vs
theorem csz_pos (c : Nat) : 0 < csz c := by cases c <;> simp [csz]
theorem Sh.sz_pos (s : Sh) : 0 < s.sz := by cases s with
  | val c => exact csz_pos c
  | tup cs => simp only [Sh.sz]; omega
theorem vR_mono {E E' : GE} (h : E.le E') {u : Nat → Nat} {p c : Nat} {v : Value} (k : vR E u p c v) : vR E' u p c v := by
  intro hp
  have := k hp
  cases c with
  | zero => exact cv_mono h this
  | succ n =>
    obtain ⟨cs, h1, h2, h3, h4⟩ := this
    exact ⟨cs, h1, h2, h3, fun i hi hu => by obtain ⟨x, a, b⟩ := h4 i hi hu; exact ⟨x, cv_mono h a, b⟩⟩
theorem tR_mono {E E' : GE} (h : E.le E') {u : Nat → Nat} : ∀ {cs : List Nat} {vs : List Value} {p : Nat}, tR E u p cs vs → tR E' u p cs vs
  | [], [], _, _ => trivial
  | [], _ :: _, _, k => k
  | _ :: _, [], _, k => k
  | _ :: _, _ :: _, _, k => ⟨vR_mono h k.1, tR_mono h k.2⟩
theorem sR_mono {E E' : GE} (h : E.le E') {u : Nat → Nat} {p : Nat} {s : Sh} {v : Value} (k : sR E u p s v) : sR E' u p s v := by
  cases s with
  | val c => exact vR_mono h k
  | tup cs => intro hp; obtain ⟨vs, h1, h2⟩ := k hp; exact ⟨vs, h1, tR_mono h h2⟩
/-- The same words, elsewhere. -/
theorem vR_move {E : GE} {u u' : Nat → Nat} {p p' c : Nat} {v : Value} (k : vR E u p c v) (h : ∀ i, i < csz c → u' (p' + i) = u (p + i)) : vR E u' p' c v := by
  intro hp
  have h0 : u' p' = u p := h 0 (csz_pos c)
  rw [h0] at hp
  have := k hp
  cases c with
  | zero => rw [h0]; exact this
  | succ n =>
    obtain ⟨cs, h1, h2, h3, h4⟩ := this
    refine ⟨cs, h1, h2, h3, fun i hi hu => ?_⟩
    have e : u' (p' + 1 + i) = u (p + 1 + i) := by
      have := h (1 + i) (by simp [csz]; omega)
      rwa [← Nat.add_assoc, ← Nat.add_assoc] at this
    rw [e] at hu ⊢
    exact h4 i hi hu
theorem tR_move {E : GE} {u u' : Nat → Nat} : ∀ {cs : List Nat} {vs : List Value} {p p' : Nat}, tR E u p cs vs → (∀ i, i < csum cs → u' (p' + i) = u (p + i)) → tR E u' p' cs vs
  | [], [], _, _, _, _ => trivial
  | [], _ :: _, _, _, k, _ => k
  | _ :: _, [], _, _, k, _ => k
  | c :: cs, _ :: _, p, p', k, h => ⟨vR_move k.1 fun i hi => h i (by simp [csum]; omega), tR_move k.2 fun i hi => by
      have := h (csz c + i) (by simp [csum]; omega)
      rwa [← Nat.add_assoc, ← Nat.add_assoc] at this⟩
theorem sR_move {E : GE} {u u' : Nat → Nat} {p p' : Nat} {s : Sh} {v : Value} (k : sR E u p s v) (h : ∀ i, i < s.sz → u' (p' + i) = u (p + i)) : sR E u' p' s v := by
  cases s with
  | val c => exact vR_move k h
  | tup cs =>
    intro hp
    have h0 : u' p' = u p := h 0 (Sh.sz_pos _)
    rw [h0] at hp
    obtain ⟨vs, h1, h2⟩ := k hp
    refine ⟨vs, h1, tR_move h2 fun i hi => ?_⟩
    have := h (1 + i) (by simp [Sh.sz]; omega)
    rwa [← Nat.add_assoc, ← Nat.add_assoc] at this

/-! ### Frames -/
def layAt : List Sh → Nat → Nat → Option (Nat × Sh)
  | [], _, _ => none
  | s :: _, b, 0 => some (b, s)
  | s :: r, b, i + 1 => layAt r (b + s.sz) i
theorem layAt_ge : ∀ {l : List Sh} {b i p : Nat} {s : Sh}, layAt l b i = some (p, s) → b ≤ p
  | [], _, _, _, _, h => by cases h
  | s :: r, b, 0, _, _, h => by simp [layAt] at h; omega
  | s :: r, b, i + 1, _, _, h => by have := layAt_ge (l := r) h; have := s.sz_pos; omega
theorem layAt_apart : ∀ {l : List Sh} {b i j p q : Nat} {s t : Sh}, layAt l b i = some (p, s) → layAt l b j = some (q, t) → i < j → p + s.sz ≤ q
  | [], _, _, _, _, _, _, _, h, _, _ => by cases h
  | s :: r, b, 0, j + 1, _, _, _, _, h, k, _ => by
    simp only [layAt, Option.some.injEq, Prod.mk.injEq] at h
    obtain ⟨rfl, rfl⟩ := h
    exact layAt_ge (l := r) k
  | s :: r, b, i + 1, j + 1, _, _, _, _, h, k, hij => layAt_apart (l := r) h k (by omega)
  | _, _, _, 0, _, _, _, _, _, _, hij => by omega
/-- A function's layout: its constants (so many words, these), its slots' shapes, how many slots. -/
structure Lay where
  nc : Nat
  con : Nat
  sh : List Sh
  nt : Nat
structure FR (E : GE) (Y : Lay) (F : Nat) (a : Act) : Prop where
  tm : ∀ s p sh, layAt Y.sh Y.nc s = some (p, sh) → sR E (gw F) p sh (a.tmps.getD s undef)
  con : ∀ i, i < Y.nc → gw F i = gw Y.con i
  size : a.tmps.size = Y.nt
  defers : a.defers = []
theorem FR.mono {E E' : GE} {Y : Lay} {F : Nat} {a : Act} (H : FR E Y F a) (h : E.le E') : FR E' Y F a := ⟨fun s p sh hl => sR_mono h (H.tm s p sh hl), H.con, H.size, H.defers⟩
theorem FR.put {E : GE} {Y : Lay} {F R : Nat} {a : Act} (H : FR E Y F a) {d p : Nat} {sh : Sh} (hl : layAt Y.sh Y.nc d = some (p, sh)) (hd : d < Y.nt) {v : Value} (hv : sR E (wd R) 0 sh v) : FR E Y (cp F p sh.sz R) (a.put (some d) v) := by
  refine ⟨fun s q sh' hs => ?_, fun i hi => ?_, by simp [Act.put, H.size], H.defers⟩
  · have hg : (a.put (some d) v).tmps.getD s undef = if d = s then v else a.tmps.getD s undef := by
      by_cases e : d = s
      · subst e; simp [Act.put, H.size, hd]
      · simp [Act.put, e, Array.getD_eq_getD_getElem?, Array.getElem?_setIfInBounds_ne e]
    rw [hg]
    by_cases e : d = s
    · subst e
      rw [hl] at hs
      simp only [Option.some.injEq, Prod.mk.injEq] at hs
      obtain ⟨rfl, rfl⟩ := hs
      rw [if_pos rfl]
      refine sR_move hv fun i hi => ?_
      rw [gw_cp, if_pos (by omega)]
      congr 1
      omega
    · rw [if_neg e]
      refine sR_move (H.tm s q sh' hs) fun i hi => ?_
      rw [gw_cp, if_neg]
      rcases Nat.lt_or_gt_of_ne e with lt | lt
      · have := layAt_apart hl hs lt; omega
      · have := layAt_apart hs hl lt; omega
  · have := layAt_ge hl
    rw [gw_cp, if_neg (by omega)]
    exact H.con i hi
theorem FR.skip {E : GE} {Y : Lay} {F : Nat} {a : Act} (H : FR E Y F a) {v : Value} : FR E Y F (a.put none v) := H

/-! ### Memory -/
/-- A list of bytes as a number: its length, and they. -/
def sbytes : List UInt8 → Nat
  | [] => 1
  | b :: r => b.toNat + 256 * sbytes r
def mapRec (E : GE) (kc vc : Nat) (x : Nat) : Nat → List MapEntry → Prop
  | _, [] => True
  | p, e :: r => (∃ c, 0 < csz c) ∧ gw x p ≠ 0 ∧ vR E (gw x) p kc e.key ∧ vR E (gw x) (p + csz kc) vc e.val ∧ mapRec E kc vc x (p + csz kc + csz vc) r
/-- What is known of a label's memory. -/
def GR (P : Program) (E : GE) (x : Nat) (w : World) : G → Prop
  | .obj g T cap => ∃ cs lim, w.heap[g]? = some (.cells cs T (0, 0)) ∧ (∀ v ∈ cs.toList.take lim, v.oneCell' = true) ∧ gw x 0 = T + 1 ∧ cs.size = cap * P.cellsOf T ∧ ∀ i, gw x (i + 1) ≠ 0 → i < lim ∧ ∃ v, cv E (gw x (i + 1)) = some v ∧ cs[i]? = some v
  | .map g => ∃ es clock kc vc, w.heap[g]? = some (.map es clock) ∧ gw x 0 = kc * 65536 + vc * 4294967296 + 1 ∧ kc < 65536 ∧ vc < 65536 ∧ gw x 1 = es.size ∧ (∀ e ∈ es.toList, True) ∧ mapRec E kc vc x 2 es.toList
  | .str s => x = sbytes s
  | .fn _ cs => tR E (gw x) 1 (cs.map fun _ => 0) cs ∧ gw x 0 = cs.length + 1
  | .any _ => True
structure MR (P : Program) (E : GE) (f : Nat → Nat) (nx lm : Nat) (w : World) : Prop where
  obj : ∀ b, f b ≠ 0 → ∃ g, E b = some g ∧ GR P E (f b) w g
  inj : ∀ b b' k, f b ≠ 0 → f b' ≠ 0 → E.blk b = some k → E.blk b' = some k → b = b'
  free : ∀ b, nx ≤ b → b < lm → E b = none
  blt : ∀ b k, E.blk b = some k → k < w.heap.size
  low : ∀ b, f b ≠ 0 → b < nx
/-- From one moment to the next. -/
structure Go1 (E E' : GE) (f f' : Nat → Nat) (nx nx' : Nat) (w w' : World) : Prop where
  le : E.le E'
  nxle : nx ≤ nx'
  os : w'.os = w.os
  tape : w'.tape = w.tape
  output : w'.output = w.output
  size : w.heap.size ≤ w'.heap.size
  frame : ∀ k, k < w.heap.size → (∀ b, f b ≠ 0 → E.blk b ≠ some k) → w'.heap[k]? = w.heap[k]?
  new : ∀ b g, E b = none → E' b = some g → (nx ≤ b ∧ b < nx') ∧ ∀ k, g.blk = some k → (w.heap.size ≤ k ∨ ∃ b0, f b0 ≠ 0 ∧ E.blk b0 = some k)
  live : ∀ b, f' b ≠ 0 → f b ≠ 0 ∨ E b = none
theorem Go1.refl {E : GE} {f : Nat → Nat} {nx : Nat} {w : World} : Go1 E E f f nx nx w w :=
  ⟨GE.le_refl E, Nat.le_refl _, rfl, rfl, rfl, Nat.le_refl _, fun _ _ _ => rfl, fun b g h h' => by (rw [h] at h'; cases h'), fun b h => .inl h⟩
theorem Go1.trans {P : Program} {E1 E2 E3 : GE} {f1 f2 f3 : Nat → Nat} {n1 n2 n3 l1 l2 : Nat} {w1 w2 w3 : World} (h : Go1 E1 E2 f1 f2 n1 n2 w1 w2) (k : Go1 E2 E3 f2 f3 n2 n3 w2 w3) (M1 : MR P E1 f1 n1 l1 w1) (M2 : MR P E2 f2 n2 l2 w2) : Go1 E1 E3 f1 f3 n1 n3 w1 w3 := by
  have back : ∀ b g, f2 b ≠ 0 → E2.blk b = some g → w1.heap.size ≤ g ∨ ∃ b0, f1 b0 ≠ 0 ∧ E1.blk b0 = some g := fun b g hb he => by
    cases hE : E1 b with
    | none =>
      cases hE2 : E2 b with
      | none => simp [GE.blk, hE2] at he
      | some x => exact (h.new b x hE hE2).2 g (by simpa [GE.blk, hE2] using he)
    | some x =>
      rcases h.live b hb with h2 | h2
      · refine .inr ⟨b, h2, ?_⟩
        have := h.le b x hE
        simp only [GE.blk, this] at he
        simpa only [GE.blk, hE] using he
      · rw [h2] at hE; cases hE
  refine ⟨GE.le_trans h.le k.le, Nat.le_trans h.nxle k.nxle, k.os.trans h.os, k.tape.trans h.tape, k.output.trans h.output, Nat.le_trans h.size k.size, fun g hg hn => ?_, fun b g h0 hb => ?_, fun b hb => ?_⟩
  · rw [k.frame g (Nat.lt_of_lt_of_le hg h.size) fun b hb he => ?_]
    · exact h.frame g hg hn
    · rcases back b g hb he with h2 | ⟨b0, h2, h3⟩
      · omega
      · exact hn b0 h2 h3
  · cases hE : E2 b with
    | none =>
      obtain ⟨h1, h2⟩ := k.new b g hE hb
      refine ⟨⟨Nat.le_trans h.nxle h1.1, h1.2⟩, fun j hj => ?_⟩
      rcases h2 j hj with h2 | ⟨b0, h2, h3⟩
      · exact .inl (Nat.le_trans h.size h2)
      · exact back b0 j h2 h3
    | some x =>
      have := k.le b x hE
      rw [this] at hb
      injection hb with hb
      subst hb
      obtain ⟨h1, h2⟩ := h.new b _ h0 hE
      exact ⟨⟨h1.1, Nat.lt_of_lt_of_le h1.2 k.nxle⟩, h2⟩
  · rcases k.live b hb with h2 | h2
    · exact h.live b h2
    · cases hE : E1 b with
      | none => exact .inr rfl
      | some x => rw [h.le b x hE] at h2; cases h2
end Go.Rill.VM
end
section
namespace Go.Rill.VM
set_option linter.unusedVariables false
set_option linter.unusedSimpArgs false
open Go.RowKit
noncomputable section

/-- What is known of the slots that an operation looks at. -/
structure FO (E : GE) (Y : Lay) (F : Nat) (a : Act) (o : Oper) : Prop where
  tm : ∀ s p sh, Operand.tmp s ∈ opList o.op → layAt Y.sh Y.nc s = some (p, sh) → sR E (gw F) p sh (a.tmps.getD s undef)
  con : ∀ i, i < Y.nc → gw F i = gw Y.con i
theorem FR.on {E : GE} {Y : Lay} {F : Nat} {a : Act} (H : FR E Y F a) (o : Oper) : FO E Y F a o := ⟨fun s p sh _ hl => H.tm s p sh hl, H.con⟩
/-- An operation, whenever it comes up: what it hands on, and what becomes of the memory. -/
structure Runs (P : Program) (Y : Lay) (o : Oper) (s : Option Sh) (F : Nat) (f : Nat → Nat) (nx R : Nat) (f' : Nat → Nat) (nx' : Nat) : Prop where
  le : nx ≤ nx'
  run : ∀ E a w lm, nx' ≤ lm → FO E Y F a o → MR P E f nx lm w → ∀ (K : Act → World → Prop) (Q : Exit → Act → World → Prop),
    (∀ E' v w', Go1 E E' f f' nx nx' w w' → MR P E' f' nx' lm w' → (∀ sh, s = some sh → sR E' (wd R) 0 sh v) → K (a.put o.dst v) w') → Oper.wp P o a w K Q
/-- .. that hands a value on, and changes nothing. -/
theorem Runs.val {P : Program} {Y : Lay} {o : Oper} {s : Sh} {F : Nat} {f : Nat → Nat} {nx R : Nat}
    (h : ∀ {lm : Nat} E a w, FO E Y F a o → MR P E f nx lm w → ∃ v, (execOp a.eval o).run P w = .ok (.value v) w ∧ sR E (wd R) 0 s v) : Runs P Y o (some s) F f nx R f nx := by
  refine ⟨Nat.le_refl _, fun E a w lm hlm H M K Q hK => ?_⟩
  obtain ⟨v, h1, h2⟩ := h E a w H M
  unfold Oper.wp
  rw [h1]
  exact hK E v w Go1.refl M fun sh e => by injection e with e; subst e; exact h2

/-! ### Operands -/
def con1 (w : Nat) : Value → Bool
  | .int k n => Nat.beq w (wi k n) && decide (-18446744073709551616 ≤ n)
  | .bool b => Nat.beq w (cond b 43 11)
  | .pointer none => Nat.beq w 12
  | .slice none 0 0 => Nat.beq w 14
  | .map none => Nat.beq w 19
  | .nilIface => Nat.beq w 21
  | .nilFunc => Nat.beq w 25
  | .string s => Nat.beq w 28 && s.data.isEmpty
  | _ => false
theorem con1_cv {w : Nat} {v : Value} (h : con1 w v = true) (E : GE) : cv E w = some v ∧ v.oneCell' = true := by
  unfold con1 at h
  split at h
  · rw [Bool.and_eq_true] at h
    rw [Nat.eq_of_beq_eq_true h.1]
    exact ⟨wi_cv (by simpa using h.2), rfl⟩
  · rename_i b
    rw [Nat.eq_of_beq_eq_true h]
    cases b <;> exact ⟨rfl, rfl⟩
  · rw [Nat.eq_of_beq_eq_true h]; exact ⟨rfl, rfl⟩
  · rw [Nat.eq_of_beq_eq_true h]; exact ⟨rfl, rfl⟩
  · rw [Nat.eq_of_beq_eq_true h]; exact ⟨rfl, rfl⟩
  · rw [Nat.eq_of_beq_eq_true h]; exact ⟨rfl, rfl⟩
  · rw [Nat.eq_of_beq_eq_true h]; exact ⟨rfl, rfl⟩
  · rename_i s
    rw [Bool.and_eq_true] at h
    rw [Nat.eq_of_beq_eq_true h.1]
    have : s = .empty := by
      cases s with
      | mk d => have := h.2; simp only [Array.isEmpty_iff] at this; subst this; rfl
    subst this
    exact ⟨rfl, rfl⟩
  · cases h
def conL (con : Nat) : Nat → List Value → Bool
  | _, [] => true
  | p, v :: r => con1 (gw con p) v && conL con (p + 1) r
theorem conL_get {con : Nat} : ∀ {l : List Value} {p : Nat}, conL con p l = true → ∀ i v, l[i]? = some v → con1 (gw con (p + i)) v = true
  | [], _, _, i, v, h => by simp at h
  | x :: r, p, h, 0, v, hv => by
    simp only [conL, Bool.and_eq_true] at h
    simp at hv; subst hv; exact h.1
  | x :: r, p, h, i + 1, v, hv => by
    simp only [conL, Bool.and_eq_true] at h
    have := conL_get h.2 i v (by simpa using hv)
    rwa [show p + (i + 1) = p + 1 + i by omega]
def conOk (con p c : Nat) (v : Value) : Bool :=
  match c, v with
  | 0, v => con1 (gw con p) v
  | n + 1, .agg cs => Nat.beq cs.toList.length (n + 1) && conL con (p + 1) cs.toList
  | _, _ => false
theorem conOk_vR {con p c : Nat} {v : Value} (h : conOk con p c v = true) (E : GE) : vR E (gw con) p c v := by
  intro hp
  unfold conOk at h
  split at h
  · exact (con1_cv h E).1
  · rename_i n cs
    rw [Bool.and_eq_true] at h
    have hl : cs.size = n + 1 := by simpa using Nat.eq_of_beq_eq_true h.1
    refine ⟨cs, rfl, hl, fun x hx => ?_, fun i hi _ => ?_⟩
    · obtain ⟨i, hi⟩ := List.getElem?_of_mem hx
      exact (con1_cv (conL_get h.2 i x hi) E).2
    · have : i < cs.toList.length := by simp [hl]; omega
      exact ⟨cs.toList[i], (con1_cv (conL_get h.2 i _ (List.getElem?_eq_getElem this)) E).1, by rw [← Array.getElem?_toList]; exact List.getElem?_eq_getElem this⟩
  · cases h
theorem fword (f : Nat) : (f * 32 + 23) % 32 = 23 ∧ (f * 32 + 23) / 32 = f := by omega
def okO (Y : Lay) (x : Operand) (p c : Nat) : Bool :=
  match x with
  | .tmp s => match layAt Y.sh Y.nc s with
    | some (q, .val c') => Nat.beq q p && Nat.beq c' c
    | _ => false
  | .const v => Nat.ble (p + csz c) Y.nc && conOk Y.con p c v
  | .func f => Nat.beq c 0 && Nat.blt p Y.nc && Nat.beq (gw Y.con p) (f * 32 + 23)
  | .global _ => false
section
variable {P : Program} {E : GE} {Y : Lay} {F : Nat} {a : Act} {o : Oper} {x : Operand} {p c : Nat}
theorem rd (H : FO E Y F a o) (hx : x ∈ opList o.op) (h : okO Y x p c = true) : vR E (gw F) p c (a.eval x) := by
  unfold okO at h
  split at h
  · rename_i s
    split at h
    · rename_i q c' hl
      rw [Bool.and_eq_true] at h
      rw [← Nat.eq_of_beq_eq_true h.1, ← Nat.eq_of_beq_eq_true h.2]
      exact H.tm s q _ hx hl
    · cases h
  · rename_i v
    rw [Bool.and_eq_true] at h
    have h1 : p + csz c ≤ Y.nc := by simpa using h.1
    exact vR_move (conOk_vR h.2 E) fun i hi => H.con _ (by omega)
  · rename_i f
    simp only [Bool.and_eq_true] at h
    obtain ⟨⟨h1, h2⟩, h3⟩ := h
    have h1 := Nat.eq_of_beq_eq_true h1
    subst h1
    intro _
    show cv E (gw F p) = some _
    rw [H.con p (by simpa using h2), Nat.eq_of_beq_eq_true h3]
    unfold cv
    rw [(fword f).1, (fword f).2]
    rfl
  · cases h
end
def need (b k : Bool) : Bool := Bool.rec (motive := fun _ => Bool) false k b
section
variable {P : Program} {E : GE} {Y : Lay} {F : Nat} {a : Act} {o : Oper} {x : Operand} {p c : Nat}
end
end
end Go.Rill.VM
end
section
namespace Go.Rill.VM
set_option linter.unusedVariables false
set_option linter.unusedSimpArgs false
open Go.RowKit
noncomputable section

/-- The word of nought. -/
def w0 (k : IntKind) : Nat := 590295810358705651712 + tg k
/-- A word's number. -/
def iv (w : Nat) : Int := Int.sub (Int.ofNat (Nat.shiftRight w 5)) 18446744073709551616
section
variable {P : Program} {Y : Lay} {o : Oper} {F p q : Nat} {f : Nat → Nat} {nx : Nat} {x y : Operand} {K : Nat → Bool} {k : IntKind} {t t' : TypeId}
end
section
variable {P : Program} {Y : Lay} {o : Oper} {F p q : Nat} {f : Nat → Nat} {nx : Nat} {x y : Operand} {K : Nat → Bool} {k k' : IntKind} {t t' : TypeId}
end
end
end Go.Rill.VM
end
section
namespace Go.Rill.VM
set_option linter.unusedVariables false
set_option linter.unusedSimpArgs false
open Go.RowKit
noncomputable section

theorem gw_ne {x i : Nat} (h : gw x i ≠ 0) : x ≠ 0 := by intro e; subst e; exact h (gw_zero i)
theorem GR.move {P : Program} {E E' : GE} {x : Nat} {w w' : World} {g : G} (h : GR P E x w g) (hE : E.le E') (hw : ∀ k, g.blk = some k → w'.heap[k]? = w.heap[k]?) : GR P E' x w' g := by
  cases g with
  | obj k T cap =>
    obtain ⟨cs, lim, h1, h2, h3, h4, h5⟩ := h
    exact ⟨cs, lim, (hw k rfl).trans h1, h2, h3, h4, fun i hi => by obtain ⟨c, v, a, b⟩ := h5 i hi; exact ⟨c, v, cv_mono hE a, b⟩⟩
  | map k =>
    obtain ⟨es, clock, kc, vc, h1, h2, h3, h4, h5, h6, h7⟩ := h
    refine ⟨es, clock, kc, vc, (hw k rfl).trans h1, h2, h3, h4, h5, h6, ?_⟩
    have : ∀ (l : List MapEntry) (p : Nat), mapRec E kc vc x p l → mapRec E' kc vc x p l := by
      intro l
      induction l with
      | nil => intro p _; trivial
      | cons e r ih => intro p ⟨a, b, c, d, e'⟩; exact ⟨a, b, vR_mono hE c, vR_mono hE d, ih _ e'⟩
    exact this _ _ h7
  | str s => exact h
  | fn f cs => exact ⟨tR_mono hE h.1, h.2⟩
  | any v => trivial
def GE.set (E : GE) (b : Nat) (g : G) : GE := fun q => if q = b then some g else E q
section
variable {P : Program} {E : GE} {f f' : Nat → Nat} {nx lm : Nat} {w w' : World} {g : G}
theorem MR.fr (M : MR P E f nx lm w) (h : nx < lm) : E nx = none := M.free nx (Nat.le_refl _) h
theorem MR.le_set (M : MR P E f nx lm w) (hlm : nx < lm) : E.le (E.set nx g) := fun b g' h => by
  unfold GE.set
  rw [if_neg]
  · exact h
  · rintro rfl; rw [M.fr hlm] at h; cases h
theorem GE.set_blk {b q : Nat} : (E.set b g).blk q = if q = b then g.blk else E.blk q := by
  unfold GE.blk GE.set
  split <;> rfl
/-- A store into a label's memory. -/
theorem MR.put (M : MR P E f nx lm w) {b k T cap x' lim : Nat} {cs cs' : Array Value} (hb : f b ≠ 0) (hE : E b = some (.obj k T cap)) (hg : w.heap[k]? = some (.cells cs T (0, 0))) (h0 : gw x' 0 = T + 1) (h1 : ∀ v ∈ cs'.toList.take lim, v.oneCell' = true) (hs : cs'.size = cap * P.cellsOf T)
    (hx : ∀ i, gw x' (i + 1) ≠ 0 → i < lim ∧ ∃ v, cv E (gw x' (i + 1)) = some v ∧ cs'[i]? = some v) (hf : ∀ q, f' q = if q = b then x' else f q) : MR P E f' nx lm (w.setRow k cs') ∧ Go1 E E f f' nx nx w (w.setRow k cs') := by
  have hblk : E.blk b = some k := by simp [GE.blk, hE, G.blk]
  have hlive : ∀ q, f' q ≠ 0 → f q ≠ 0 := fun q hq => by rw [hf] at hq; split at hq <;> first | (rename_i e; subst e; exact hb) | exact hq
  refine ⟨⟨fun q hq => ?_, fun q q' j h h' => M.inj q q' j (hlive q h) (hlive q' h'), M.free, fun q j h => by simpa using M.blt q j h, fun q hq => M.low q (hlive q hq)⟩, ⟨GE.le_refl E, Nat.le_refl _, rfl, rfl, rfl, by simp, fun j hj hn => setRow_other w k j cs' (fun e => hn b hb (by rw [hblk, e])), fun q j h h' => by (rw [h] at h'; cases h'), fun q hq => .inl (hlive q hq)⟩⟩
  by_cases e : q = b
  · subst e
    refine ⟨_, hE, cs', lim, setRow_heap w k cs cs' T _ hg, h1, ?_, hs, ?_⟩
    · rw [hf, if_pos rfl]; exact h0
    · rw [hf, if_pos rfl]; exact hx
  · have hq' := hlive q hq
    obtain ⟨g', h2, h3⟩ := M.obj q hq'
    rw [hf, if_neg e]
    refine ⟨g', h2, h3.move (GE.le_refl E) fun j hj => setRow_other w k j cs' fun ej => e ?_⟩
    subst ej
    exact M.inj q b j hq' hb (by simp [GE.blk, h2, hj]) hblk
/-- A new label. -/
theorem MR.add (M : MR P E f nx lm w) (hlm : nx < lm) {x : Nat} (hw : Ext w w') (hg : ∀ k, g.blk = some k → w.heap.size ≤ k ∧ k < w'.heap.size) (hx : GR P (E.set nx g) x w' g) (hf : ∀ q, f' q = if q = nx then x else f q) : MR P (E.set nx g) f' (nx + 1) lm w' ∧ Go1 E (E.set nx g) f f' nx (nx + 1) w w' := by
  have hle := M.le_set hlm (g := g)
  refine ⟨⟨fun q hq => ?_, fun q q' j h h' hj hj' => ?_, fun q h1 h2 => ?_, fun q j h => ?_, fun q hq => by rw [hf] at hq; split at hq <;> first | omega | (have := M.low q hq; omega)⟩, ⟨hle, by omega, hw.os, hw.tape, hw.output, hw.size, fun j hj _ => hw.block j hj, fun q j h h' => ?_, fun q hq => ?_⟩⟩
  · by_cases e : q = nx
    · subst e
      refine ⟨g, by simp [GE.set], ?_⟩
      rw [hf, if_pos rfl]
      exact hx
    · rw [hf, if_neg e] at hq ⊢
      obtain ⟨g', h2, h3⟩ := M.obj q hq
      exact ⟨g', hle q g' h2, h3.move hle fun j hj => hw.block j (M.blt q j (by simp [GE.blk, h2, hj]))⟩
  · rw [GE.set_blk] at hj hj'
    by_cases e : q = nx
    · by_cases e' : q' = nx
      · rw [e, e']
      · rw [if_pos e] at hj
        rw [if_neg e'] at hj'
        have := M.blt q' j hj'
        have := hg j hj
        omega
    · by_cases e' : q' = nx
      · rw [if_neg e] at hj
        rw [if_pos e'] at hj'
        have := M.blt q j hj
        have := hg j hj'
        omega
      · rw [if_neg e] at hj
        rw [if_neg e'] at hj'
        rw [hf, if_neg e] at h
        rw [hf, if_neg e'] at h'
        exact M.inj q q' j h h' hj hj'
  · unfold GE.set
    rw [if_neg (by omega)]
    exact M.free q (by omega) h2
  · rw [GE.set_blk] at h
    split at h
    · exact (hg j h).2
    · exact Nat.lt_of_lt_of_le (M.blt q j h) hw.size
  · unfold GE.set at h'
    split at h'
    · rename_i e
      injection h' with h'
      subst h'
      exact ⟨⟨by omega, by omega⟩, fun k hk => .inl (hg k hk).1⟩
    · rw [h] at h'; cases h'
  · rw [hf] at hq
    split at hq
    · rename_i e; subst e; exact .inr (M.fr hlm)
    · exact .inl hq
end
/-- The word of a pointer: its label, and how far in. -/
def lb (w : Nat) : Nat := Nat.mod (Nat.shiftRight w 5) 16777216
section
variable {P : Program} {Y : Lay} {o : Oper} {F p q : Nat} {M : HT} {nx : Nat} {x y : Operand} {K : Nat → HT → Nat → Bool} {K1 : Nat → Bool} {t s T : TypeId}
theorem MR.cell {E : GE} {f : Nat → Nat} {w : World} {lm : Nat} (MM : MR P E f nx lm w) {b i g T c : Nat} (hE : E b = some (.obj g T c)) (h : gw (f b) i ≠ 0) : ∃ cs lim, w.heap[g]? = some (.cells cs T (0, 0)) ∧ (∀ v ∈ cs.toList.take lim, v.oneCell' = true) ∧ gw (f b) 0 = T + 1 ∧ cs.size = c * P.cellsOf T ∧ ∀ i, gw (f b) (i + 1) ≠ 0 → i < lim ∧ ∃ v, cv E (gw (f b) (i + 1)) = some v ∧ cs[i]? = some v := by
  obtain ⟨g', h2, h3⟩ := MM.obj b (gw_ne h)
  rw [hE] at h2
  injection h2 with h2
  subst h2
  exact h3
end
end
end Go.Rill.VM
end
section
namespace Go.Rill.VM
set_option linter.unusedVariables false
set_option linter.unusedSimpArgs false
open Go.RowKit
noncomputable section

section
variable {P : Program} {Y : Lay} {o : Oper} {F p q : Nat} {M : HT} {nx : Nat} {x y : Operand} {K : Nat → HT → Nat → Bool} {K1 : Nat → Bool} {t s T e : TypeId}
/-! ### Slices -/
/-- A slice's word: where it begins, its length, its capacity (or how far in it begins). -/
def so (w : Nat) : Nat := Nat.mod (Nat.shiftRight w 29) 4194304
def sc (w : Nat) : Nat := Nat.shiftRight w 73
end
end
end Go.Rill.VM
end
section
namespace Go.Rill.VM
set_option linter.unusedVariables false
set_option linter.unusedSimpArgs false
open Go.RowKit
noncomputable section

section
variable {P : Program} {Y : Lay} {o : Oper} {F p q : Nat} {M : HT} {nx : Nat} {x y : Operand} {K : Nat → HT → Nat → Bool} {K1 : Nat → Bool} {t s T e : TypeId}
end
end
end Go.Rill.VM
end
section
namespace Go.Rill.VM
set_option linter.unusedVariables false
set_option linter.unusedSimpArgs false
open Go.RowKit
noncomputable section

section
variable {P : Program} {E : GE} {f f' : Nat → Nat} {nx lm : Nat} {w w' : World} {g : G}
/-- A new label, which may take the place of dead ones. -/
theorem MR.grow (M : MR P E f nx lm w) (hlm : nx < lm) {D : Nat → Prop} {k : Nat} (hg : g.blk = some k) (os : w'.os = w.os) (tape : w'.tape = w.tape) (output : w'.output = w.output) (size : w.heap.size ≤ w'.heap.size) (hk' : k < w'.heap.size)
    (hw : ∀ j, j < w.heap.size → j ≠ k → (∀ b, D b → f b ≠ 0 → E.blk b ≠ some j) → w'.heap[j]? = w.heap[j]?) (hk : w.heap.size ≤ k ∨ ∃ b, D b ∧ f b ≠ 0 ∧ E.blk b = some k) (hx : GR P (E.set nx g) (f' nx) w' g)
    (hd : ∀ q, D q → q ≠ nx → f' q = 0) (hf : ∀ q, q ≠ nx → ¬ D q → f' q = f q) : MR P (E.set nx g) f' (nx + 1) lm w' ∧ Go1 E (E.set nx g) f f' nx (nx + 1) w w' := by
  have hle := M.le_set hlm (g := g)
  have hlive : ∀ q, q ≠ nx → f' q ≠ 0 → ¬ D q ∧ f q ≠ 0 := fun q hq h => by
    have hD : ¬ D q := fun hD => h (hd q hD hq)
    exact ⟨hD, by rw [hf q hq hD] at h; exact h⟩
  have hblk : ∀ q j, ¬ D q → f q ≠ 0 → E.blk q = some j → j ≠ k := fun q j hD hq hj e => by
    subst e
    rcases hk with h | ⟨b, h1, h2, h3⟩
    · have := M.blt q j hj; omega
    · exact hD (by rw [M.inj q b j hq h2 hj h3]; exact h1)
  refine ⟨⟨fun q hq => ?_, fun q q' j h h' hj hj' => ?_, fun q h1 h2 => ?_, fun q j h => ?_, fun q hq => by
    by_cases e : q = nx
    · omega
    · have := M.low q (hlive q e hq).2; omega⟩, ⟨hle, by omega, os, tape, output, size, fun j hj hn => hw j hj (fun e => ?_) fun b _ hb => hn b hb, fun q j h h' => ?_, fun q hq => ?_⟩⟩
  · by_cases e : q = nx
    · subst e
      exact ⟨g, by simp [GE.set], hx⟩
    · obtain ⟨h1, h2⟩ := hlive q e hq
      rw [hf q e h1]
      obtain ⟨g', h3, h4⟩ := M.obj q h2
      refine ⟨g', hle q g' h3, h4.move hle fun j hj => ?_⟩
      have hj' : E.blk q = some j := by simp [GE.blk, h3, hj]
      exact hw j (M.blt q j hj') (hblk q j h1 h2 hj') fun b hD hb hbj => h1 (by rw [M.inj q b j h2 hb hj' hbj]; exact hD)
  · rw [GE.set_blk] at hj hj'
    by_cases e : q = nx
    · by_cases e' : q' = nx
      · rw [e, e']
      · rw [if_pos e, hg] at hj
        rw [if_neg e'] at hj'
        obtain ⟨h1, h2⟩ := hlive q' e' h'
        injection hj with hj
        exact absurd hj.symm (hblk q' j h1 h2 hj')
    · by_cases e' : q' = nx
      · rw [if_neg e] at hj
        rw [if_pos e', hg] at hj'
        obtain ⟨h1, h2⟩ := hlive q e h
        injection hj' with hj'
        exact absurd hj'.symm (hblk q j h1 h2 hj)
      · rw [if_neg e] at hj
        rw [if_neg e'] at hj'
        exact M.inj q q' j (hlive q e h).2 (hlive q' e' h').2 hj hj'
  · unfold GE.set
    rw [if_neg (by omega)]
    exact M.free q (by omega) h2
  · rw [GE.set_blk] at h
    split at h
    · rw [hg] at h; injection h with h; omega
    · exact Nat.lt_of_lt_of_le (M.blt q j h) size
  · subst e
    rcases hk with h | ⟨b, h1, h2, h3⟩
    · omega
    · exact hn b h2 h3
  · unfold GE.set at h'
    split at h'
    · rename_i e
      injection h' with h'
      subst h'
      refine ⟨⟨by omega, by omega⟩, fun k' hk' => ?_⟩
      rw [hg] at hk'
      injection hk' with hk'
      subst hk'
      rcases hk with h | ⟨b, h1, h2, h3⟩
      · exact .inl h
      · exact .inr ⟨b, h2, h3⟩
    · rw [h] at h'; cases h'
  · by_cases e : q = nx
    · subst e; exact .inr (M.fr hlm)
    · exact .inl (hlive q e hq).2
end
section
variable {P : Program} {Y : Lay} {o : Oper} {F p q : Nat} {M : HT} {nx : Nat} {x y : Operand} {K : Nat → HT → Nat → Bool} {K1 : Nat → Bool} {t s T e : TypeId}
structure SrcOk (P : Program) (E : GE) (sz : Nat) (tx : TypeId) (v : Value) (m ws : Nat) (w : World) (news : List Value) : Prop where
  src : Src P sz tx v m news w
  rel : ∀ i, wd ws i ≠ 0 → ∃ u, cv E (wd ws i) = some u ∧ news[i]? = some u
theorem SrcOk.nil {E : GE} {sz : Nat} {w : World} {b : Option Addr} {c : Nat} (ht : tySlice P t e = true) : SrcOk P E sz t (.slice b 0 c) 0 0 w [] := by
  refine ⟨?_, fun i h => absurd (wd_zero i) h⟩
  cases b with
  | none => exact Src.ofNil w (slice_und ht) c
  | some a => exact Src.ofSlice w (slice_und ht) a 0 c [] (by simp) (fun j u h => by simp at h) (fun u h => by simp at h)
end
end
end Go.Rill.VM
end
section
namespace Go.Rill.VM
set_option linter.unusedVariables false
set_option linter.unusedSimpArgs false
open Go.RowKit
noncomputable section

section
variable {P : Program} {Y : Lay} {o : Oper} {F p q : Nat} {M : HT} {nx : Nat} {x y : Operand} {K : Nat → HT → Nat → Bool} {K1 : Nat → Bool} {t s T e : TypeId}
/-- Words against cells. -/
structure FI (E : GE) (X : Nat) (A : Array Value) (N : Nat) : Prop where
  size : A.size = N
  one : ∀ u ∈ A.toList, u.oneCell' = true
  rel : ∀ i, wd X i ≠ 0 → i < N ∧ ∃ u, cv E (wd X i) = some u ∧ A[i]? = some u
end
end
end Go.Rill.VM
end
section
namespace Go.Rill.VM
set_option linter.unusedVariables false
set_option linter.unusedSimpArgs false
open Go.RowKit
noncomputable section

section
variable {P : Program} {Y : Lay} {o : Oper} {F p q : Nat} {f : Nat → Nat} {nx : Nat} {x y : Operand} {K : Nat → Bool} {k k' : IntKind} {t t' : TypeId}
end
end
end Go.Rill.VM
end
section
namespace Go.Rill.VM
set_option linter.unusedVariables false
set_option linter.unusedSimpArgs false
open Go.RowKit
noncomputable section

section
variable {P : Program} {Y : Lay} {o : Oper} {F p q : Nat} {M : HT} {nx : Nat} {x y : Operand} {K : Nat → HT → Nat → Bool} {K1 : Nat → Bool} {t s T e : TypeId}
theorem zeroVal {w : World} {z : Value} (hz : zeroOf P T = some z) : (zeroValue T).run P w = .ok z w := by
  unfold zeroOf at hz
  cases hi : P.info? T with
  | none => rw [hi] at hz; cases hz
  | some i => rw [hi] at hz; simp only [Option.bind_some] at hz; simp [zeroValue, typeInfo, hi, hz]
end
end
end Go.Rill.VM
end
section
namespace Go.Rill.VM.S
set_option linter.unusedVariables false
set_option linter.unusedSimpArgs false
open Go.RowKit
theorem str_beq (a b : ByteArray) : (a == b) = decide (a = b) := by
  cases a with
  | mk x =>
    cases b with
    | mk y =>
      have e : ((⟨x⟩ : ByteArray) == ⟨y⟩) = (x == y) := rfl
      rw [e]
      by_cases h : x = y
      · subst h; simp
      · simp [h]
/-- A number's kind, or a string's. -/
inductive FK where
  | int (k : IntKind)
  | str

/-- The kinds of a struct's numbers, where its fields stand one behind the other. -/
def flatFs (K : TypeId → Option (List FK)) : List Field → Nat → Option (List FK)
  | [], _ => some []
  | f :: fs, off => match K f.type with
    | none => none
    | some ks => if f.offset == off && !(f.name == "_") then (match flatFs K fs (off + ks.length) with | some r => some (ks ++ r) | none => none) else none
/-- The kinds of a type's numbers, where it has numbers alone. -/
def flatK (P : Program) : Nat → TypeId → Option (List FK)
  | 0, _ => none
  | d + 1, t => match P.underlying t with
    | some (.int k) => if tyOne P t then some [.int k] else none
    | some .string => if tyOne P t then some [.str] else none
    | some (.struct fs) => match flatFs (flatK P d) fs.toList 0 with
      | some ks => if tyAgg P t ks.length && !P.stoodInHeld t then some ks else none
      | none => none
    | _ => none
def kindOf : Value → Option FK
  | .int k _ => some (.int k)
  | .string _ => some .str
  | _ => none
def Fit (ks : List FK) (L : List Value) : Prop := L.map kindOf = ks.map some
theorem Fit.len {ks : List FK} {L : List Value} (h : Fit ks L) : L.length = ks.length := by
  have := congrArg List.length h
  simpa using this
theorem Fit.split {ks js : List FK} {L : List Value} (h : Fit (ks ++ js) L) : ∃ A B, L = A ++ B ∧ Fit ks A ∧ Fit js B := by
  refine ⟨L.take ks.length, L.drop ks.length, (List.take_append_drop _ _).symm, ?_, ?_⟩
  · unfold Fit at *
    rw [List.map_take, h, List.map_append, List.take_left' (by simp)]
  · unfold Fit at *
    rw [List.map_drop, h, List.map_append, List.drop_left' (by simp)]
def mkv (P : Program) (t : TypeId) (L : List Value) : Value := if tyOne P t then L.headD undef else .agg L.toArray
def EqOk (P : Program) (d : Nat) (t : TypeId) (ks : List FK) : Prop := ∀ (w : World) (xs ys : List Value), Fit ks xs → Fit ks ys → ∃ r, (Op.equalIn d t (mkv P t xs) (mkv P t ys)).run P w = .ok r w ∧ (r = true ↔ xs = ys)
theorem part_mid {P : Program} {w : World} {t : TypeId} {ks : List FK} {pre A post : List Value} {off : Nat} (hs : (tyOne P t = true ∧ ks.length = 1) ∨ (tyOne P t = false ∧ tyAgg P t ks.length = true)) (hp : pre.length = off) (hA : Fit ks A) : (part t (pre ++ A ++ post).toArray off).run P w = .ok (mkv P t A) w := by
  rcases hs with ⟨h1, h2⟩ | ⟨h1, h2⟩
  · obtain ⟨v, rfl⟩ : ∃ v, A = [v] := List.length_eq_one_iff.1 (by rw [hA.len, h2])
    have hi : (isAgg t).run P w = .ok false w := isAgg_one h1
    have hg : (pre ++ [v] ++ post).toArray[off]? = some v := by
      simp [List.getElem?_append, hp]
    simp only [part, Sem.run_bind, hi, Result.andThen_ok, Bool.false_eq_true, if_false, hg, Sem.run_pure, mkv, h1, if_true, List.headD_cons]
  · obtain ⟨dd, hu, hr⟩ := tyAgg_und h2
    have hi : (isAgg t).run P w = .ok true w := by
      cases dd <;> simp_all [isAgg, run_underlying hu, TypeDesc.isRow]
    have he : (pre ++ A ++ post).toArray.extract off (off + ks.length) = A.toArray := by
      apply Array.toList_inj.1
      simp [← hp, ← hA.len]
    simp only [part, Sem.run_bind, hi, Result.andThen_ok, if_true, run_size (w := w) (tyAgg_size h2), he, Sem.run_pure, mkv, h1, Bool.false_eq_true, if_false]
theorem shape_of {P : Program} {d : Nat} {t : TypeId} {ks : List FK} (h : flatK P d t = some ks) : (tyOne P t = true ∧ ks.length = 1) ∨ (tyOne P t = false ∧ tyAgg P t ks.length = true) := by
  cases d with
  | zero => simp [flatK] at h
  | succ d =>
    unfold flatK at h
    cases hu : P.underlying t with
    | none => rw [hu] at h; cases h
    | some dd =>
      rw [hu] at h
      cases dd with
      | int k =>
        simp only at h
        split at h
        · rename_i hc
          injection h with h
          subst h
          exact .inl ⟨hc, rfl⟩
        · cases h
      | string =>
        simp only at h
        split at h
        · rename_i hc
          injection h with h
          subst h
          exact .inl ⟨hc, rfl⟩
        · cases h
      | struct fs =>
        simp only at h
        split at h
        · split at h
          · rename_i hc
            rw [Bool.and_eq_true] at hc
            injection h with h
            subst h
            exact .inr ⟨by simp [tyOne, hu], hc.1⟩
          · cases h
        · cases h
      | _ => cases h
theorem eqFields_flat {P : Program} {d : Nat} (K : ∀ t ks, flatK P d t = some ks → EqOk P d t ks) : ∀ (fs : List Field) (off : Nat) (ks : List FK), flatFs (flatK P d) fs off = some ks → ∀ (w : World) (p q xs ys : List Value), p.length = off → q.length = off → Fit ks xs → Fit ks ys →
    ∃ r, (Op.eqFields d (p ++ xs).toArray (q ++ ys).toArray fs).run P w = .ok r w ∧ (r = true ↔ xs = ys)
  | [], off, ks, h, w, p, q, xs, ys, hp, hq, hx, hy => by
    simp only [flatFs, Option.some.injEq] at h
    subst h
    have e1 : xs = [] := List.eq_nil_of_length_eq_zero (by simpa using hx.len)
    have e2 : ys = [] := List.eq_nil_of_length_eq_zero (by simpa using hy.len)
    exact ⟨true, by simp [Op.eqFields], by simp [e1, e2]⟩
  | f :: fs, off, ks, h, w, p, q, xs, ys, hp, hq, hx, hy => by
    unfold flatFs at h
    cases hk : flatK P d f.type with
    | none => rw [hk] at h; cases h
    | some k1 =>
      rw [hk] at h
      simp only at h
      split at h
      · rename_i hc
        simp only [Bool.and_eq_true, Bool.not_eq_true', beq_iff_eq] at hc
        obtain ⟨hoff, hn⟩ := hc
        cases hr : flatFs (flatK P d) fs (off + k1.length) with
        | none => rw [hr] at h; cases h
        | some k2 =>
          rw [hr] at h
          simp only [Option.some.injEq] at h
          subst h
          obtain ⟨A, xs', rfl, hA, hx'⟩ := hx.split
          obtain ⟨B, ys', rfl, hB, hy'⟩ := hy.split
          have hn' : f.name ≠ "_" := by simpa using hn
          have s1 := part_mid (P := P) (w := w) (post := xs') (shape_of hk) (hp.trans hoff.symm) hA
          have s2 := part_mid (P := P) (w := w) (post := ys') (shape_of hk) (hq.trans hoff.symm) hB
          obtain ⟨r, hr1, hr2⟩ := K _ _ hk w A B hA hB
          obtain ⟨r', hr3, hr4⟩ := eqFields_flat K fs _ _ hr w (p ++ A) (q ++ B) xs' ys' (by simp [hp, hA.len]) (by simp [hq, hB.len]) hx' hy'
          rw [List.append_assoc] at s1 s2 hr3
          rw [List.append_assoc] at hr3
          unfold Op.eqFields
          simp only [if_pos hn', Sem.run_bind, s1, s2, hr1, Result.andThen_ok]
          cases r with
          | false => exact ⟨false, by simp, by simp; intro e; have := List.append_inj_left e (by rw [hA.len, hB.len]); exact absurd (hr2.2 this) (by simp)⟩
          | true =>
            have hAB := hr2.1 rfl
            refine ⟨r', by simpa using hr3, ?_⟩
            rw [hr4, hAB]
            simp
      · cases h
theorem flat_eq {P : Program} : ∀ (d : Nat) (t : TypeId) (ks : List FK), flatK P d t = some ks → EqOk P d t ks
  | 0, t, ks, h => by simp [flatK] at h
  | d + 1, t, ks, h => by
    have hsh := shape_of h
    unfold flatK at h
    intro w xs ys hx hy
    cases hu : P.underlying t with
    | none => rw [hu] at h; cases h
    | some dd =>
      rw [hu] at h
      cases dd with
      | int k =>
        simp only at h
        split at h
        · rename_i hc
          injection h with h
          subst h
          obtain ⟨x, rfl⟩ : ∃ v, xs = [v] := List.length_eq_one_iff.1 (by rw [hx.len]; rfl)
          obtain ⟨y, rfl⟩ : ∃ v, ys = [v] := List.length_eq_one_iff.1 (by rw [hy.len]; rfl)
          simp only [Fit, List.map_cons, List.map_nil, List.cons.injEq, and_true] at hx hy
          cases x <;> simp only [kindOf, reduceCtorEq, Option.some.injEq, FK.int.injEq] at hx
          cases y <;> simp only [kindOf, reduceCtorEq, Option.some.injEq, FK.int.injEq] at hy
          subst hx hy
          rename_i a _ b
          refine ⟨a == b, ?_, by simp⟩
          simp only [mkv, hc, if_true, List.headD_cons]
          exact run_equalIn_int w d t _ _ a b hu
        · cases h
      | string =>
        simp only at h
        split at h
        · rename_i hc
          injection h with h
          subst h
          obtain ⟨x, rfl⟩ : ∃ v, xs = [v] := List.length_eq_one_iff.1 (by rw [hx.len]; rfl)
          obtain ⟨y, rfl⟩ : ∃ v, ys = [v] := List.length_eq_one_iff.1 (by rw [hy.len]; rfl)
          simp only [Fit, List.map_cons, List.map_nil, List.cons.injEq, and_true] at hx hy
          cases x <;> simp only [kindOf, reduceCtorEq, Option.some.injEq] at hx
          cases y <;> simp only [kindOf, reduceCtorEq, Option.some.injEq] at hy
          rename_i a b
          refine ⟨a == b, ?_, by simp [str_beq]⟩
          simp only [mkv, hc, if_true, List.headD_cons]
          simp [Op.equalIn, run_underlying hu]
        · cases h
      | struct fs =>
        simp only at h
        cases hf : flatFs (flatK P d) fs.toList 0 with
        | none => rw [hf] at h; cases h
        | some ks' =>
          rw [hf] at h
          simp only at h
          split at h
          · rename_i hc
            simp only [Bool.and_eq_true, Bool.not_eq_true'] at hc
            injection h with h
            subst h
            have ho : tyOne P t = false := by simp [tyOne, hu]
            have hfo : P.fieldsOf t = fs := by simp [Program.fieldsOf, hu]
            simp only [mkv, ho, Bool.false_eq_true, if_false]
            rw [run_equalIn_struct (P := P) w d t _ _ (by rw [hfo]; exact hu) hc.2, hfo]
            have := eqFields_flat (fun t ks h => flat_eq d t ks h) fs.toList 0 _ hf w [] [] xs ys rfl rfl hx hy
            simpa using this
          · cases h
      | _ => cases h
/-- Keys of such a type may be looked for. -/
theorem check_flat {P : Program} (em : Bool) : ∀ (d : Nat) (t : TypeId) (ks : List FK), flatK P d t = some ks → ∀ (w : World) (xs : List Value), Fit ks xs → (Instr.checkKey em d t (mkv P t xs)).run P w = .ok () w
  | 0, t, ks, h => by simp [flatK] at h
  | d + 1, t, ks, h => by
    have hsh := shape_of h
    unfold flatK at h
    intro w xs hx
    cases hu : P.underlying t with
    | none => rw [hu] at h; cases h
    | some dd =>
      rw [hu] at h
      cases dd with
      | int k => unfold Instr.checkKey; simp [run_underlying hu]
      | string => unfold Instr.checkKey; simp [run_underlying hu]
      | struct fs =>
        simp only at h
        cases hf : flatFs (flatK P d) fs.toList 0 with
        | none => rw [hf] at h; cases h
        | some ks' =>
          rw [hf] at h
          simp only at h
          split at h
          · rename_i hc
            injection h with h
            subst h
            have ho : tyOne P t = false := by simp [tyOne, hu]
            simp only [mkv, ho, Bool.false_eq_true, if_false]
            unfold Instr.checkKey
            simp only [Sem.run_bind, run_underlying hu, Result.andThen_ok]
            rw [← Array.forIn_toList]
            have key : ∀ (L : List Field) (off : Nat) (kk : List FK), flatFs (flatK P d) L off = some kk → ∀ (p ys : List Value), p.length = off → Fit kk ys → ∀ ws : List Value, xs = p ++ ys →
                (forIn L PUnit.unit fun f _ => do
                  if f.name ≠ "_" then
                    let a ← part f.type xs.toArray f.offset
                    Instr.checkKey em d f.type a
                    pure (ForInStep.yield PUnit.unit)
                  else
                    pure (ForInStep.yield PUnit.unit) : Sem PUnit).run P w = .ok PUnit.unit w := by
              intro L
              induction L with
              | nil => intro off kk h p ys hp hy ws e; simp
              | cons f L ih =>
                intro off kk h p ys hp hy ws e
                unfold flatFs at h
                cases hk : flatK P d f.type with
                | none => rw [hk] at h; cases h
                | some k1 =>
                  rw [hk] at h
                  simp only at h
                  split at h
                  · rename_i hc
                    simp only [Bool.and_eq_true, Bool.not_eq_true', beq_iff_eq] at hc
                    obtain ⟨hoff, hn⟩ := hc
                    cases hr : flatFs (flatK P d) L (off + k1.length) with
                    | none => rw [hr] at h; cases h
                    | some k2 =>
                      rw [hr] at h
                      simp only [Option.some.injEq] at h
                      subst h
                      obtain ⟨A, ys', rfl, hA, hy'⟩ := hy.split
                      have hn' : f.name ≠ "_" := by simpa using hn
                      have s1 := part_mid (P := P) (w := w) (post := ys') (shape_of hk) (hp.trans hoff.symm) hA
                      have s3 := check_flat em d f.type k1 hk w A hA
                      have s4 := ih _ _ hr (p ++ A) ys' (by simp [hp, hA.len]) hy' [] (by rw [e, List.append_assoc])
                      rw [e]
                      rw [e] at s4
                      rw [List.append_assoc] at s1
                      simp only [List.forIn_cons, Sem.run_bind, if_pos hn', s1, s3, Result.andThen_ok, Sem.run_pure]
                      exact s4
                  · cases h
            have := key fs.toList 0 _ hf [] xs rfl hx [] rfl
            rw [this]
            rfl
          · cases h
      | _ => cases h
end Go.Rill.VM.S
end
section
namespace Go.Rill.VM
set_option linter.unusedVariables false
set_option linter.unusedSimpArgs false
open Go.RowKit
open S (FK)
noncomputable section

/-! ### What a look finds -/
def Fd (P : Program) (kt : TypeId) (ks : List FK) (xs : List Value) : List MapEntry → Nat → Option (Nat × Value) → Prop
  | [], _, r => r = none
  | e :: es, i, r => ∃ ys, e.key = S.mkv P kt ys ∧ S.Fit ks ys ∧ ((xs = ys ∧ r = some (i, e.val)) ∨ (xs ≠ ys ∧ Fd P kt ks xs es (i + 1) r))
section
variable {P : Program} {kt : TypeId} {ks : List FK} {xs : List Value} {w : World}
theorem asking_run (hk : S.flatK P 10000 kt = some ks) (hx : S.Fit ks xs) : ∀ {es : List MapEntry} {i : Nat} {r : Option (Nat × Value)}, Fd P kt ks xs es i r → (Instr.findAsking kt (S.mkv P kt xs) es i).run P w = .ok r w
  | [], i, r, h => by
    have h : r = none := h
    subst h; rfl
  | e :: es, i, r, ⟨ys, h1, h2, h3⟩ => by
    obtain ⟨b, hb, hbi⟩ := S.flat_eq 10000 kt ks hk w xs ys hx h2
    have hb' : (Op.equal kt (S.mkv P kt xs) e.key).run P w = .ok b w := by rw [h1]; exact hb
    unfold Instr.findAsking
    simp only [Sem.run_bind, hb', Result.andThen_ok]
    rcases h3 with ⟨h3, rfl⟩ | ⟨h3, h4⟩
    · rw [hbi.2 h3]; rfl
    · have : b = false := by
        cases b with
        | false => rfl
        | true => exact absurd (hbi.1 rfl) h3
      rw [this]
      exact asking_run hk hx h4
theorem now_one (hk : S.flatK P 10000 kt = some ks) (hx : S.Fit ks xs) {d : TypeDesc} (hu : P.underlying kt = some d) (hd : (∃ k, d = .int k) ∨ d = .string) : ∀ {es : List MapEntry} {i : Nat} {r : Option (Nat × Value)}, Fd P kt ks xs es i r → Instr.findNow d (S.mkv P kt xs) es i = some r
  | [], i, r, h => by
    have h : r = none := h
    subst h; rfl
  | e :: es, i, r, ⟨ys, h1, h2, h3⟩ => by
    have key : ∃ b, Instr.sameNow d (S.mkv P kt xs) e.key = some b ∧ (b = true ↔ xs = ys) := by
      rw [h1]
      unfold S.flatK at hk
      rw [hu] at hk
      rcases hd with ⟨k, rfl⟩ | rfl
      · simp only at hk
        split at hk
        · rename_i hc
          injection hk with hk
          subst hk
          obtain ⟨x, rfl⟩ : ∃ v, xs = [v] := List.length_eq_one_iff.1 (by rw [hx.len]; rfl)
          obtain ⟨y, rfl⟩ : ∃ v, ys = [v] := List.length_eq_one_iff.1 (by rw [h2.len]; rfl)
          simp only [S.Fit, List.map_cons, List.map_nil, List.cons.injEq, and_true] at hx h2
          cases x <;> simp only [S.kindOf, reduceCtorEq, Option.some.injEq, FK.int.injEq] at hx
          cases y <;> simp only [S.kindOf, reduceCtorEq, Option.some.injEq, FK.int.injEq] at h2
          subst hx
          rename_i k' a b
          subst h2
          exact ⟨k' == b, by simp [S.mkv, hc, Instr.sameNow], by simp⟩
        · cases hk
      · simp only at hk
        split at hk
        · rename_i hc
          injection hk with hk
          subst hk
          obtain ⟨x, rfl⟩ : ∃ v, xs = [v] := List.length_eq_one_iff.1 (by rw [hx.len]; rfl)
          obtain ⟨y, rfl⟩ : ∃ v, ys = [v] := List.length_eq_one_iff.1 (by rw [h2.len]; rfl)
          simp only [S.Fit, List.map_cons, List.map_nil, List.cons.injEq, and_true] at hx h2
          cases x <;> simp only [S.kindOf, reduceCtorEq, Option.some.injEq] at hx
          cases y <;> simp only [S.kindOf, reduceCtorEq, Option.some.injEq] at h2
          rename_i a b
          exact ⟨a == b, by simp [S.mkv, hc, Instr.sameNow], by simp [S.str_beq]⟩
        · cases hk
    obtain ⟨b, key, kb⟩ := key
    unfold Instr.findNow
    rw [key]
    rcases h3 with ⟨h3, rfl⟩ | ⟨h3, h4⟩
    · rw [kb.2 h3]
    · cases b with
      | true => exact absurd (kb.1 rfl) h3
      | false => exact now_one hk hx hu hd h4
theorem findKey_run (hk : S.flatK P 10000 kt = some ks) (hx : S.Fit ks xs) {es : List MapEntry} {r : Option (Nat × Value)} (h : Fd P kt ks xs es 0 r) : (Instr.findKey kt (S.mkv P kt xs) es).run P w = .ok r w := by
  cases hu : P.underlying kt with
  | none => simp [S.flatK, hu] at hk
  | some d =>
    have ask : Instr.findNow d (S.mkv P kt xs) es 0 = none ∨ Instr.findNow d (S.mkv P kt xs) es 0 = some r := by
      by_cases hd : (∃ k, d = .int k) ∨ d = .string
      · exact .inr (now_one hk hx hu hd h)
      · cases es with
        | nil =>
          have h : r = none := h
          subst h; exact .inr rfl
        | cons e es =>
          refine .inl ?_
          unfold Instr.findNow
          have : Instr.sameNow d (S.mkv P kt xs) e.key = none := by
            unfold S.flatK at hk
            rw [hu] at hk
            cases d <;> first | (exact absurd (.inl ⟨_, rfl⟩) hd) | (exact absurd (.inr rfl) hd) | rfl | (cases hk; done) | skip
          rw [this]
    simp only [Instr.findKey, Sem.run_bind, run_underlying hu, Result.andThen_ok]
    rcases ask with h1 | h1
    · rw [h1]
      exact asking_run hk hx h
    · rw [h1]; rfl
end
end
end Go.Rill.VM
end
