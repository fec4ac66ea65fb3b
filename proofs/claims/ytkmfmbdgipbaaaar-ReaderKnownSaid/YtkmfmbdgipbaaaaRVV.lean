/- Instructions over words, and when one stands for an operation. Of whatever program. -/
import Derived.Test.YtkmfmbdgipbaaaaRVO1
import Derived.Scope
section
namespace Go.Rill.VM
set_option linter.unusedVariables false
set_option linter.unusedSimpArgs false
open Go.RowKit
noncomputable section

inductive I where
  | bad
  | mv (s : Nat)
  | pick (c p q : Nat)
  | ext (t p : Nat)
  | add (t c lo hi p q : Nat)
  | sub (t c lo hi p q : Nat)
  | neg (t c lo hi p : Nat)
  | eq (t p q : Nat)
  | ne (t p q : Nat)
  | lt (t p q : Nat)
  | le (t p q : Nat)
  | not (p : Nat)
  | nn (op : BinOp) (t1 t2 c1 c2 m hi b l p q : Nat)
  | conv (k : IntKind) (t t' lo hi p : Nat)
  | fld (p k : Nat)
  | nck (p : Nat)
  | ld1 (p : Nat)
  | ldN (p : Nat)
  | st1 (p q : Nat)
  | stN (p q n : Nat)
  | bx1 (T q : Nat)
  | bxN (T q n : Nat)
  | al (T q n : Nat)
  | len (p : Nat)
  | idx (p q t sz : Nat)
  | idA (p q t n sz : Nat)
  | nil (p a b c d z : Nat)
  | slc (p : Nat) (lo hi : Option (Nat × Nat)) (sz : Nat)
  | app (p q sz T : Nat)
  | bld (q n : Nat) (ps : List (Nat × Nat × Nat))
  | blS (T n : Nat) (ps : List (Nat × Nat × Nat))
  | ir (op : BinOp) (kk : IntKind) (t lo hi p q : Nat)
  | mm (mx : Bool) (t p q : Nat)
  | bq (ne : Bool) (p q : Nat)
  | eqA (ne : Bool) (n p q : Nat) (l : List (Nat × Nat × Nat))
  | call (f : Nat) (as : List (Nat × Nat × Nat))
  | slp (p : Nat) (lo hi : Option (Nat × Nat)) (sz : Nat)
  | cap (p : Nat)
  | slA (p : Nat) (lo hi : Option (Nat × Nat)) (n sz : Nat)
  | toA (p n : Nat)
  | mki (p T : Nat)
  | mth (p T nm : Nat)
  | nkm (p T nm f : Nat)
  | mkf (p f : Nat)
  | mn3 (t p q r : Nat)
  | mkS (p t q t' z sz bytes T : Nat)
  | mkM (kc vc : Nat)
  | bl0 (T : Nat)
  | b2s (p : Nat)
  | lk (p q kc vc : Nat) (tags : List Nat) (z : Nat)
  | mu (p q r kc vc : Nat) (tags : List Nat)
  | clr (p z sz : Nat)
  | apz (p q t z sz T : Nat)
  | inv (p : Nat) (cs : List (Nat × Nat × Nat × List (Nat × Nat × Nat)))
  | dyn (p : Nat) (cs : List (Nat × List (Nat × Nat × Nat) × Nat))
  | cpy (p q sz : Nat)
  | lnm (p : Nat)
  | del (p q kc vc : Nat) (tags : List Nat)
def gOf : BinOp → Nat → Nat → Nat
  | .mul => Nat.mul
  | .add => Nat.add
  | .quo => Nat.div
  | .rem => Nat.mod
  | .and => Nat.land
  | .or => Nat.lor
  | .xor => Nat.xor
  | .shl => Nat.shiftLeft
  | .shr => Nat.shiftRight
  | _ => fun _ _ => 0
/-- What is asked of a call. -/
abbrev CallOf := Nat → List (Nat × Nat) → List (Nat × Nat × Nat) → List (Nat × Nat) → Nat → HT → Nat → (Nat → HT → Nat → Bool) → Bool
abbrev JT := CallOf → Nat → Nat → HT → Nat → (Nat → HT → Nat → Bool) → Bool
def j_bad : JT := fun _ _ _ _ _ _ => false
def j_mv (s : Nat) (call : CallOf) (n F : Nat) (M : HT) (nx : Nat) (k : Nat → HT → Nat → Bool) : Bool := k (gs F s n) M nx
def j_pick (c : Nat) (p : Nat) (q : Nat) (call : CallOf) (n F : Nat) (M : HT) (nx : Nat) (k : Nat → HT → Nat → Bool) : Bool := ePick F c p q n fun R => k R M nx
def j_ext (t : Nat) (p : Nat) (call : CallOf) (n F : Nat) (M : HT) (nx : Nat) (k : Nat → HT → Nat → Bool) : Bool := eExt F t p n fun R => k R M nx
def j_add (t : Nat) (c : Nat) (lo : Nat) (hi : Nat) (p : Nat) (q : Nat) (call : CallOf) (n F : Nat) (M : HT) (nx : Nat) (k : Nat → HT → Nat → Bool) : Bool := eAdd F t c lo hi p q fun R => k R M nx
def j_sub (t : Nat) (c : Nat) (lo : Nat) (hi : Nat) (p : Nat) (q : Nat) (call : CallOf) (n F : Nat) (M : HT) (nx : Nat) (k : Nat → HT → Nat → Bool) : Bool := eSub F t c lo hi p q fun R => k R M nx
def j_neg (t : Nat) (c : Nat) (lo : Nat) (hi : Nat) (p : Nat) (call : CallOf) (n F : Nat) (M : HT) (nx : Nat) (k : Nat → HT → Nat → Bool) : Bool := eNeg F t c lo hi p fun R => k R M nx
def j_eq (t : Nat) (p : Nat) (q : Nat) (call : CallOf) (n F : Nat) (M : HT) (nx : Nat) (k : Nat → HT → Nat → Bool) : Bool := eEq F t p q fun R => k R M nx
def j_ne (t : Nat) (p : Nat) (q : Nat) (call : CallOf) (n F : Nat) (M : HT) (nx : Nat) (k : Nat → HT → Nat → Bool) : Bool := eNe F t p q fun R => k R M nx
def j_lt (t : Nat) (p : Nat) (q : Nat) (call : CallOf) (n F : Nat) (M : HT) (nx : Nat) (k : Nat → HT → Nat → Bool) : Bool := eLt F t p q fun R => k R M nx
def j_le (t : Nat) (p : Nat) (q : Nat) (call : CallOf) (n F : Nat) (M : HT) (nx : Nat) (k : Nat → HT → Nat → Bool) : Bool := eLe F t p q fun R => k R M nx
def j_not (p : Nat) (call : CallOf) (n F : Nat) (M : HT) (nx : Nat) (k : Nat → HT → Nat → Bool) : Bool := eNot F p fun R => k R M nx
def j_nn (op : BinOp) (t1 : Nat) (t2 : Nat) (c1 : Nat) (c2 : Nat) (m : Nat) (hi : Nat) (b : Nat) (l : Nat) (p : Nat) (q : Nat) (call : CallOf) (n F : Nat) (M : HT) (nx : Nat) (k : Nat → HT → Nat → Bool) : Bool := eYtkmfmbdgipbaaaaR (gOf op) F t1 t2 c1 c2 m hi b l p q fun R => k R M nx
def j_conv (kk : IntKind) (t : Nat) (t' : Nat) (lo : Nat) (hi : Nat) (p : Nat) (call : CallOf) (n F : Nat) (M : HT) (nx : Nat) (k : Nat → HT → Nat → Bool) : Bool := eConv F t t' lo hi p kk fun R => k R M nx
def j_fld (p : Nat) (j : Nat) (call : CallOf) (n F : Nat) (M : HT) (nx : Nat) (k : Nat → HT → Nat → Bool) : Bool := eFld F p j fun R => k R M nx
def j_nck (p : Nat) (call : CallOf) (n F : Nat) (M : HT) (nx : Nat) (k : Nat → HT → Nat → Bool) : Bool := eNck F p fun R => k R M nx
def j_ld1 (p : Nat) (call : CallOf) (n F : Nat) (M : HT) (nx : Nat) (k : Nat → HT → Nat → Bool) : Bool := need (Nat.blt (lb (gw F p)) nx) (eLd1 F M p fun R => k R M nx)
def j_ldN (p : Nat) (call : CallOf) (n F : Nat) (M : HT) (nx : Nat) (k : Nat → HT → Nat → Bool) : Bool := need (Nat.blt (lb (gw F p)) nx) (eLdN F M p (Nat.pred n) fun R => k R M nx)
def j_st1 (p : Nat) (q : Nat) (call : CallOf) (n F : Nat) (M : HT) (nx : Nat) (k : Nat → HT → Nat → Bool) : Bool := eSt1 F M nx p q k
def j_stN (p : Nat) (q : Nat) (m : Nat) (call : CallOf) (n F : Nat) (M : HT) (nx : Nat) (k : Nat → HT → Nat → Bool) : Bool := eStN F M nx p q m k
def j_bx1 (T : Nat) (q : Nat) (call : CallOf) (n F : Nat) (M : HT) (nx : Nat) (k : Nat → HT → Nat → Bool) : Bool := nz (gw F q) (iff' (Nat.beq (gw F q) 9) false (eNew M nx T (gw F q) k))
def j_bxN (T : Nat) (q : Nat) (m : Nat) (call : CallOf) (n F : Nat) (M : HT) (nx : Nat) (k : Nat → HT → Nat → Bool) : Bool := nz (gw F q) (eNew M nx T (gs F (Nat.succ q) m) k)
def j_al (T : Nat) (q : Nat) (m : Nat) (call : CallOf) (n F : Nat) (M : HT) (nx : Nat) (k : Nat → HT → Nat → Bool) : Bool := eNew M nx T (gs F q m) k
def j_len (p : Nat) (call : CallOf) (n F : Nat) (M : HT) (nx : Nat) (k : Nat → HT → Nat → Bool) : Bool := eLen F p fun R => k R M nx
def j_idx (p : Nat) (q : Nat) (t : Nat) (sz : Nat) (call : CallOf) (n F : Nat) (M : HT) (nx : Nat) (k : Nat → HT → Nat → Bool) : Bool := eIdx F p q t sz fun R => k R M nx
def j_idA (p : Nat) (q : Nat) (t : Nat) (m : Nat) (sz : Nat) (call : CallOf) (n F : Nat) (M : HT) (nx : Nat) (k : Nat → HT → Nat → Bool) : Bool := eIdA F p q t m sz fun R => k R M nx
def j_nil (p : Nat) (a : Nat) (b : Nat) (c : Nat) (d : Nat) (z : Nat) (call : CallOf) (n F : Nat) (M : HT) (nx : Nat) (k : Nat → HT → Nat → Bool) : Bool := eNil F p a b c d z fun R => k R M nx
def j_slc (p : Nat) (lo : Option (Nat × Nat)) (hi : Option (Nat × Nat)) (sz : Nat) (call : CallOf) (n F : Nat) (M : HT) (nx : Nat) (k : Nat → HT → Nat → Bool) : Bool := eSlc F M nx p lo hi sz k
def j_app (p : Nat) (q : Nat) (sz : Nat) (T : Nat) (call : CallOf) (n F : Nat) (M : HT) (nx : Nat) (k : Nat → HT → Nat → Bool) : Bool := eApw F M nx p q sz T k
def j_bld (q : Nat) (m : Nat) (ps : List (Nat × Nat × Nat)) (call : CallOf) (n F : Nat) (M : HT) (nx : Nat) (k : Nat → HT → Nat → Bool) : Bool := eFill F ps (gs F q m) fun X => k (wcons 1 X) M nx
def j_blS (T : Nat) (m : Nat) (ps : List (Nat × Nat × Nat)) (call : CallOf) (n F : Nat) (M : HT) (nx : Nat) (k : Nat → HT → Nat → Bool) : Bool := eFill F ps 0 fun X => need (Nat.blt nx 16777216) (force (mkx T X) fun x => M.put x nx fun M => force (Nat.succ nx) fun j => k (slw 15 nx 0 m m) M j)
def j_ir (op : BinOp) (kk : IntKind) (t : Nat) (lo : Nat) (hi : Nat) (p : Nat) (q : Nat) (call : CallOf) (n F : Nat) (M : HT) (nx : Nat) (k : Nat → HT → Nat → Bool) : Bool := eIR op kk F t lo hi p q fun R => k R M nx
def j_mm (mx : Bool) (t : Nat) (p : Nat) (q : Nat) (call : CallOf) (n F : Nat) (M : HT) (nx : Nat) (k : Nat → HT → Nat → Bool) : Bool := eMM mx F t p q fun R => k R M nx
def j_bq (ne : Bool) (p : Nat) (q : Nat) (call : CallOf) (n F : Nat) (M : HT) (nx : Nat) (k : Nat → HT → Nat → Bool) : Bool := eBq ne F p q fun R => k R M nx
def j_eqA (ne : Bool) (m : Nat) (p : Nat) (q : Nat) (l : List (Nat × Nat × Nat)) (call : CallOf) (n F : Nat) (M : HT) (nx : Nat) (k : Nat → HT → Nat → Bool) : Bool := eEqS ne F p q l fun R => k R M nx
def j_call (f : Nat) (as : List (Nat × Nat × Nat)) (call : CallOf) (n F : Nat) (M : HT) (nx : Nat) (k : Nat → HT → Nat → Bool) : Bool := call f [] as [] F M nx k
def j_slp (p : Nat) (lo hi : Option (Nat × Nat)) (sz : Nat) (call : CallOf) (n F : Nat) (M : HT) (nx : Nat) (k : Nat → HT → Nat → Bool) : Bool := eSlp F p lo hi sz fun R => k R M nx
def j_cap (p : Nat) (call : CallOf) (n F : Nat) (M : HT) (nx : Nat) (k : Nat → HT → Nat → Bool) : Bool := eCap F p fun R => k R M nx
def j_slA (p : Nat) (lo hi : Option (Nat × Nat)) (m sz : Nat) (call : CallOf) (n F : Nat) (M : HT) (nx : Nat) (k : Nat → HT → Nat → Bool) : Bool := eSlA F p lo hi m sz fun R => k R M nx
def j_toA (p m : Nat) (call : CallOf) (n F : Nat) (M : HT) (nx : Nat) (k : Nat → HT → Nat → Bool) : Bool := eToA F p m fun R => k R M nx
def j_mki (p T : Nat) (call : CallOf) (n F : Nat) (M : HT) (nx : Nat) (k : Nat → HT → Nat → Bool) : Bool := eMkI F p T fun R => k R M nx
def j_mth (p T nm : Nat) (call : CallOf) (n F : Nat) (M : HT) (nx : Nat) (k : Nat → HT → Nat → Bool) : Bool := eMth F p T nm fun R => k R M nx
def j_nkm (p T nm f : Nat) (call : CallOf) (n F : Nat) (M : HT) (nx : Nat) (k : Nat → HT → Nat → Bool) : Bool := eNkm F p T nm fun R => k R M nx
def j_mkf (p f : Nat) (call : CallOf) (n F : Nat) (M : HT) (nx : Nat) (k : Nat → HT → Nat → Bool) : Bool := eMkf F p f fun R => k R M nx
def j_mn3 (t p q r : Nat) (call : CallOf) (n F : Nat) (M : HT) (nx : Nat) (k : Nat → HT → Nat → Bool) : Bool := eMn3 F t p q r fun R => k R M nx
def j_mkS (p t q t' z sz bytes T : Nat) (call : CallOf) (n F : Nat) (M : HT) (nx : Nat) (k : Nat → HT → Nat → Bool) : Bool := eMkS F M nx p t q t' z sz bytes T k
def j_mkM (kc vc : Nat) (call : CallOf) (n F : Nat) (M : HT) (nx : Nat) (k : Nat → HT → Nat → Bool) : Bool := eMkM M nx (Nat.add (Nat.mul kc 65536) (Nat.mul vc 4294967296)) k
def j_bl0 (T : Nat) (call : CallOf) (n F : Nat) (M : HT) (nx : Nat) (k : Nat → HT → Nat → Bool) : Bool := need (Nat.blt nx 16777216) (force (mkx T 0) fun x => M.put x nx fun M => force (Nat.succ nx) fun n => k (slw 15 nx 0 0 0) M n)
def j_b2s (p : Nat) (call : CallOf) (n F : Nat) (M : HT) (nx : Nat) (k : Nat → HT → Nat → Bool) : Bool := eB2s F M nx p k
def j_lk (p q kc vc : Nat) (tags : List Nat) (z : Nat) (call : CallOf) (n F : Nat) (M : HT) (nx : Nat) (k : Nat → HT → Nat → Bool) : Bool := eLk F M p q kc vc tags z true fun R => k R M nx
def j_mu (p q r kc vc : Nat) (tags : List Nat) (call : CallOf) (n F : Nat) (M : HT) (nx : Nat) (k : Nat → HT → Nat → Bool) : Bool := eMu F M nx p q r kc vc tags k
def j_clr (p z sz : Nat) (call : CallOf) (n F : Nat) (M : HT) (nx : Nat) (k : Nat → HT → Nat → Bool) : Bool := eClr F M nx p z sz k
def j_apz (p q t z sz T : Nat) (call : CallOf) (n F : Nat) (M : HT) (nx : Nat) (k : Nat → HT → Nat → Bool) : Bool := eApz F M nx p q t z sz T k
/-- Where a word's pointer shows: of an interface, of a function with a pointer of its own. -/
def pOf (w : Nat) : Nat := Nat.add (Nat.shiftLeft (Nat.add (Nat.mod (Nat.shiftRight w 21) 16777216) (Nat.shiftLeft (Nat.shiftRight w 45) 24)) 5) 13
def j_inv (p : Nat) (cs : List (Nat × Nat × Nat × List (Nat × Nat × Nat))) (call : CallOf) (n F : Nat) (M : HT) (nx : Nat) (k : Nat → HT → Nat → Bool) : Bool := ck (gw F p) 22 (List.rec (motive := fun _ => Bool) false (fun c _ ih => iff' (Nat.beq (Nat.land (Nat.shiftRight (gw F p) 5) 65535) c.1) (call c.2.1 [(c.2.2.1, pOf (gw F p))] c.2.2.2 [] F M nx k) ih) cs)
def j_dyn (p : Nat) (cs : List (Nat × List (Nat × Nat × Nat) × Nat)) (call : CallOf) (n F : Nat) (M : HT) (nx : Nat) (k : Nat → HT → Nat → Bool) : Bool := List.rec (motive := fun _ => Bool) false (fun c _ ih => iff' (Nat.beq c.2.2 0) (iff' (Nat.beq (gw F p) (Nat.add (Nat.mul c.1 32) 23)) (call c.1 [] c.2.1 [] F M nx k) ih) (iff' (and (Nat.beq (Nat.land (gw F p) 31) 27) (Nat.beq (Nat.land (Nat.shiftRight (gw F p) 5) 65535) c.1)) (call c.1 [] c.2.1 [(c.2.2, pOf (gw F p))] F M nx k) ih)) cs
def j_cpy (p q sz : Nat) (call : CallOf) (n F : Nat) (M : HT) (nx : Nat) (k : Nat → HT → Nat → Bool) : Bool := eCpy F M nx p q sz k
def j_lnm (p : Nat) (call : CallOf) (n F : Nat) (M : HT) (nx : Nat) (k : Nat → HT → Nat → Bool) : Bool := eLnm F M p fun R => k R M nx
def j_del (p q kc vc : Nat) (tags : List Nat) (call : CallOf) (n F : Nat) (M : HT) (nx : Nat) (k : Nat → HT → Nat → Bool) : Bool := eDel F M p q kc vc tags fun R => k R M nx
/-- One instruction; calls by 'call'; n: words that it hands on. -/
def evI (call : CallOf) (i : I) (n F : Nat) (M : HT) (nx : Nat) (k : Nat → HT → Nat → Bool) : Bool :=
  I.rec (motive := fun _ => JT) j_bad j_mv j_pick j_ext j_add j_sub j_neg j_eq j_ne j_lt j_le j_not j_nn j_conv j_fld j_nck j_ld1 j_ldN j_st1 j_stN j_bx1 j_bxN j_al j_len j_idx j_idA j_nil j_slc j_app j_bld j_blS j_ir j_mm j_bq j_eqA j_call j_slp j_cap j_slA j_toA j_mki j_mth j_nkm j_mkf j_mn3 j_mkS j_mkM j_bl0 j_b2s j_lk j_mu j_clr j_apz j_inv j_dyn j_cpy j_lnm j_del i call n F M nx k
/-- Whether operands and types fit: all instructions but calls. -/
def opArgs : Op → Option (Builtin × List Operand × List TypeId)
  | .call { callee := .builtin b, args, argTypes } => some (b, args.toList, argTypes.toList)
  | _ => none
def isOp (t : Nat) (c : Nat) (k : IntKind) : Bool := Nat.beq t (tg k) && Nat.beq c (w0 k)
theorem kOf_tg {t : Nat} (h : Nat.beq t (tg (kOf t)) = true) : t = tg (kOf t) := Nat.eq_of_beq_eq_true h
def sliceEl (P : Program) (t : TypeId) : Option TypeId := match P.underlying t with | some (.slice e) => some e | _ => none
theorem sliceEl_eq {P : Program} {t e : TypeId} (h : sliceEl P t = some e) : tySlice P t e = true := by
  unfold sliceEl at h
  unfold tySlice
  split at h
  · rename_i e' hu
    injection h with h
    subst h
    rw [hu]
    simp
  · cases h
def bytesT (P : Program) (t : TypeId) : Nat := match P.info? t with | some i => i.bytes | none => 0
def partsOk (P : Program) (Y : Lay) (t : TypeId) (n : Nat) (parts : List (Nat × Operand)) (ps : List (Nat × Nat × Nat)) : Bool :=
  match P.underlying t with
  | some (.struct fs) => fs.toList.all (fun f => (P.info? f.type).isSome) && okParts Y (fun i => (placesOf P fs)[i]?) n parts ps
  | some (.array _ el) => tySize P el (P.cellsOf el) && okParts Y (fun i => some (i * P.cellsOf el, P.cellsOf el)) n parts ps
  | _ => false
/-- All instructions but calls. -/
def okI (P : Program) (Y : Lay) (op : Op) (i : I) (s : Option Sh) : Bool :=
  match i, s with
  | .mv p, some sh => match op with
    | .move x => okSh Y x p sh
    | .assign x => okSh Y x p sh
    | _ => false
  | .pick c p q, some sh => match op with
    | .pick z x y => okO Y z c 0 && okSh Y x p sh && okSh Y y q sh
    | _ => false
  | .ext t p, some (.val c) => match op with
    | .extract x i => okX Y x i t p c
    | _ => false
  | .add t c lo hi p q, some (.val 0) => match op with
    | .binOp .add _ x y _ => okO Y x p 0 && okO Y y q 0 && isOp t c (kOf t) && Nat.beq lo (wi (kOf t) (kOf t).min) && Nat.beq hi (wi (kOf t) (kOf t).max)
    | _ => false
  | .sub t c lo hi p q, some (.val 0) => match op with
    | .binOp .sub _ x y _ => okO Y x p 0 && okO Y y q 0 && isOp t c (kOf t) && Nat.beq lo (wi (kOf t) (kOf t).min) && Nat.beq hi (wi (kOf t) (kOf t).max)
    | _ => false
  | .neg t c lo hi p, some (.val 0) => match op with
    | .unOp .neg _ x => okO Y x p 0 && isOp t c (kOf t) && Nat.beq lo (wi (kOf t) (kOf t).min) && Nat.beq hi (wi (kOf t) (kOf t).max)
    | _ => false
  | .eq t p q, some (.val 0) => match op with
    | .binOp .eql _ x y _ => okO Y x p 0 && okO Y y q 0 && Nat.beq t (tg (kOf t))
    | _ => false
  | .ne t p q, some (.val 0) => match op with
    | .binOp .neq _ x y _ => okO Y x p 0 && okO Y y q 0 && Nat.beq t (tg (kOf t))
    | _ => false
  | .lt t p q, some (.val 0) => match op with
    | .binOp .lss _ x y _ => okO Y x p 0 && okO Y y q 0 && Nat.beq t (tg (kOf t))
    | .binOp .gtr _ y x _ => okO Y x p 0 && okO Y y q 0 && Nat.beq t (tg (kOf t))
    | _ => false
  | .le t p q, some (.val 0) => match op with
    | .binOp .leq _ x y _ => okO Y x p 0 && okO Y y q 0 && Nat.beq t (tg (kOf t))
    | .binOp .geq _ y x _ => okO Y x p 0 && okO Y y q 0 && Nat.beq t (tg (kOf t))
    | _ => false
  | .not p, some (.val 0) => match op with
    | .unOp .not _ x => okO Y x p 0
    | _ => false
  | .nn g t1 t2 c1 c2 m hi b l p q, some (.val 0) => match op with
    | .binOp h _ x y _ => okO Y x p 0 && okO Y y q 0 && isOp t1 c1 (kOf t1) && isOp t2 c2 (kOf t2) && Nat.beq m (kmod (kOf t1)) && Nat.beq hi (wi (kOf t1) (kOf t1).max) && Nat.ble c2 l &&
      (match g, h with
        | .mul, .mul => Nat.beq t1 t2
        | .add, .add => Nat.beq t1 t2
        | .quo, .quo => Nat.beq t1 t2 && Nat.beq l (c2 + 32)
        | .rem, .rem => Nat.beq t1 t2 && Nat.beq l (c2 + 32)
        | .and, .and => Nat.beq t1 t2 && Nat.beq b hi
        | .or, .or => Nat.beq t1 t2 && Nat.beq b hi
        | .xor, .xor => Nat.beq t1 t2 && Nat.beq b hi
        | .shl, .shl => Nat.beq b (c2 + 32 * (kOf t1).bits)
        | .shr, .shr => Nat.beq b (c2 + 32 * (kOf t1).bits)
        | _, _ => false)
    | _ => false
  | .conv k t t' lo hi p, some (.val 0) => match op with
    | .convert s d x => okO Y x p 0 && Nat.beq t (tg (kOf t)) && Nat.beq t' (tg k) && (P.underlying s).isSome && (match P.underlying d with | some (.int k') => k' == k | _ => false) && Nat.beq lo (wi k k.min) && Nat.beq hi (wi k k.max)
    | _ => false
  | .fld p k, some (.val 0) => match op with
    | .fieldAddr s x i => okO Y x p 0 && tyFld P s i k
    | _ => false
  | .nck p, some (.val 0) => match op with
    | .nilCheck x => okO Y x p 0
    | _ => false
  | .ld1 p, some (.val 0) => match op with
    | .load t x => okO Y x p 0 && tyOne P t
    | _ => false
  | .ldN p, some (.val (n + 1)) => match op with
    | .load t x => okO Y x p 0 && tyAgg P t (n + 1)
    | _ => false
  | .st1 p q, none => match op with
    | .store t x y => okO Y x p 0 && okO Y y q 0 && tySize P t 1
    | _ => false
  | .stN p q m, none => match m, op with
    | n + 1, .store t x y => okO Y x p 0 && okO Y y q (n + 1) && tySize P t (n + 1)
    | _, _ => false
  | .bx1 T q, some (.val 0) => match op with
    | .box T' x => Nat.beq T' T && okO Y x q 0 && tySize P T 1 && Nat.blt T 18446744073709551616
    | _ => false
  | .bxN T q m, some (.val 0) => match m, op with
    | n + 1, .box T' x => Nat.beq T' T && okO Y x q (n + 1) && tySize P T (n + 1) && Nat.blt T 18446744073709551616
    | _, _ => false
  | .al T q n, some (.val 0) => match op with
    | .alloc T' => Nat.beq T' T && (match zeroOf P T with | some v => Nat.ble (q + n) Y.nc && conL Y.con q v.cells.toList && Nat.beq v.cells.toList.length n | none => false) && tySize P T n && Nat.blt T 18446744073709551616
    | _ => false
  | .len p, some (.val 0) => match opArgs op with
    | some (.len, [x], [t]) => okO Y x p 0 && (sliceEl P t).isSome
    | _ => false
  | .idx p q t sz, some (.val 0) => match op with
    | .indexAddr s x y => okO Y x p 0 && okO Y y q 0 && Nat.beq t (tg (kOf t)) && (match sliceEl P s with | some e => tySize P e sz | none => false)
    | _ => false
  | .idA p q t n sz, some (.val 0) => match op with
    | .indexAddr s x y => okO Y x p 0 && okO Y y q 0 && Nat.beq t (tg (kOf t)) && (match P.underlying s with | some (.array m e) => Nat.beq m n && tySize P e sz | _ => false)
    | _ => false
  | .nil p a b c d z, some (.val 0) => match op with
    | .binOp h t x (.const (.pointer none)) _ => okO Y x p 0 && (match P.underlying t with | some (.pointer _) => true | _ => false) && Nat.beq a 12 && Nat.beq b 13 && Nat.beq c 13 && Nat.beq d 13 && (match h with | .eql => Nat.beq z 43 | .neq => Nat.beq z 11 | _ => false)
    | .binOp h t x (.const (.slice none 0 0)) _ => okO Y x p 0 && (sliceEl P t).isSome && Nat.beq a 14 && Nat.beq b 15 && Nat.beq c 16 && Nat.beq d 17 && (match h with | .eql => Nat.beq z 43 | .neq => Nat.beq z 11 | _ => false)
    | _ => false
  | .slc p lo hi sz, some (.val 0) => match op with
    | .slice t x L H none => okO Y x p 0 && okB Y L lo && okB Y H hi && (match sliceEl P t with | some e => tySize P e sz | none => false)
    | _ => false
  | .app p q sz T, some (.val 0) => match opArgs op with
    | some (.append, [x, y], [t, tx]) => okO Y x p 0 && okO Y y q 0 && (match sliceEl P t with | some e => Nat.beq e T && tyZero P e sz && tyBytes' P e (bytesT P e) && tySize P e sz && Nat.blt e 18446744073709551616 && Nat.ble (bytesT P e + 1) 33554432 | none => false) && (sliceEl P tx).isSome && Nat.blt 0 sz
    | _ => false
  | .bld q m ps, some (.val (n + 1)) => match op with
    | .build t parts => Nat.beq m (n + 1) && partsOk P Y t (n + 1) parts.toList ps && (match zeroOf P t with | some v => Nat.ble (q + (n + 1)) Y.nc && conL Y.con q v.cells.toList && Nat.beq v.cells.toList.length (n + 1) | none => false)
    | _ => false
  | .blS T n ps, some (.val 0) => match op with
    | .buildSlice t m parts => Nat.beq m n && (match sliceEl P t with
      | some e => Nat.beq e T && (match zeroOf P e with
        | some z => tySize P e z.cells.size && z.cells.toList.all (·.oneCell') && Nat.blt n 4194304 && Nat.ble (n * z.cells.size) 16777216 && Nat.blt 0 (n * z.cells.size) && okParts Y (fun i => some (i * z.cells.size, z.cells.size)) (n * z.cells.size) parts.toList ps
        | none => false) && Nat.blt e 18446744073709551616
      | none => false)
    | _ => false
  | .ir g k t lo hi p q, some (.val 0) => match op with
    | .binOp h _ x y _ => okO Y x p 0 && okO Y y q 0 && Nat.beq t (tg k) && Nat.beq lo (wi k k.min) && Nat.beq hi (wi k k.max) && (match g, h with | .mul, .mul => true | .quo, .quo => true | .rem, .rem => true | _, _ => false)
    | _ => false
  | .mm mx t p q, some (.val 0) => match opArgs op with
    | some (b, [x, y], _) => okO Y x p 0 && okO Y y q 0 && Nat.beq t (tg (kOf t)) && (match mx, b with | true, .max => true | false, .min => true | _, _ => false)
    | _ => false
  | .bq ne p q, some (.val 0) => match op with
    | .binOp h t x y _ => okO Y x p 0 && okO Y y q 0 && (match P.underlying t with | some .bool => true | _ => false) && (match ne, h with | false, .eql => true | true, .neq => true | _, _ => false)
    | _ => false
  | .eqA ne n p q l, some (.val 0) => match op with
    | .binOp h t x y _ => okO Y x p (n + 1) && okO Y y q (n + 1) && (match flatK P 10000 t with | some ks => tyFlat P t ks && Nat.beq ks.length (n + 1) && okEq ks (p + 1) (q + 1) l | none => false) && (match ne, h with | false, .eql => true | true, .neq => true | _, _ => false)
    | _ => false
  | .slp p lo hi sz, some (.val 0) => match op with
    | .slice t x L H none => okO Y x p 0 && okB Y L lo && okB Y H hi && (match sliceEl P t with | some e => tySize P e sz | none => false)
    | _ => false
  | .cap p, some (.val 0) => match opArgs op with
    | some (.cap, [x], [t]) => okO Y x p 0 && (sliceEl P t).isSome
    | _ => false
  | .slA p lo hi n sz, some (.val 0) => match op with
    | .slice t x L H none => okO Y x p 0 && okB Y L lo && okB Y H hi && (match P.underlying t with | some (.array m e) => Nat.beq m n && tySize P e sz | _ => false)
    | _ => false
  | .toA p n, some (.val 0) => match op with
    | .sliceToArrayPointer t x => okO Y x p 0 && (match P.underlying t with | some (.array m e) => Nat.beq m n | _ => false)
    | _ => false
  | .mki p T, some (.val 0) => match op with
    | .makeInterface T' x => Nat.beq T' T && okO Y x p 0 && (match P.underlying T with | some (.pointer _) => true | _ => false) && Nat.blt T 65536
    | _ => false
  | .mth p T nm, some (.val 0) => match op with
    | .makeFunc (.method name) xs cs => (match xs.toList, cs.toList with | [x], [] => okO Y x p 0 && name == mthName nm | _, _ => false) && Nat.blt T 65536
    | _ => false
  | .nkm p T nm f, some (.val 0) => match op with
    | .nilCheck x => okO Y x p 0 && tyMth P T (mthName nm) f
    | _ => false
  | .mkf p f, some (.val 0) => match op with
    | .makeFunc (.func g) xs cs => (match xs.toList, cs.toList with | [], [x] => okO Y x p 0 | _, _ => false) && Nat.beq g f && Nat.blt f 65536
    | _ => false
  | .mn3 t p q r, some (.val 0) => match opArgs op with
    | some (.min, [x, y, z], _) => okO Y x p 0 && okO Y y q 0 && okO Y z r 0 && Nat.beq t (tg (kOf t))
    | _ => false
  | .mkS p t q t' z sz bytes T, some (.val 0) => match op with
    | .makeSlice ty X Z => okB Y (some X) (some (p, t)) && okB Y (some Z) (some (q, t')) && (match sliceEl P ty with
      | some e => Nat.beq e T && (match zeroOf P e with | some zv => conL Y.con z zv.cells.toList && Nat.beq zv.cells.toList.length sz | none => false) && tyZero P e sz && tyBytes' P e bytes && tySize P e sz && Nat.blt e 18446744073709551616
      | none => false) && Nat.ble (z + sz) Y.nc && Nat.blt 0 sz
    | _ => false
  | .mkM kc vc, some (.val 0) => match op with
    | .makeMap t none => Nat.blt kc 65536 && Nat.blt vc 65536
    | _ => false
  | .bl0 T, some (.val 0) => match op with
    | .buildSlice t m parts => Nat.beq m 0 && parts.toList.isEmpty && (match sliceEl P t with | some e => Nat.beq e T && (P.info? e).isSome && Nat.blt e 18446744073709551616 | none => false)
    | _ => false
  | .b2s p, some (.val 0) => match op with
    | .convert s t x => okO Y x p 0 && (match sliceEl P s with | some e => (match P.underlying e with | some (.int .u8) => true | _ => false) | none => false) && (match P.underlying t with | some .string => true | _ => false)
    | _ => false
  | .lk p q kc vc tags z, some (.tup [vc', 0]) => match op with
    | .lookup t x y true => Nat.beq vc' vc && okO Y x p 0 && okO Y y q kc && (match P.underlying t with
      | some (.map kt et) => tyKey P kt kc tags && (match zeroOf P et with | some zv => conOk Y.con z vc zv | none => false)
      | _ => false) && Nat.blt kc 65536 && Nat.blt vc 65536 && Nat.ble (z + csz vc) Y.nc
    | _ => false
  | .mu p q r kc vc tags, none => match op with
    | .mapUpdate t x y z => okO Y x p 0 && okO Y y q kc && okO Y z r vc && (match P.underlying t with | some (.map kt et) => tyKey P kt kc tags | _ => false) && Nat.blt kc 65536 && Nat.blt vc 65536
    | _ => false
  | .clr p z sz, none => match opArgs op with
    | some (.clear, [x], [t]) => okO Y x p 0 && (match sliceEl P t with | some e => (match zeroOf P e with | some zv => conL Y.con z zv.cells.toList && Nat.beq zv.cells.toList.length sz | none => false) | none => false) && Nat.ble (z + sz) Y.nc && Nat.blt 0 sz
    | _ => false
  | .cpy p q sz, some (.val 0) => match opArgs op with
    | some (.copy, [x, y], [t, tx]) => okO Y x p 0 && okO Y y q 0 && (match sliceEl P t with | some e => tySize P e sz | none => false) && (sliceEl P tx).isSome && Nat.blt 0 sz
    | _ => false
  | .lnm p, some (.val 0) => match opArgs op with
    | some (.len, [x], [t]) => okO Y x p 0 && (match P.underlying t with | some (.map _ _) => true | _ => false)
    | _ => false
  | .del p q kc vc tags, none => match opArgs op with
    | some (.delete, [x, y], [t, s]) => okO Y x p 0 && okO Y y q kc && (match P.underlying t with | some (.map kt et) => tyKey P kt kc tags | _ => false) && Nat.blt kc 65536 && Nat.blt vc 65536
    | _ => false
  | .apz p q t z sz T, some (.val 0) => match opArgs op with
    | some (.append, [x, y], [ty, tn]) => okO Y x p 0 && okB Y (some y) (some (q, t)) && (match P.underlying tn with | some (.int _) => true | _ => false) && (match sliceEl P ty with
      | some e => Nat.beq e T && (match zeroOf P e with | some zv => conL Y.con z zv.cells.toList && Nat.beq zv.cells.toList.length sz | none => false) && tyZero P e sz && tyBytes' P e (bytesT P e) && tySize P e sz && Nat.blt e 18446744073709551616 && Nat.ble (bytesT P e + 1) 33554432
      | none => false) && Nat.ble (z + sz) Y.nc && Nat.blt 0 sz
    | _ => false
  | _, _ => false
/-- What kind of instruction: 0 looks at slots alone; 1 at memory; 2 makes new memory; 3 any other. -/
def cls : I → Nat
  | .mv _ | .pick .. | .ext .. | .add .. | .sub .. | .neg .. | .eq .. | .ne .. | .lt .. | .le .. | .not _ | .nn .. | .conv .. | .fld .. | .nck _ | .len _ | .idx .. | .idA .. | .nil .. | .bld .. | .ir .. | .mm .. | .bq .. | .eqA .. | .slp .. | .cap _ | .slA .. | .toA .. | .mki .. | .mth .. | .nkm .. | .mkf .. | .mn3 .. => 0
  | .ld1 _ | .ldN _ => 1
  | .bx1 .. | .bxN .. | .al .. | .blS .. | .mkS .. | .mkM .. | .bl0 _ | .b2s _ => 2
  | _ => 3
def ldAt : I → Nat
  | .ld1 p => p
  | .ldN p => p
  | .b2s p => p
  | _ => 0
/-- Does it look at memory, and at nothing else there than what one slot shows? -/
def rdI : I → Bool
  | .ld1 _ | .ldN _ | .b2s _ => true
  | _ => false
theorem rdI_one {i : I} (h : cls i = 1) : rdI i = true := by cases i <;> first | rfl | (cases h; done)
/-- New memory, out of nothing, or out of what a slot shows. -/
def FreshR (P : Program) (Y : Lay) (o : Oper) (s : Option Sh) (F : Nat) (M : HT) (nx R : Nat) (M' : HT) (i : I) : Prop :=
  ∃ X, (∀ q, M'.get q = if q = nx then X else M.get q) ∧ ((∀ f, Runs P Y o s F f nx R (upd f nx X) (nx + 1)) ∨
    (rdI i = true ∧ (gw F (ldAt i) % 32 = 15 ∨ gw F (ldAt i) % 32 = 16) ∧ lb (gw F (ldAt i)) < nx ∧ (∃ x, x ∈ opList o.op ∧ okO Y x (ldAt i) 0 = true) ∧ ∀ f, f (lb (gw F (ldAt i))) = M.get (lb (gw F (ldAt i))) → Runs P Y o s F f nx R (upd f nx X) (nx + 1)))
theorem FreshR.runs {P : Program} {Y : Lay} {o : Oper} {s : Option Sh} {F : Nat} {M : HT} {nx R : Nat} {M' : HT} {i : I} (h : FreshR P Y o s F M nx R M' i) : Runs P Y o s F M.get nx R M'.get (nx + 1) := by
  obtain ⟨X, h1, h2⟩ := h
  have e : M'.get = upd M.get nx X := funext h1
  rw [e]
  rcases h2 with h2 | ⟨_, _, _, _, h2⟩
  · exact h2 _
  · exact h2 _ rfl
def OpRes (P : Program) (Y : Lay) (o : Oper) (s : Option Sh) (F : Nat) (M : HT) (nx R : Nat) (M' : HT) (nx' : Nat) (i : I) : Nat → Prop
  | 0 => M' = M ∧ nx' = nx ∧ ∀ f nx, Runs P Y o s F f nx R f nx
  | 1 => M' = M ∧ nx' = nx ∧ (gw F (ldAt i) % 32 = 13 ∧ lb (gw F (ldAt i)) < nx) ∧ (∃ x, x ∈ opList o.op ∧ okO Y x (ldAt i) 0 = true) ∧ ∀ f nx, f (lb (gw F (ldAt i))) = M.get (lb (gw F (ldAt i))) → Runs P Y o s F f nx R f nx
  | 2 => nx' = nx + 1 ∧ FreshR P Y o s F M nx R M' i
  | _ => Runs P Y o s F M.get nx R M'.get nx'
theorem OpRes.runs {P : Program} {Y : Lay} {o : Oper} {s : Option Sh} {F : Nat} {M : HT} {nx R : Nat} {M' : HT} {nx' c : Nat} {i : I} (h : OpRes P Y o s F M nx R M' nx' i c) : Runs P Y o s F M.get nx R M'.get nx' := by
  obtain _ | _ | _ | c := c
  · obtain ⟨rfl, rfl, h⟩ := h; exact h _ _
  · obtain ⟨rfl, rfl, _, _, h⟩ := h; exact h _ _ rfl
  · obtain ⟨rfl, h⟩ := h; exact h.runs
  · exact h
end
end Go.Rill.VM
end
section
namespace Go.Rill.VM
set_option linter.unusedVariables false
set_option linter.unusedSimpArgs false
open Go.RowKit
noncomputable section
section
variable {P : Program} {Y : Lay} {o : Oper} {F : Nat} {M : HT} {nx n : Nat} {K : Nat → HT → Nat → Bool} {call : CallOf}
theorem blt_of {a b : Nat} (h : Nat.blt a b = true) : a < b := by rwa [Nat.blt_eq] at h
theorem ble_of {a b : Nat} (h : Nat.ble a b = true) : a ≤ b := Nat.le_of_ble_eq_true h
theorem res0 {s : Option Sh} {i : I} (hc : cls i = 0) (h : ∃ R, K R M nx = true ∧ ∀ f nx, Runs P Y o s F f nx R f nx) : ∃ R M' nx', K R M' nx' = true ∧ OpRes P Y o s F M nx R M' nx' i (cls i) := by
  obtain ⟨R, h1, h2⟩ := h
  rw [hc]
  exact ⟨R, M, nx, h1, rfl, rfl, h2⟩
theorem res1 {s : Option Sh} {i : I} (hc : cls i = 1) (h13 : gw F (ldAt i) % 32 = 13 ∧ lb (gw F (ldAt i)) < nx) (hx : ∃ x, x ∈ opList o.op ∧ okO Y x (ldAt i) 0 = true) (h : ∃ R, K R M nx = true ∧ ∀ f nx, f (lb (gw F (ldAt i))) = M.get (lb (gw F (ldAt i))) → Runs P Y o s F f nx R f nx) : ∃ R M' nx', K R M' nx' = true ∧ OpRes P Y o s F M nx R M' nx' i (cls i) := by
  obtain ⟨R, h1, h2⟩ := h
  rw [hc]
  exact ⟨R, M, nx, h1, rfl, rfl, h13, hx, h2⟩
theorem res2 {s : Option Sh} {i : I} (hc : cls i = 2) (h : ∃ R M', K R M' (nx + 1) = true ∧ Fresh P Y o s F M nx R M') : ∃ R M' nx', K R M' nx' = true ∧ OpRes P Y o s F M nx R M' nx' i (cls i) := by
  obtain ⟨R, M', h1, X, h2, h3⟩ := h
  rw [hc]
  exact ⟨R, M', _, h1, rfl, X, h2, .inl h3⟩
theorem res3 {s : Option Sh} {i : I} (hc : cls i = 3) (h : ∃ R M' nx', K R M' nx' = true ∧ Runs P Y o s F M.get nx R M'.get nx') : ∃ R M' nx', K R M' nx' = true ∧ OpRes P Y o s F M nx R M' nx' i (cls i) := by
  obtain ⟨R, M', nx', h1, h2⟩ := h
  rw [hc]
  exact ⟨R, M', nx', h1, h2⟩
theorem argsOf {op : Op} {b : Builtin} {as : List Operand} {ts : List TypeId} (h : opArgs op = some (b, as, ts)) : op = .call { callee := .builtin b, args := as.toArray, argTypes := ts.toArray } := by
  unfold opArgs at h
  split at h
  · simp only [Option.some.injEq, Prod.mk.injEq] at h
    obtain ⟨rfl, rfl, rfl⟩ := h
    simp
  · cases h
theorem sliceEl_some {t : TypeId} (h : (sliceEl P t).isSome = true) : ∃ e, tySlice P t e = true := by
  obtain ⟨e, he⟩ := Option.isSome_iff_exists.1 h
  exact ⟨e, sliceEl_eq he⟩
theorem tyArr_of {t e : TypeId} {m : Nat} (h : P.underlying t = some (.array m e)) : tyArr P t e m = true := by simp [tyArr, h]
theorem arr_of {α : Type} {a : Array α} {l : List α} (h : a.toList = l) : a = l.toArray := by rw [← h, Array.toArray_toList]
theorem sp_mv {p : Nat} {sh : Sh} (hok : okI P Y o.op (.mv p) (some sh) = true)
    (h : K (gs F p sh.sz) M nx = true) : ∃ R M' nx', K R M' nx' = true ∧ OpRes P Y o (some sh) F M nx R M' nx' (.mv p) (cls (.mv p)) := by
  simp only [okI] at hok
  split at hok
  · rename_i x ho; exact res0 rfl ⟨_, h, fun f nx => eMv_runs (.inl ho) hok⟩
  · rename_i x ho; exact res0 rfl ⟨_, h, fun f nx => eMv_runs (.inr ho) hok⟩
  · cases hok
theorem sp_pick {c p q : Nat} {sh : Sh} (hok : okI P Y o.op (.pick c p q) (some sh) = true)
    (h : ePick F c p q sh.sz (fun R => K R M nx) = true) : ∃ R M' nx', K R M' nx' = true ∧ OpRes P Y o (some sh) F M nx R M' nx' (.pick c p q) (cls (.pick c p q)) := by
  simp only [okI] at hok
  split at hok
  · rename_i z x y ho
    simp only [Bool.and_eq_true] at hok
    exact res0 rfl (ePick_runs (k := fun R => K R M nx) ho hok.1.1 hok.1.2 hok.2 h) 
  · cases hok
theorem sp_ext {a p c : Nat} (hok : okI P Y o.op (.ext a p) (some (.val c)) = true)
    (h : eExt F a p (csz c) (fun R => K R M nx) = true) : ∃ R M' nx', K R M' nx' = true ∧ OpRes P Y o (some (.val c)) F M nx R M' nx' (.ext a p) (cls (.ext a p)) := by
  simp only [okI] at hok
  split at hok
  · rename_i x i ho
    exact res0 rfl (eExt_runs (k := fun R => K R M nx) ho hok h)
  · cases hok
theorem sp_add {t c lo hi p q : Nat} (hok : okI P Y o.op (.add t c lo hi p q) (some (.val 0)) = true)
    (h : eAdd F t c lo hi p q (fun R => K R M nx) = true) : ∃ R M' nx', K R M' nx' = true ∧ OpRes P Y o (some (.val 0)) F M nx R M' nx' (.add t c lo hi p q) (cls (.add t c lo hi p q)) := by
  simp only [okI] at hok
  split at hok
  · rename_i x y _ ho
    simp only [Bool.and_eq_true, isOp] at hok
    obtain ⟨⟨⟨⟨h1, h2⟩, h3, h4⟩, h5⟩, h6⟩ := hok
    have e1 := kOf_tg h3
    have e2 := Nat.eq_of_beq_eq_true h4
    rw [e2] at h
    rw [e1] at h
    exact res0 rfl (eAdd_runs (K := fun R => K R M nx) (k := kOf t) ho h1 h2 (Nat.eq_of_beq_eq_true h5) (Nat.eq_of_beq_eq_true h6) (by rw [← e1] at h ⊢; exact h))
  · cases hok
theorem sp_sub {t c lo hi p q : Nat} (hok : okI P Y o.op (.sub t c lo hi p q) (some (.val 0)) = true)
    (h : eSub F t c lo hi p q (fun R => K R M nx) = true) : ∃ R M' nx', K R M' nx' = true ∧ OpRes P Y o (some (.val 0)) F M nx R M' nx' (.sub t c lo hi p q) (cls (.sub t c lo hi p q)) := by
  simp only [okI] at hok
  split at hok
  · rename_i x y _ ho
    simp only [Bool.and_eq_true, isOp] at hok
    obtain ⟨⟨⟨⟨h1, h2⟩, h3, h4⟩, h5⟩, h6⟩ := hok
    have e1 := kOf_tg h3
    have e2 := Nat.eq_of_beq_eq_true h4
    rw [e2] at h
    rw [e1] at h
    exact res0 rfl (eSub_runs (K := fun R => K R M nx) (k := kOf t) ho h1 h2 (Nat.eq_of_beq_eq_true h5) (Nat.eq_of_beq_eq_true h6) (by rw [← e1] at h ⊢; exact h))
  · cases hok
theorem sp_neg {t c lo hi p : Nat} (hok : okI P Y o.op (.neg t c lo hi p) (some (.val 0)) = true)
    (h : eNeg F t c lo hi p (fun R => K R M nx) = true) : ∃ R M' nx', K R M' nx' = true ∧ OpRes P Y o (some (.val 0)) F M nx R M' nx' (.neg t c lo hi p) (cls (.neg t c lo hi p)) := by
  simp only [okI] at hok
  split at hok
  · rename_i x ho
    simp only [Bool.and_eq_true, isOp] at hok
    obtain ⟨⟨⟨h1, h3, h4⟩, h5⟩, h6⟩ := hok
    have e1 := kOf_tg h3
    have e2 := Nat.eq_of_beq_eq_true h4
    rw [e2] at h
    exact res0 rfl (eNeg_runs (K := fun R => K R M nx) (k := kOf t) ho h1 (Nat.eq_of_beq_eq_true h5) (Nat.eq_of_beq_eq_true h6) (by rw [← e1]; exact h))
  · cases hok
theorem sp_eq {t p q : Nat} (hok : okI P Y o.op (.eq t p q) (some (.val 0)) = true)
    (h : eEq F t p q (fun R => K R M nx) = true) : ∃ R M' nx', K R M' nx' = true ∧ OpRes P Y o (some (.val 0)) F M nx R M' nx' (.eq t p q) (cls (.eq t p q)) := by
  simp only [okI] at hok
  split at hok
  · rename_i x y _ ho
    simp only [Bool.and_eq_true] at hok
    obtain ⟨⟨h1, h2⟩, h3⟩ := hok
    have e1 := kOf_tg h3
    exact res0 rfl (eEq_runs (K := fun R => K R M nx) (k := kOf t) ho h1 h2 (by rw [← e1]; exact h))
  · cases hok
theorem sp_ne {t p q : Nat} (hok : okI P Y o.op (.ne t p q) (some (.val 0)) = true)
    (h : eNe F t p q (fun R => K R M nx) = true) : ∃ R M' nx', K R M' nx' = true ∧ OpRes P Y o (some (.val 0)) F M nx R M' nx' (.ne t p q) (cls (.ne t p q)) := by
  simp only [okI] at hok
  split at hok
  · rename_i x y _ ho
    simp only [Bool.and_eq_true] at hok
    obtain ⟨⟨h1, h2⟩, h3⟩ := hok
    have e1 := kOf_tg h3
    exact res0 rfl (eNe_runs (K := fun R => K R M nx) (k := kOf t) ho h1 h2 (by rw [← e1]; exact h))
  · cases hok
theorem sp_lt {t p q : Nat} (hok : okI P Y o.op (.lt t p q) (some (.val 0)) = true)
    (h : eLt F t p q (fun R => K R M nx) = true) : ∃ R M' nx', K R M' nx' = true ∧ OpRes P Y o (some (.val 0)) F M nx R M' nx' (.lt t p q) (cls (.lt t p q)) := by
  simp only [okI] at hok
  split at hok
  · rename_i x y _ ho
    simp only [Bool.and_eq_true] at hok
    obtain ⟨⟨h1, h2⟩, h3⟩ := hok
    have e1 := kOf_tg h3
    exact res0 rfl (eLt_runs (K := fun R => K R M nx) (k := kOf t) (.inl ⟨rfl, ho⟩) h1 h2 (by rw [← e1]; exact h))
  · rename_i y x _ ho
    simp only [Bool.and_eq_true] at hok
    obtain ⟨⟨h1, h2⟩, h3⟩ := hok
    have e1 := kOf_tg h3
    exact res0 rfl (eLt_runs (K := fun R => K R M nx) (k := kOf t) (.inr ⟨rfl, ho⟩) h1 h2 (by rw [← e1]; exact h))
  · cases hok
theorem sp_le {t p q : Nat} (hok : okI P Y o.op (.le t p q) (some (.val 0)) = true)
    (h : eLe F t p q (fun R => K R M nx) = true) : ∃ R M' nx', K R M' nx' = true ∧ OpRes P Y o (some (.val 0)) F M nx R M' nx' (.le t p q) (cls (.le t p q)) := by
  simp only [okI] at hok
  split at hok
  · rename_i x y _ ho
    simp only [Bool.and_eq_true] at hok
    obtain ⟨⟨h1, h2⟩, h3⟩ := hok
    have e1 := kOf_tg h3
    exact res0 rfl (eLe_runs (K := fun R => K R M nx) (k := kOf t) (.inl ⟨rfl, ho⟩) h1 h2 (by rw [← e1]; exact h))
  · rename_i y x _ ho
    simp only [Bool.and_eq_true] at hok
    obtain ⟨⟨h1, h2⟩, h3⟩ := hok
    have e1 := kOf_tg h3
    exact res0 rfl (eLe_runs (K := fun R => K R M nx) (k := kOf t) (.inr ⟨rfl, ho⟩) h1 h2 (by rw [← e1]; exact h))
  · cases hok
theorem sp_not {p : Nat} (hok : okI P Y o.op (.not p) (some (.val 0)) = true)
    (h : eNot F p (fun R => K R M nx) = true) : ∃ R M' nx', K R M' nx' = true ∧ OpRes P Y o (some (.val 0)) F M nx R M' nx' (.not p) (cls (.not p)) := by
  simp only [okI] at hok
  split at hok
  · rename_i x ho
    exact res0 rfl (eNot_runs (K := fun R => K R M nx) ho hok h)
  · cases hok
theorem sp_conv {k : IntKind} {t t' lo hi p : Nat} (hok : okI P Y o.op (.conv k t t' lo hi p) (some (.val 0)) = true)
    (h : eConv F t t' lo hi p k (fun R => K R M nx) = true) : ∃ R M' nx', K R M' nx' = true ∧ OpRes P Y o (some (.val 0)) F M nx R M' nx' (.conv k t t' lo hi p) (cls (.conv k t t' lo hi p)) := by
  simp only [okI] at hok
  split at hok
  · rename_i s d x ho
    simp only [Bool.and_eq_true] at hok
    obtain ⟨⟨⟨⟨⟨⟨h1, h2⟩, h3⟩, h4⟩, h5⟩, h6⟩, h7⟩ := hok
    have e1 := kOf_tg h2
    have e2 := Nat.eq_of_beq_eq_true h3
    obtain ⟨ds, hs⟩ := Option.isSome_iff_exists.1 h4
    split at h5
    · rename_i k' hd
      have e3 : k' = k := by simpa using h5
      subst e3
      exact res0 rfl (eConv_runs (K := fun R => K R M nx) (k := kOf t) (k' := k') ho hs hd h1 (Nat.eq_of_beq_eq_true h6) (Nat.eq_of_beq_eq_true h7) (by rw [← e1, ← e2]; exact h))
    · cases h5
  · cases hok
theorem sp_fld {p k : Nat} (hok : okI P Y o.op (.fld p k) (some (.val 0)) = true)
    (h : eFld F p k (fun R => K R M nx) = true) : ∃ R M' nx', K R M' nx' = true ∧ OpRes P Y o (some (.val 0)) F M nx R M' nx' (.fld p k) (cls (.fld p k)) := by
  simp only [okI] at hok
  split at hok
  · rename_i s x i ho
    simp only [Bool.and_eq_true] at hok
    exact res0 rfl (eFld_runs (K1 := fun R => K R M nx) ho hok.1 hok.2 h)
  · cases hok
theorem sp_nck {p : Nat} (hok : okI P Y o.op (.nck p) (some (.val 0)) = true)
    (h : eNck F p (fun R => K R M nx) = true) : ∃ R M' nx', K R M' nx' = true ∧ OpRes P Y o (some (.val 0)) F M nx R M' nx' (.nck p) (cls (.nck p)) := by
  simp only [okI] at hok
  split at hok
  · rename_i x ho
    exact res0 rfl (eNck_runs (K1 := fun R => K R M nx) ho hok h)
  · cases hok
theorem sp_ld1 {p : Nat} (hok : okI P Y o.op (.ld1 p) (some (.val 0)) = true)
    (h : need (Nat.blt (lb (gw F p)) nx) (eLd1 F M p (fun R => K R M nx)) = true) : ∃ R M' nx', K R M' nx' = true ∧ OpRes P Y o (some (.val 0)) F M nx R M' nx' (.ld1 p) (cls (.ld1 p)) := by
  simp only [okI] at hok
  split at hok
  · rename_i t x ho
    simp only [Bool.and_eq_true] at hok
    obtain ⟨hlb, h⟩ := need_iff.1 h
    exact res1 rfl ⟨(ck_iff.1 h).1, blt_of hlb⟩ ⟨x, by simp [opList, ho], hok.1⟩ (eLd1_runs (K1 := fun R => K R M nx) ho hok.1 hok.2 h)
  · cases hok
theorem sp_ldN {p m : Nat} (hok : okI P Y o.op (.ldN p) (some (.val (m + 1))) = true)
    (h : need (Nat.blt (lb (gw F p)) nx) (eLdN F M p (m + 1) (fun R => K R M nx)) = true) : ∃ R M' nx', K R M' nx' = true ∧ OpRes P Y o (some (.val (m + 1))) F M nx R M' nx' (.ldN p) (cls (.ldN p)) := by
  simp only [okI] at hok
  split at hok
  · rename_i t x ho
    simp only [Bool.and_eq_true] at hok
    obtain ⟨hlb, h⟩ := need_iff.1 h
    exact res1 rfl ⟨(ck_iff.1 h).1, blt_of hlb⟩ ⟨x, by simp [opList, ho], hok.1⟩ (eLdN_runs (K1 := fun R => K R M nx) ho hok.1 hok.2 h)
  · cases hok
theorem sp_st1 {p q : Nat} (hok : okI P Y o.op (.st1 p q) (none) = true)
    (h : eSt1 F M nx p q K = true) : ∃ R M' nx', K R M' nx' = true ∧ OpRes P Y o (none) F M nx R M' nx' (.st1 p q) (cls (.st1 p q)) := by
  simp only [okI] at hok
  split at hok
  · rename_i t x y ho
    simp only [Bool.and_eq_true] at hok
    obtain ⟨R, M', h1, h2⟩ := eSt1_runs (f := M.get) rfl ho hok.1.1 hok.1.2 hok.2 h
    exact res3 rfl ⟨R, M', nx, h1, h2⟩
  · cases hok
theorem sp_stN {p q m : Nat} (hok : okI P Y o.op (.stN p q (m + 1)) (none) = true)
    (h : eStN F M nx p q (m + 1) K = true) : ∃ R M' nx', K R M' nx' = true ∧ OpRes P Y o (none) F M nx R M' nx' (.stN p q (m + 1)) (cls (.stN p q (m + 1))) := by
  simp only [okI] at hok
  split at hok
  · rename_i n t x y hm ho
    have hm : m = n := Nat.succ.inj hm
    subst hm
    simp only [Bool.and_eq_true] at hok
    obtain ⟨R, M', h1, h2⟩ := eStN_runs (n := m) (f := M.get) rfl ho hok.1.1 hok.1.2 hok.2 h
    exact res3 rfl ⟨R, M', nx, h1, h2⟩
  · cases hok
theorem sp_bx1 {T q : Nat} (hok : okI P Y o.op (.bx1 T q) (some (.val 0)) = true)
    (h : nz (gw F q) (iff' (Nat.beq (gw F q) 9) false (eNew M nx T (gw F q) K)) = true) : ∃ R M' nx', K R M' nx' = true ∧ OpRes P Y o (some (.val 0)) F M nx R M' nx' (.bx1 T q) (cls (.bx1 T q)) := by
  simp only [okI] at hok
  split at hok
  · rename_i T' x ho
    simp only [Bool.and_eq_true] at hok
    obtain ⟨⟨⟨h1, h2⟩, h3⟩, h4⟩ := hok
    have e := Nat.eq_of_beq_eq_true h1
    subst e
    exact res2 rfl (eBx1_runs ho h2 h3 (blt_of h4) h)
  · cases hok
theorem sp_bxN {T q m : Nat} (hok : okI P Y o.op (.bxN T q (m + 1)) (some (.val 0)) = true)
    (h : nz (gw F q) (eNew M nx T (gs F (Nat.succ q) (m + 1)) K) = true) : ∃ R M' nx', K R M' nx' = true ∧ OpRes P Y o (some (.val 0)) F M nx R M' nx' (.bxN T q (m + 1)) (cls (.bxN T q (m + 1))) := by
  simp only [okI] at hok
  split at hok
  · rename_i n T' x hm ho
    have hm : m = n := Nat.succ.inj hm
    subst hm
    simp only [Bool.and_eq_true] at hok
    obtain ⟨⟨⟨h1, h2⟩, h3⟩, h4⟩ := hok
    have e := Nat.eq_of_beq_eq_true h1
    subst e
    exact res2 rfl (eBxN_runs (n := m) ho h2 h3 (blt_of h4) h)
  · cases hok
theorem sp_al {T q m : Nat} (hok : okI P Y o.op (.al T q m) (some (.val 0)) = true)
    (h : eNew M nx T (gs F q m) K = true) : ∃ R M' nx', K R M' nx' = true ∧ OpRes P Y o (some (.val 0)) F M nx R M' nx' (.al T q m) (cls (.al T q m)) := by
  simp only [okI] at hok
  split at hok
  · rename_i T' ho
    simp only [Bool.and_eq_true] at hok
    obtain ⟨⟨⟨h1, h2⟩, h3⟩, h4⟩ := hok
    have e := Nat.eq_of_beq_eq_true h1
    subst e
    split at h2
    · rename_i v hz
      simp only [Bool.and_eq_true] at h2
      obtain ⟨⟨h5, h6⟩, h7⟩ := h2
      exact res2 rfl (eAl_runs ho hz (ble_of h5) h6 (Nat.eq_of_beq_eq_true h7) h3 (blt_of h4) h)
    · cases h2
  · cases hok
theorem sp_len {p : Nat} (hok : okI P Y o.op (.len p) (some (.val 0)) = true)
    (h : eLen F p (fun R => K R M nx) = true) : ∃ R M' nx', K R M' nx' = true ∧ OpRes P Y o (some (.val 0)) F M nx R M' nx' (.len p) (cls (.len p)) := by
  simp only [okI] at hok
  split at hok
  · rename_i x t ho
    simp only [Bool.and_eq_true] at hok
    obtain ⟨e, he⟩ := sliceEl_some hok.2
    exact res0 rfl (eLen_runs (K1 := fun R => K R M nx) (argsOf ho) rfl rfl hok.1 he h)
  · cases hok
theorem sp_idx {p q t sz : Nat} (hok : okI P Y o.op (.idx p q t sz) (some (.val 0)) = true)
    (h : eIdx F p q t sz (fun R => K R M nx) = true) : ∃ R M' nx', K R M' nx' = true ∧ OpRes P Y o (some (.val 0)) F M nx R M' nx' (.idx p q t sz) (cls (.idx p q t sz)) := by
  simp only [okI] at hok
  split at hok
  · rename_i s x y ho
    simp only [Bool.and_eq_true] at hok
    obtain ⟨⟨⟨h1, h2⟩, h3⟩, h4⟩ := hok
    have e1 := kOf_tg h3
    split at h4
    · rename_i e he
      exact res0 rfl (eIdx_runs (K1 := fun R => K R M nx) (k := kOf t) ho h1 h2 (sliceEl_eq he) h4 (by rw [← e1]; exact h))
    · cases h4
  · cases hok
theorem sp_idA {p q t m sz : Nat} (hok : okI P Y o.op (.idA p q t m sz) (some (.val 0)) = true)
    (h : eIdA F p q t m sz (fun R => K R M nx) = true) : ∃ R M' nx', K R M' nx' = true ∧ OpRes P Y o (some (.val 0)) F M nx R M' nx' (.idA p q t m sz) (cls (.idA p q t m sz)) := by
  simp only [okI] at hok
  split at hok
  · rename_i s x y ho
    simp only [Bool.and_eq_true] at hok
    obtain ⟨⟨⟨h1, h2⟩, h3⟩, h4⟩ := hok
    have e1 := kOf_tg h3
    split at h4
    · rename_i m' e he
      rw [Bool.and_eq_true] at h4
      have e2 := Nat.eq_of_beq_eq_true h4.1
      subst e2
      exact res0 rfl (eIdA_runs (K1 := fun R => K R M nx) (k := kOf t) (e := e) (n := m') ho h1 h2 (by simp [tyArr, he]) h4.2 (by rw [← e1]; exact h))
    · cases h4
  · cases hok
theorem sp_nil {p a b c d z : Nat} (hok : okI P Y o.op (.nil p a b c d z) (some (.val 0)) = true)
    (h : eNil F p a b c d z (fun R => K R M nx) = true) : ∃ R M' nx', K R M' nx' = true ∧ OpRes P Y o (some (.val 0)) F M nx R M' nx' (.nil p a b c d z) (cls (.nil p a b c d z)) := by
  simp only [okI] at hok
  split at hok
  · rename_i op t x _ ho
    simp only [Bool.and_eq_true] at hok
    obtain ⟨⟨⟨⟨⟨⟨h1, h2⟩, h3⟩, h4⟩, h5⟩, h6⟩, h7⟩ := hok
    have e1 := Nat.eq_of_beq_eq_true h3
    have e2 := Nat.eq_of_beq_eq_true h4
    have e3 := Nat.eq_of_beq_eq_true h5
    have e4 := Nat.eq_of_beq_eq_true h6
    subst e1 e2 e3 e4
    split at h2
    · rename_i el hu
      have hz : (op = .eql ∨ op = .neq) ∧ z = if op = .eql then 43 else 11 := by
        split at h7
        · exact ⟨.inl rfl, by rw [if_pos rfl]; exact Nat.eq_of_beq_eq_true h7⟩
        · exact ⟨.inr rfl, by rw [if_neg (by decide)]; exact Nat.eq_of_beq_eq_true h7⟩
        · cases h7
      exact res0 rfl (eNilP_runs (K1 := fun R => K R M nx) ho hz.1 h1 hu hz.2 h)
    · cases h2
  · rename_i op t x _ ho
    simp only [Bool.and_eq_true] at hok
    obtain ⟨⟨⟨⟨⟨⟨h1, h2⟩, h3⟩, h4⟩, h5⟩, h6⟩, h7⟩ := hok
    have e1 := Nat.eq_of_beq_eq_true h3
    have e2 := Nat.eq_of_beq_eq_true h4
    have e3 := Nat.eq_of_beq_eq_true h5
    have e4 := Nat.eq_of_beq_eq_true h6
    subst e1 e2 e3 e4
    obtain ⟨e, he⟩ := sliceEl_some h2
    have hz : (op = .eql ∨ op = .neq) ∧ z = if op = .eql then 43 else 11 := by
      split at h7
      · exact ⟨.inl rfl, by rw [if_pos rfl]; exact Nat.eq_of_beq_eq_true h7⟩
      · exact ⟨.inr rfl, by rw [if_neg (by decide)]; exact Nat.eq_of_beq_eq_true h7⟩
      · cases h7
    exact res0 rfl (eNilS_runs (K1 := fun R => K R M nx) ho hz.1 h1 he hz.2 h)
  · cases hok
theorem sp_slc {p sz : Nat} {lo hi : Option (Nat × Nat)} (hok : okI P Y o.op (.slc p lo hi sz) (some (.val 0)) = true)
    (h : eSlc F M nx p lo hi sz K = true) : ∃ R M' nx', K R M' nx' = true ∧ OpRes P Y o (some (.val 0)) F M nx R M' nx' (.slc p lo hi sz) (cls (.slc p lo hi sz)) := by
  simp only [okI] at hok
  split at hok
  · rename_i t x L H ho
    simp only [Bool.and_eq_true] at hok
    obtain ⟨⟨⟨h1, h2⟩, h3⟩, h4⟩ := hok
    split at h4
    · rename_i e he
      exact res3 rfl (eSlc_runs (f := M.get) rfl ho h1 h2 h3 (sliceEl_eq he) h4 h)
    · cases h4
  · cases hok
theorem sp_app {p q sz T : Nat} (hok : okI P Y o.op (.app p q sz T) (some (.val 0)) = true)
    (h : eApw F M nx p q sz T K = true) : ∃ R M' nx', K R M' nx' = true ∧ OpRes P Y o (some (.val 0)) F M nx R M' nx' (.app p q sz T) (cls (.app p q sz T)) := by
  simp only [okI] at hok
  split at hok
  · rename_i x y t tx ho
    simp only [Bool.and_eq_true] at hok
    obtain ⟨⟨⟨⟨h1, h2⟩, h3⟩, h4⟩, h5⟩ := hok
    split at h3
    · rename_i e he
      simp only [Bool.and_eq_true] at h3
      obtain ⟨⟨⟨⟨⟨g1, g2⟩, g3⟩, g4⟩, g5⟩, g6⟩ := h3
      have e1 := Nat.eq_of_beq_eq_true g1
      subst e1
      obtain ⟨e', he'⟩ := sliceEl_some h4
      exact res3 rfl (eApw_runs (f := M.get) rfl (argsOf ho) rfl rfl h1 h2 (sliceEl_eq he) he' g2 g3 (blt_of h5) g4 (blt_of g5) (ble_of g6) h)
    · cases h3
  · cases hok
theorem sp_bld {q m n : Nat} {ps : List (Nat × Nat × Nat)} (hok : okI P Y o.op (.bld q m ps) (some (.val (n + 1))) = true)
    (h : eFill F ps (gs F q m) (fun X => K (wcons 1 X) M nx) = true) : ∃ R M' nx', K R M' nx' = true ∧ OpRes P Y o (some (.val (n + 1))) F M nx R M' nx' (.bld q m ps) (cls (.bld q m ps)) := by
  simp only [okI] at hok
  split at hok
  · rename_i t parts ho
    simp only [Bool.and_eq_true] at hok
    obtain ⟨⟨h1, h2⟩, h3⟩ := hok
    have e1 := Nat.eq_of_beq_eq_true h1
    subst e1
    unfold partsOk at h2
    split at h2
    · rename_i fs hu
      rw [Bool.and_eq_true] at h2
      split at h3
      · rename_i v hz
        simp only [Bool.and_eq_true] at h3
        obtain ⟨⟨g1, g2⟩, g3⟩ := h3
        exact res0 rfl (eBld_runs (K1 := fun R => K R M nx) (parts := parts.toList) (by simpa using ho) hu h2.1 hz (ble_of g1) g2 (Nat.eq_of_beq_eq_true g3) h2.2 h)
      · cases h3
    · rename_i len el hu
      rw [Bool.and_eq_true] at h2
      split at h3
      · rename_i v hz
        simp only [Bool.and_eq_true] at h3
        obtain ⟨⟨g1, g2⟩, g3⟩ := h3
        exact res0 rfl (eBldA_runs (K1 := fun R => K R M nx) (parts := parts.toList) (by simpa using ho) hu h2.1 hz (ble_of g1) g2 (Nat.eq_of_beq_eq_true g3) h2.2 h)
      · cases h3
    · cases h2
  · cases hok
theorem sp_blS {T n : Nat} {ps : List (Nat × Nat × Nat)} (hok : okI P Y o.op (.blS T n ps) (some (.val 0)) = true)
    (h : eFill F ps 0 (fun X => need (Nat.blt nx 16777216) (force (mkx T X) fun x => M.put x nx fun M => force (Nat.succ nx) fun j => K (slw 15 nx 0 n n) M j)) = true) : ∃ R M' nx', K R M' nx' = true ∧ OpRes P Y o (some (.val 0)) F M nx R M' nx' (.blS T n ps) (cls (.blS T n ps)) := by
  simp only [okI] at hok
  split at hok
  · rename_i t m parts ho
    simp only [Bool.and_eq_true] at hok
    obtain ⟨h1, h2⟩ := hok
    have e1 := Nat.eq_of_beq_eq_true h1
    subst e1
    split at h2
    · rename_i e he
      simp only [Bool.and_eq_true] at h2
      obtain ⟨⟨g1, g2⟩, g3⟩ := h2
      have e2 := Nat.eq_of_beq_eq_true g1
      subst e2
      split at g2
      · rename_i z hz
        simp only [Bool.and_eq_true] at g2
        obtain ⟨⟨⟨⟨⟨b1, b2⟩, b3⟩, b4⟩, b5⟩, b6⟩ := g2
        exact res2 rfl (eBlS_runs (parts := parts.toList) (by simpa using ho) (sliceEl_eq he) b1 hz (fun u hu => List.all_eq_true.1 b2 u hu) rfl (blt_of g3) (blt_of b3) b4 b5 b6 h)
      · cases g2
    · cases h2
  · cases hok
theorem sp_nn {g : BinOp} {t1 t2 c1 c2 m hi b l p q : Nat} (hok : okI P Y o.op (.nn g t1 t2 c1 c2 m hi b l p q) (some (.val 0)) = true)
    (h : eYtkmfmbdgipbaaaaR (gOf g) F t1 t2 c1 c2 m hi b l p q (fun R => K R M nx) = true) : ∃ R M' nx', K R M' nx' = true ∧ OpRes P Y o (some (.val 0)) F M nx R M' nx' (.nn g t1 t2 c1 c2 m hi b l p q) (cls (.nn g t1 t2 c1 c2 m hi b l p q)) := by
  simp only [okI] at hok
  split at hok
  · rename_i h' _ x y _ ho
    simp only [Bool.and_eq_true, isOp] at hok
    obtain ⟨⟨⟨⟨⟨⟨⟨h1, h2⟩, h3, h4⟩, h5, h6⟩, h7⟩, h8⟩, h9⟩, h10⟩ := hok
    have e1 := kOf_tg h3
    have e2 := kOf_tg h5
    have c1e := Nat.eq_of_beq_eq_true h4
    have c2e := Nat.eq_of_beq_eq_true h6
    have me := Nat.eq_of_beq_eq_true h7
    have he := Nat.eq_of_beq_eq_true h8
    have le : w0 (kOf t2) ≤ l := by rw [← c2e]; exact ble_of h9
    have hh : eYtkmfmbdgipbaaaaR (gOf g) F (tg (kOf t1)) (tg (kOf t2)) (w0 (kOf t1)) (w0 (kOf t2)) (kmod (kOf t1)) hi b l p q (fun R => K R M nx) = true := by rw [← e1, ← e2, ← c1e, ← c2e, ← me]; exact h
    have hc2 : c2 = 590295810358705651712 + tg (kOf t2) := c2e
    split at h10
    · have e3 := Nat.eq_of_beq_eq_true h10
      refine res0 rfl (eYtkmfmbdgipbaaaaR_runs (K := fun R => K R M nx) ho h1 h2 he le (fun n1 n2 w a1 a2 a3 a4 => ?_) hh)
      rw [← e3] 
      exact nn_mul n1 n2 w a4
    · have e3 := Nat.eq_of_beq_eq_true h10
      refine res0 rfl (eYtkmfmbdgipbaaaaR_runs (K := fun R => K R M nx) ho h1 h2 he le (fun n1 n2 w a1 a2 a3 a4 => ?_) hh)
      rw [← e3] 
      exact nn_addu n1 n2 w a4
    · rw [Bool.and_eq_true] at h10
      have e3 := Nat.eq_of_beq_eq_true h10.1
      have e4 := Nat.eq_of_beq_eq_true h10.2
      refine res0 rfl (eYtkmfmbdgipbaaaaR_runs (K := fun R => K R M nx) ho h1 h2 he le (fun n1 n2 w a1 a2 a3 a4 => ?_) hh)
      have hn2 : n2 ≠ 0 := by omega
      rw [← e3]
      exact nn_quo n1 n2 w hn2 a4
    · rw [Bool.and_eq_true] at h10
      have e3 := Nat.eq_of_beq_eq_true h10.1
      have e4 := Nat.eq_of_beq_eq_true h10.2
      refine res0 rfl (eYtkmfmbdgipbaaaaR_runs (K := fun R => K R M nx) ho h1 h2 he le (fun n1 n2 w a1 a2 a3 a4 => ?_) hh)
      have hn2 : n2 ≠ 0 := by omega
      rw [← e3]
      exact nn_rem n1 n2 w hn2 a1
    · rw [Bool.and_eq_true] at h10
      have e3 := Nat.eq_of_beq_eq_true h10.1
      have e4 := Nat.eq_of_beq_eq_true h10.2
      refine res0 rfl (eYtkmfmbdgipbaaaaR_runs (K := fun R => K R M nx) ho h1 h2 he le (fun n1 n2 w a1 a2 a3 a4 => ?_) hh)
      have hk := kbounds (kOf t1)
      have hn2 : (n2 : Int) ≤ (kOf t1).max := by
        rw [e4, he, wi_eq] at a3
        have : tg (kOf t2) = tg (kOf t1) := by rw [← e1, ← e2, e3]
        omega
      rw [← e3]
      exact (nn_bits n1 n2 w a1 hn2).1 a4
    · rw [Bool.and_eq_true] at h10
      have e3 := Nat.eq_of_beq_eq_true h10.1
      have e4 := Nat.eq_of_beq_eq_true h10.2
      refine res0 rfl (eYtkmfmbdgipbaaaaR_runs (K := fun R => K R M nx) ho h1 h2 he le (fun n1 n2 w a1 a2 a3 a4 => ?_) hh)
      have hk := kbounds (kOf t1)
      have hn2 : (n2 : Int) ≤ (kOf t1).max := by
        rw [e4, he, wi_eq] at a3
        have : tg (kOf t2) = tg (kOf t1) := by rw [← e1, ← e2, e3]
        omega
      rw [← e3]
      exact (nn_bits n1 n2 w a1 hn2).2.1 a4
    · rw [Bool.and_eq_true] at h10
      have e3 := Nat.eq_of_beq_eq_true h10.1
      have e4 := Nat.eq_of_beq_eq_true h10.2
      refine res0 rfl (eYtkmfmbdgipbaaaaR_runs (K := fun R => K R M nx) ho h1 h2 he le (fun n1 n2 w a1 a2 a3 a4 => ?_) hh)
      have hk := kbounds (kOf t1)
      have hn2 : (n2 : Int) ≤ (kOf t1).max := by
        rw [e4, he, wi_eq] at a3
        have : tg (kOf t2) = tg (kOf t1) := by rw [← e1, ← e2, e3]
        omega
      rw [← e3]
      exact (nn_bits n1 n2 w a1 hn2).2.2 a4
    · have e4 := Nat.eq_of_beq_eq_true h10
      refine res0 rfl (eYtkmfmbdgipbaaaaR_runs (K := fun R => K R M nx) ho h1 h2 he le (fun n1 n2 w a1 a2 a3 a4 => ?_) hh)
      have hn2 : n2 ≤ (kOf t1).bits := by omega
      exact nn_shl n1 n2 w hn2 a4
    · have e4 := Nat.eq_of_beq_eq_true h10
      refine res0 rfl (eYtkmfmbdgipbaaaaR_runs (K := fun R => K R M nx) ho h1 h2 he le (fun n1 n2 w a1 a2 a3 a4 => ?_) hh)
      have hn2 : n2 ≤ (kOf t1).bits := by omega
      exact nn_shr n1 n2 w hn2 a1
    · cases h10
  · cases hok
theorem sp_ir {g : BinOp} {k : IntKind} {t lo hi p q : Nat} (hok : okI P Y o.op (.ir g k t lo hi p q) (some (.val 0)) = true)
    (h : eIR g k F t lo hi p q (fun R => K R M nx) = true) : ∃ R M' nx', K R M' nx' = true ∧ OpRes P Y o (some (.val 0)) F M nx R M' nx' (.ir g k t lo hi p q) (cls (.ir g k t lo hi p q)) := by
  simp only [okI] at hok
  split at hok
  · rename_i b ty x y _ ho
    simp only [Bool.and_eq_true] at hok
    obtain ⟨⟨⟨⟨⟨h1, h2⟩, h3⟩, h4⟩, h5⟩, h6⟩ := hok
    have e1 := Nat.eq_of_beq_eq_true h3
    subst e1
    have hg : b = g ∧ (g = .mul ∨ g = .quo ∨ g = .rem) := by
      split at h6 <;> first | exact ⟨rfl, by simp⟩ | cases h6
    obtain ⟨rfl, hg⟩ := hg
    exact res0 rfl (eIR_runs (K := fun R => K R M nx) hg ho h1 h2 (Nat.eq_of_beq_eq_true h4) (Nat.eq_of_beq_eq_true h5) h)
  · cases hok
theorem sp_mm {mx : Bool} {t p q : Nat} (hok : okI P Y o.op (.mm mx t p q) (some (.val 0)) = true)
    (h : eMM mx F t p q (fun R => K R M nx) = true) : ∃ R M' nx', K R M' nx' = true ∧ OpRes P Y o (some (.val 0)) F M nx R M' nx' (.mm mx t p q) (cls (.mm mx t p q)) := by
  simp only [okI] at hok
  split at hok
  · rename_i b x y ts ho
    simp only [Bool.and_eq_true] at hok
    obtain ⟨⟨⟨h1, h2⟩, h3⟩, h4⟩ := hok
    have e1 := kOf_tg h3
    have hb : b = if mx then .max else .min := by
      split at h4 <;> first | rfl | cases h4
    have ho := argsOf ho
    rw [hb] at ho
    exact res0 rfl (eMM_runs (K := fun R => K R M nx) (k := kOf t) ho rfl h1 h2 (by rw [← e1]; exact h))
  · cases hok
theorem sp_bq {ne : Bool} {p q : Nat} (hok : okI P Y o.op (.bq ne p q) (some (.val 0)) = true)
    (h : eBq ne F p q (fun R => K R M nx) = true) : ∃ R M' nx', K R M' nx' = true ∧ OpRes P Y o (some (.val 0)) F M nx R M' nx' (.bq ne p q) (cls (.bq ne p q)) := by
  simp only [okI] at hok
  split at hok
  · rename_i b ty x y _ ho
    simp only [Bool.and_eq_true] at hok
    obtain ⟨⟨⟨h1, h2⟩, h3⟩, h4⟩ := hok
    have hb : b = if ne then .neq else .eql := by
      split at h4 <;> first | rfl | cases h4
    rw [hb] at ho
    have ht : P.underlying ty = some .bool := by
      split at h3 <;> first | assumption | cases h3
    exact res0 rfl (eBq_runs (K := fun R => K R M nx) ho ht h1 h2 h)
  · cases hok
theorem sp_eqA {ne : Bool} {m p q : Nat} {l : List (Nat × Nat × Nat)} (hok : okI P Y o.op (.eqA ne m p q l) (some (.val 0)) = true)
    (h : eEqS ne F p q l (fun R => K R M nx) = true) : ∃ R M' nx', K R M' nx' = true ∧ OpRes P Y o (some (.val 0)) F M nx R M' nx' (.eqA ne m p q l) (cls (.eqA ne m p q l)) := by
  simp only [okI] at hok
  split at hok
  · rename_i b ty x y _ ho
    simp only [Bool.and_eq_true] at hok
    obtain ⟨⟨⟨h1, h2⟩, h3⟩, h4⟩ := hok
    have hb : b = if ne then .neq else .eql := by
      split at h4 <;> first | rfl | cases h4
    rw [hb] at ho
    split at h3
    · rename_i ks hks
      simp only [Bool.and_eq_true] at h3
      exact res0 rfl (eEqS_runs (K := fun R => K R M nx) (Nat.eq_of_beq_eq_true h3.1.2) ho h3.1.1 h1 h2 h3.2 h)
    · cases h3
  · cases hok
theorem sp_slp {p : Nat} {lo hi : Option (Nat × Nat)} {sz : Nat} (hok : okI P Y o.op (.slp p lo hi sz) (some (.val 0)) = true)
    (h : eSlp F p lo hi sz (fun R => K R M nx) = true) : ∃ R M' nx', K R M' nx' = true ∧ OpRes P Y o (some (.val 0)) F M nx R M' nx' (.slp p lo hi sz) (cls (.slp p lo hi sz)) := by
  simp only [okI] at hok
  split at hok
  · rename_i ty x L H ho
    simp only [Bool.and_eq_true] at hok
    obtain ⟨⟨⟨h1, h2⟩, h3⟩, h4⟩ := hok
    split at h4
    · rename_i e he
      exact res0 rfl (eSlp_runs (K1 := fun R => K R M nx) ho h1 h2 h3 (sliceEl_eq he) h4 h)
    · cases h4
  · cases hok
theorem sp_cap {p : Nat} (hok : okI P Y o.op (.cap p) (some (.val 0)) = true)
    (h : eCap F p (fun R => K R M nx) = true) : ∃ R M' nx', K R M' nx' = true ∧ OpRes P Y o (some (.val 0)) F M nx R M' nx' (.cap p) (cls (.cap p)) := by
  simp only [okI] at hok
  split at hok
  · rename_i x ty ho
    simp only [Bool.and_eq_true] at hok
    obtain ⟨e, he⟩ := sliceEl_some hok.2
    exact res0 rfl (eCap_runs (K1 := fun R => K R M nx) (argsOf ho) rfl rfl hok.1 he h)
  · cases hok
theorem sp_slA {p : Nat} {lo hi : Option (Nat × Nat)} {m sz : Nat} (hok : okI P Y o.op (.slA p lo hi m sz) (some (.val 0)) = true)
    (h : eSlA F p lo hi m sz (fun R => K R M nx) = true) : ∃ R M' nx', K R M' nx' = true ∧ OpRes P Y o (some (.val 0)) F M nx R M' nx' (.slA p lo hi m sz) (cls (.slA p lo hi m sz)) := by
  simp only [okI] at hok
  split at hok
  · rename_i ty x L H ho
    simp only [Bool.and_eq_true] at hok
    obtain ⟨⟨⟨h1, h2⟩, h3⟩, h4⟩ := hok
    split at h4
    · rename_i m' e he
      rw [Bool.and_eq_true] at h4
      have e1 := Nat.eq_of_beq_eq_true h4.1
      subst e1
      exact res0 rfl (eSlA_runs (K1 := fun R => K R M nx) ho h1 h2 h3 (tyArr_of he) h4.2 h)
    · cases h4
  · cases hok
theorem sp_toA {p m : Nat} (hok : okI P Y o.op (.toA p m) (some (.val 0)) = true)
    (h : eToA F p m (fun R => K R M nx) = true) : ∃ R M' nx', K R M' nx' = true ∧ OpRes P Y o (some (.val 0)) F M nx R M' nx' (.toA p m) (cls (.toA p m)) := by
  simp only [okI] at hok
  split at hok
  · rename_i ty x ho
    simp only [Bool.and_eq_true] at hok
    obtain ⟨h1, h4⟩ := hok
    split at h4
    · rename_i m' e he
      have e1 := Nat.eq_of_beq_eq_true h4
      subst e1
      exact res0 rfl (eToA_runs (K1 := fun R => K R M nx) ho h1 (tyArr_of he) h)
    · cases h4
  · cases hok
theorem sp_mki {p T : Nat} (hok : okI P Y o.op (.mki p T) (some (.val 0)) = true)
    (h : eMkI F p T (fun R => K R M nx) = true) : ∃ R M' nx', K R M' nx' = true ∧ OpRes P Y o (some (.val 0)) F M nx R M' nx' (.mki p T) (cls (.mki p T)) := by
  simp only [okI] at hok
  split at hok
  · rename_i T' x ho
    simp only [Bool.and_eq_true] at hok
    obtain ⟨⟨⟨h1, h2⟩, h3⟩, h4⟩ := hok
    have e1 := Nat.eq_of_beq_eq_true h1
    subst e1
    split at h3
    · rename_i el he
      exact res0 rfl (eMkI_runs (K1 := fun R => K R M nx) ho h2 he (blt_of h4) h)
    · cases h3
  · cases hok
theorem sp_mth {p T nm : Nat} (hok : okI P Y o.op (.mth p T nm) (some (.val 0)) = true)
    (h : eMth F p T nm (fun R => K R M nx) = true) : ∃ R M' nx', K R M' nx' = true ∧ OpRes P Y o (some (.val 0)) F M nx R M' nx' (.mth p T nm) (cls (.mth p T nm)) := by
  simp only [okI] at hok
  split at hok
  · rename_i name xs cs ho
    simp only [Bool.and_eq_true] at hok
    obtain ⟨h1, h4⟩ := hok
    split at h1
    · rename_i x hx hc
      rw [Bool.and_eq_true] at h1
      have e1 : name = mthName nm := by simpa using h1.2
      rw [arr_of hx, arr_of hc, e1] at ho
      exact res0 rfl (eMth_runs (K1 := fun R => K R M nx) ho h1.1 (blt_of h4) h)
    · cases h1
  · cases hok
theorem sp_nkm {p T nm f : Nat} (hok : okI P Y o.op (.nkm p T nm f) (some (.val 0)) = true)
    (h : eNkm F p T nm (fun R => K R M nx) = true) : ∃ R M' nx', K R M' nx' = true ∧ OpRes P Y o (some (.val 0)) F M nx R M' nx' (.nkm p T nm f) (cls (.nkm p T nm f)) := by
  simp only [okI] at hok
  split at hok
  · rename_i x ho
    simp only [Bool.and_eq_true] at hok
    exact res0 rfl (eNkm_runs (K1 := fun R => K R M nx) ho hok.1 hok.2 h)
  · cases hok
theorem sp_mkf {p f : Nat} (hok : okI P Y o.op (.mkf p f) (some (.val 0)) = true)
    (h : eMkf F p f (fun R => K R M nx) = true) : ∃ R M' nx', K R M' nx' = true ∧ OpRes P Y o (some (.val 0)) F M nx R M' nx' (.mkf p f) (cls (.mkf p f)) := by
  simp only [okI] at hok
  split at hok
  · rename_i g xs cs ho
    simp only [Bool.and_eq_true] at hok
    obtain ⟨⟨h1, h2⟩, h4⟩ := hok
    have e1 := Nat.eq_of_beq_eq_true h2
    subst e1
    split at h1
    · rename_i x hx hc
      rw [arr_of hx, arr_of hc] at ho
      exact res0 rfl (eMkf_runs (K1 := fun R => K R M nx) ho h1 (blt_of h4) h)
    · cases h1
  · cases hok
theorem sp_mn3 {t p q r : Nat} (hok : okI P Y o.op (.mn3 t p q r) (some (.val 0)) = true)
    (h : eMn3 F t p q r (fun R => K R M nx) = true) : ∃ R M' nx', K R M' nx' = true ∧ OpRes P Y o (some (.val 0)) F M nx R M' nx' (.mn3 t p q r) (cls (.mn3 t p q r)) := by
  simp only [okI] at hok
  split at hok
  · rename_i x y z ts ho
    simp only [Bool.and_eq_true] at hok
    obtain ⟨⟨⟨h1, h2⟩, h3⟩, h4⟩ := hok
    have e1 := kOf_tg h4
    exact res0 rfl (eMn3_runs (K1 := fun R => K R M nx) (k := kOf t) (argsOf ho) rfl h1 h2 h3 (by rw [← e1]; exact h))
  · cases hok
theorem sp_mkS {p t q t' z sz bytes T : Nat} (hok : okI P Y o.op (.mkS p t q t' z sz bytes T) (some (.val 0)) = true)
    (h : eMkS F M nx p t q t' z sz bytes T K = true) : ∃ R M' nx', K R M' nx' = true ∧ OpRes P Y o (some (.val 0)) F M nx R M' nx' (.mkS p t q t' z sz bytes T) (cls (.mkS p t q t' z sz bytes T)) := by
  simp only [okI] at hok
  split at hok
  · rename_i ty X Z ho
    simp only [Bool.and_eq_true] at hok
    obtain ⟨⟨⟨⟨h1, h2⟩, h3⟩, h4⟩, h5⟩ := hok
    split at h3
    · rename_i e he
      simp only [Bool.and_eq_true] at h3
      obtain ⟨⟨⟨⟨⟨g1, g2⟩, g3⟩, g4⟩, g5⟩, g6⟩ := h3
      have e1 := Nat.eq_of_beq_eq_true g1
      subst e1
      split at g2
      · rename_i zv hz
        rw [Bool.and_eq_true] at g2
        exact res2 rfl (eMkS_runs ho h1 h2 (sliceEl_eq he) hz (ble_of h4) g2.1 (Nat.eq_of_beq_eq_true g2.2) g3 g4 g5 (blt_of h5) (blt_of g6) h)
      · cases g2
    · cases h3
  · cases hok
theorem sp_mkM {kc vc : Nat} (hok : okI P Y o.op (.mkM kc vc) (some (.val 0)) = true)
    (h : eMkM M nx (Nat.add (Nat.mul kc 65536) (Nat.mul vc 4294967296)) K = true) : ∃ R M' nx', K R M' nx' = true ∧ OpRes P Y o (some (.val 0)) F M nx R M' nx' (.mkM kc vc) (cls (.mkM kc vc)) := by
  simp only [okI] at hok
  split at hok
  · rename_i ty ho
    simp only [Bool.and_eq_true] at hok
    exact res2 rfl (eMkM_runs ho (blt_of hok.1) (blt_of hok.2) h)
  · cases hok
theorem sp_bl0 {T : Nat} (hok : okI P Y o.op (.bl0 T) (some (.val 0)) = true)
    (h : need (Nat.blt nx 16777216) (force (mkx T 0) fun x => M.put x nx fun M => force (Nat.succ nx) fun n => K (slw 15 nx 0 0 0) M n) = true) : ∃ R M' nx', K R M' nx' = true ∧ OpRes P Y o (some (.val 0)) F M nx R M' nx' (.bl0 T) (cls (.bl0 T)) := by
  simp only [okI] at hok
  split at hok
  · rename_i ty m parts ho
    simp only [Bool.and_eq_true] at hok
    obtain ⟨⟨h1, h2⟩, h3⟩ := hok
    have e1 := Nat.eq_of_beq_eq_true h1
    subst e1
    have e2 : parts = #[] := by
      have : parts.toList = [] := by simpa using h2
      rw [arr_of this]
    subst e2
    split at h3
    · rename_i e he
      simp only [Bool.and_eq_true] at h3
      have e3 := Nat.eq_of_beq_eq_true h3.1.1
      subst e3
      exact res2 rfl (eBl0_runs ho (sliceEl_eq he) h3.1.2 (blt_of h3.2) h)
    · cases h3
  · cases hok
theorem sp_b2s {p : Nat} (hok : okI P Y o.op (.b2s p) (some (.val 0)) = true)
    (h : eB2s F M nx p K = true) : ∃ R M' nx', K R M' nx' = true ∧ OpRes P Y o (some (.val 0)) F M nx R M' nx' (.b2s p) (cls (.b2s p)) := by
  simp only [okI] at hok
  split at hok
  · rename_i s ty x ho
    simp only [Bool.and_eq_true] at hok
    obtain ⟨⟨h1, h2⟩, h3⟩ := hok
    split at h2
    · rename_i e he
      split at h2
      · rename_i hu
        split at h3
        · rename_i ht
          obtain ⟨R, M', X, r1, r2, r3⟩ := eB2s_runs ho h1 (sliceEl_eq he) hu ht h
          refine ⟨R, M', _, r1, rfl, X, r2, ?_⟩
          rcases r3 with r3 | ⟨r3, r4, r5⟩
          · exact .inl r3
          · exact .inr ⟨rfl, r3, r4, ⟨x, by simp [opList, ho], h1⟩, r5⟩
        · cases h3
      · cases h2
    · cases h2
  · cases hok
theorem sp_lk {p q kc vc z vc' : Nat} {tags : List Nat} (hok : okI P Y o.op (.lk p q kc vc tags z) (some (.tup [vc', 0])) = true)
    (h : eLk F M p q kc vc tags z true (fun R => K R M nx) = true) : ∃ R M' nx', K R M' nx' = true ∧ OpRes P Y o (some (.tup [vc', 0])) F M nx R M' nx' (.lk p q kc vc tags z) (cls (.lk p q kc vc tags z)) := by
  simp only [okI] at hok
  split at hok
  · rename_i ty x y ho
    simp only [Bool.and_eq_true] at hok
    obtain ⟨⟨⟨⟨⟨⟨h0, h1⟩, h2⟩, h3⟩, h4⟩, h5⟩, h6⟩ := hok
    have e0 := Nat.eq_of_beq_eq_true h0
    subst e0
    split at h3
    · rename_i kt et hu
      rw [Bool.and_eq_true] at h3
      obtain ⟨g1, g2⟩ := h3
      split at g2
      · rename_i zv hz
        obtain ⟨R, r1, r2⟩ := eLk_runs (K1 := fun R => K R M nx) rfl ho h1 h2 hu g1 (blt_of h4) (blt_of h5) hz (ble_of h6) g2 h
        exact res3 rfl ⟨R, M, nx, r1, r2⟩
      · cases g2
    · cases h3
  · cases hok
theorem sp_mu {p q r kc vc : Nat} {tags : List Nat} (hok : okI P Y o.op (.mu p q r kc vc tags) (none) = true)
    (h : eMu F M nx p q r kc vc tags K = true) : ∃ R M' nx', K R M' nx' = true ∧ OpRes P Y o (none) F M nx R M' nx' (.mu p q r kc vc tags) (cls (.mu p q r kc vc tags)) := by
  simp only [okI] at hok
  split at hok
  · rename_i ty x y z ho
    simp only [Bool.and_eq_true] at hok
    obtain ⟨⟨⟨⟨⟨h1, h2⟩, h3⟩, h4⟩, h5⟩, h6⟩ := hok
    split at h4
    · rename_i kt et hu
      obtain ⟨R, M', r1, r2⟩ := eMu_runs rfl ho h1 h2 h3 hu h4 (blt_of h5) (blt_of h6) h
      exact res3 rfl ⟨R, M', nx, r1, r2⟩
    · cases h4
  · cases hok
theorem sp_clr {p z sz : Nat} (hok : okI P Y o.op (.clr p z sz) (none) = true)
    (h : eClr F M nx p z sz K = true) : ∃ R M' nx', K R M' nx' = true ∧ OpRes P Y o (none) F M nx R M' nx' (.clr p z sz) (cls (.clr p z sz)) := by
  simp only [okI] at hok
  split at hok
  · rename_i x ty ho
    simp only [Bool.and_eq_true] at hok
    obtain ⟨⟨⟨h1, h2⟩, h3⟩, h4⟩ := hok
    split at h2
    · rename_i e he
      split at h2
      · rename_i zv hz
        rw [Bool.and_eq_true] at h2
        obtain ⟨R, M', r1, r2⟩ := eClr_runs rfl (argsOf ho) rfl rfl h1 (sliceEl_eq he) hz (ble_of h3) h2.1 (Nat.eq_of_beq_eq_true h2.2) (blt_of h4) h
        exact res3 rfl ⟨R, M', nx, r1, r2⟩
      · cases h2
    · cases h2
  · cases hok
theorem sp_apz {p q t z sz T : Nat} (hok : okI P Y o.op (.apz p q t z sz T) (some (.val 0)) = true)
    (h : eApz F M nx p q t z sz T K = true) : ∃ R M' nx', K R M' nx' = true ∧ OpRes P Y o (some (.val 0)) F M nx R M' nx' (.apz p q t z sz T) (cls (.apz p q t z sz T)) := by
  simp only [okI] at hok
  split at hok
  · rename_i x y ty tn ho
    simp only [Bool.and_eq_true] at hok
    obtain ⟨⟨⟨⟨⟨h1, h2⟩, h3⟩, h4⟩, h5⟩, h6⟩ := hok
    split at h3
    · rename_i kn hu
      split at h4
      · rename_i e he
        simp only [Bool.and_eq_true] at h4
        obtain ⟨⟨⟨⟨⟨⟨g1, g2⟩, g3⟩, g4⟩, g5⟩, g6⟩, g7⟩ := h4
        have e1 := Nat.eq_of_beq_eq_true g1
        subst e1
        split at g2
        · rename_i zv hz
          rw [Bool.and_eq_true] at g2
          exact res3 rfl (eApz_runs rfl (argsOf ho) rfl rfl h1 h2 (sliceEl_eq he) hu hz (ble_of h5) g2.1 (Nat.eq_of_beq_eq_true g2.2) g3 g4 g5 (blt_of h6) (blt_of g6) (ble_of g7) h)
        · cases g2
      · cases h4
    · cases h3
  · cases hok
theorem sp_cpy {p q sz : Nat} (hok : okI P Y o.op (.cpy p q sz) (some (.val 0)) = true)
    (h : eCpy F M nx p q sz K = true) : ∃ R M' nx', K R M' nx' = true ∧ OpRes P Y o (some (.val 0)) F M nx R M' nx' (.cpy p q sz) (cls (.cpy p q sz)) := by
  simp only [okI] at hok
  split at hok
  · rename_i x y ty tx ho
    simp only [Bool.and_eq_true] at hok
    obtain ⟨⟨⟨⟨h1, h2⟩, h3⟩, h4⟩, h5⟩ := hok
    split at h3
    · rename_i e he
      obtain ⟨e', he'⟩ := Option.isSome_iff_exists.1 h4
      obtain ⟨R, M', r1, r2⟩ := eCpy_runs rfl (argsOf ho) rfl rfl h1 h2 (sliceEl_eq he) (sliceEl_eq he') h3 (blt_of h5) h
      exact res3 rfl ⟨R, M', nx, r1, r2⟩
    · cases h3
  · cases hok
theorem sp_lnm {p : Nat} (hok : okI P Y o.op (.lnm p) (some (.val 0)) = true)
    (h : eLnm F M p (fun R => K R M nx) = true) : ∃ R M' nx', K R M' nx' = true ∧ OpRes P Y o (some (.val 0)) F M nx R M' nx' (.lnm p) (cls (.lnm p)) := by
  simp only [okI] at hok
  split at hok
  · rename_i x ty ho
    rw [Bool.and_eq_true] at hok
    obtain ⟨h1, h2⟩ := hok
    split at h2
    · rename_i kt et hu
      obtain ⟨R, r1, r2⟩ := eLnm_runs (K1 := fun R => K R M nx) rfl (argsOf ho) rfl rfl h1 hu h
      exact res3 rfl ⟨R, M, nx, r1, r2⟩
    · cases h2
  · cases hok
theorem sp_del {p q kc vc : Nat} {tags : List Nat} (hok : okI P Y o.op (.del p q kc vc tags) (none) = true)
    (h : eDel F M p q kc vc tags (fun R => K R M nx) = true) : ∃ R M' nx', K R M' nx' = true ∧ OpRes P Y o (none) F M nx R M' nx' (.del p q kc vc tags) (cls (.del p q kc vc tags)) := by
  simp only [okI] at hok
  split at hok
  · rename_i x y ty s ho
    simp only [Bool.and_eq_true] at hok
    obtain ⟨⟨⟨⟨h1, h2⟩, h3⟩, h4⟩, h5⟩ := hok
    split at h3
    · rename_i kt et hu
      obtain ⟨R, r1, r2⟩ := eDel_runs (K1 := fun R => K R M nx) rfl (argsOf ho) rfl rfl h1 h2 hu h3 (blt_of h4) (blt_of h5) h
      exact res3 rfl ⟨R, M, nx, r1, r2⟩
    · cases h3
  · cases hok
set_option maxHeartbeats 4000000 in
theorem evI_spec {i : I} {s : Option Sh} (hn : ∀ sh, s = some sh → n = sh.sz) (hok : okI P Y o.op i s = true) (h : evI call i n F M nx K = true) : ∃ R M' nx', K R M' nx' = true ∧ OpRes P Y o s F M nx R M' nx' i (cls i) := by
  cases i
  case bad =>
    cases h
  case mv =>
    cases s with
    | none => exact (Bool.false_ne_true hok).elim
    | some sh =>
      have e := hn sh rfl
      subst e
      exact sp_mv hok h
  case pick =>
    cases s with
    | none => exact (Bool.false_ne_true hok).elim
    | some sh =>
      have e := hn sh rfl
      subst e
      exact sp_pick hok h
  case ext =>
    rcases s with _ | c | cs
    · exact (Bool.false_ne_true hok).elim
    · have e := hn _ rfl
      subst e
      exact sp_ext hok h
    · exact (Bool.false_ne_true hok).elim
  case add =>
    rcases s with _ | (_ | c) | cs
    · exact (Bool.false_ne_true hok).elim
    · exact sp_add hok h
    · exact (Bool.false_ne_true hok).elim
    · exact (Bool.false_ne_true hok).elim
  case sub =>
    rcases s with _ | (_ | c) | cs
    · exact (Bool.false_ne_true hok).elim
    · exact sp_sub hok h
    · exact (Bool.false_ne_true hok).elim
    · exact (Bool.false_ne_true hok).elim
  case neg =>
    rcases s with _ | (_ | c) | cs
    · exact (Bool.false_ne_true hok).elim
    · exact sp_neg hok h
    · exact (Bool.false_ne_true hok).elim
    · exact (Bool.false_ne_true hok).elim
  case eq =>
    rcases s with _ | (_ | c) | cs
    · exact (Bool.false_ne_true hok).elim
    · exact sp_eq hok h
    · exact (Bool.false_ne_true hok).elim
    · exact (Bool.false_ne_true hok).elim
  case ne =>
    rcases s with _ | (_ | c) | cs
    · exact (Bool.false_ne_true hok).elim
    · exact sp_ne hok h
    · exact (Bool.false_ne_true hok).elim
    · exact (Bool.false_ne_true hok).elim
  case lt =>
    rcases s with _ | (_ | c) | cs
    · exact (Bool.false_ne_true hok).elim
    · exact sp_lt hok h
    · exact (Bool.false_ne_true hok).elim
    · exact (Bool.false_ne_true hok).elim
  case le =>
    rcases s with _ | (_ | c) | cs
    · exact (Bool.false_ne_true hok).elim
    · exact sp_le hok h
    · exact (Bool.false_ne_true hok).elim
    · exact (Bool.false_ne_true hok).elim
  case not =>
    rcases s with _ | (_ | c) | cs
    · exact (Bool.false_ne_true hok).elim
    · exact sp_not hok h
    · exact (Bool.false_ne_true hok).elim
    · exact (Bool.false_ne_true hok).elim
  case nn =>
    rcases s with _ | (_ | c) | cs
    · exact (Bool.false_ne_true hok).elim
    · exact sp_nn hok h
    · exact (Bool.false_ne_true hok).elim
    · exact (Bool.false_ne_true hok).elim
  case conv =>
    rcases s with _ | (_ | c) | cs
    · exact (Bool.false_ne_true hok).elim
    · exact sp_conv hok h
    · exact (Bool.false_ne_true hok).elim
    · exact (Bool.false_ne_true hok).elim
  case fld =>
    rcases s with _ | (_ | c) | cs
    · exact (Bool.false_ne_true hok).elim
    · exact sp_fld hok h
    · exact (Bool.false_ne_true hok).elim
    · exact (Bool.false_ne_true hok).elim
  case nck =>
    rcases s with _ | (_ | c) | cs
    · exact (Bool.false_ne_true hok).elim
    · exact sp_nck hok h
    · exact (Bool.false_ne_true hok).elim
    · exact (Bool.false_ne_true hok).elim
  case ld1 =>
    rcases s with _ | (_ | c) | cs
    · exact (Bool.false_ne_true hok).elim
    · exact sp_ld1 hok h
    · exact (Bool.false_ne_true hok).elim
    · exact (Bool.false_ne_true hok).elim
  case ldN =>
    rcases s with _ | (_ | c) | cs
    · exact (Bool.false_ne_true hok).elim
    · exact (Bool.false_ne_true hok).elim
    · have e := hn _ rfl
      subst e
      exact sp_ldN hok h
    · exact (Bool.false_ne_true hok).elim
  case st1 =>
    cases s with
    | none => exact sp_st1 hok h
    | some sh => exact (Bool.false_ne_true hok).elim
  case stN =>
    rename_i p q m
    cases s with
    | none => cases m with
      | zero => exact (Bool.false_ne_true hok).elim
      | succ m => exact sp_stN hok h
    | some sh => exact (Bool.false_ne_true hok).elim
  case bx1 =>
    rcases s with _ | (_ | c) | cs
    · exact (Bool.false_ne_true hok).elim
    · exact sp_bx1 hok h
    · exact (Bool.false_ne_true hok).elim
    · exact (Bool.false_ne_true hok).elim
  case bxN =>
    rename_i T q m
    rcases s with _ | (_ | c) | cs
    · exact (Bool.false_ne_true hok).elim
    · cases m with
      | zero => exact (Bool.false_ne_true hok).elim
      | succ m => exact sp_bxN hok h
    · exact (Bool.false_ne_true hok).elim
    · exact (Bool.false_ne_true hok).elim
  case al =>
    rcases s with _ | (_ | c) | cs
    · exact (Bool.false_ne_true hok).elim
    · exact sp_al hok h
    · exact (Bool.false_ne_true hok).elim
    · exact (Bool.false_ne_true hok).elim
  case len =>
    rcases s with _ | (_ | c) | cs
    · exact (Bool.false_ne_true hok).elim
    · exact sp_len hok h
    · exact (Bool.false_ne_true hok).elim
    · exact (Bool.false_ne_true hok).elim
  case idx =>
    rcases s with _ | (_ | c) | cs
    · exact (Bool.false_ne_true hok).elim
    · exact sp_idx hok h
    · exact (Bool.false_ne_true hok).elim
    · exact (Bool.false_ne_true hok).elim
  case idA =>
    rcases s with _ | (_ | c) | cs
    · exact (Bool.false_ne_true hok).elim
    · exact sp_idA hok h
    · exact (Bool.false_ne_true hok).elim
    · exact (Bool.false_ne_true hok).elim
  case nil =>
    rcases s with _ | (_ | c) | cs
    · exact (Bool.false_ne_true hok).elim
    · exact sp_nil hok h
    · exact (Bool.false_ne_true hok).elim
    · exact (Bool.false_ne_true hok).elim
  case slc =>
    rcases s with _ | (_ | c) | cs
    · exact (Bool.false_ne_true hok).elim
    · exact sp_slc hok h
    · exact (Bool.false_ne_true hok).elim
    · exact (Bool.false_ne_true hok).elim
  case app =>
    rcases s with _ | (_ | c) | cs
    · exact (Bool.false_ne_true hok).elim
    · exact sp_app hok h
    · exact (Bool.false_ne_true hok).elim
    · exact (Bool.false_ne_true hok).elim
  case bld =>
    rcases s with _ | (_ | c) | cs
    · exact (Bool.false_ne_true hok).elim
    · exact (Bool.false_ne_true hok).elim
    · have e := hn _ rfl
      subst e
      exact sp_bld hok h
    · exact (Bool.false_ne_true hok).elim
  case blS =>
    rcases s with _ | (_ | c) | cs
    · exact (Bool.false_ne_true hok).elim
    · exact sp_blS hok h
    · exact (Bool.false_ne_true hok).elim
    · exact (Bool.false_ne_true hok).elim
  case ir =>
    rcases s with _ | (_ | c) | cs
    · exact (Bool.false_ne_true hok).elim
    · exact sp_ir hok h
    · exact (Bool.false_ne_true hok).elim
    · exact (Bool.false_ne_true hok).elim
  case mm =>
    rcases s with _ | (_ | c) | cs
    · exact (Bool.false_ne_true hok).elim
    · exact sp_mm hok h
    · exact (Bool.false_ne_true hok).elim
    · exact (Bool.false_ne_true hok).elim
  case bq =>
    rcases s with _ | (_ | c) | cs
    · exact (Bool.false_ne_true hok).elim
    · exact sp_bq hok h
    · exact (Bool.false_ne_true hok).elim
    · exact (Bool.false_ne_true hok).elim
  case eqA =>
    rcases s with _ | (_ | c) | cs
    · exact (Bool.false_ne_true hok).elim
    · exact sp_eqA hok h
    · exact (Bool.false_ne_true hok).elim
    · exact (Bool.false_ne_true hok).elim
  case call =>
    exact (Bool.false_ne_true hok).elim
  case slp =>
    rcases s with _ | (_ | c) | cs
    · exact (Bool.false_ne_true hok).elim
    · exact sp_slp hok h
    · exact (Bool.false_ne_true hok).elim
    · exact (Bool.false_ne_true hok).elim
  case cap =>
    rcases s with _ | (_ | c) | cs
    · exact (Bool.false_ne_true hok).elim
    · exact sp_cap hok h
    · exact (Bool.false_ne_true hok).elim
    · exact (Bool.false_ne_true hok).elim
  case slA =>
    rcases s with _ | (_ | c) | cs
    · exact (Bool.false_ne_true hok).elim
    · exact sp_slA hok h
    · exact (Bool.false_ne_true hok).elim
    · exact (Bool.false_ne_true hok).elim
  case toA =>
    rcases s with _ | (_ | c) | cs
    · exact (Bool.false_ne_true hok).elim
    · exact sp_toA hok h
    · exact (Bool.false_ne_true hok).elim
    · exact (Bool.false_ne_true hok).elim
  case mki =>
    rcases s with _ | (_ | c) | cs
    · exact (Bool.false_ne_true hok).elim
    · exact sp_mki hok h
    · exact (Bool.false_ne_true hok).elim
    · exact (Bool.false_ne_true hok).elim
  case mth =>
    rcases s with _ | (_ | c) | cs
    · exact (Bool.false_ne_true hok).elim
    · exact sp_mth hok h
    · exact (Bool.false_ne_true hok).elim
    · exact (Bool.false_ne_true hok).elim
  case nkm =>
    rcases s with _ | (_ | c) | cs
    · exact (Bool.false_ne_true hok).elim
    · exact sp_nkm hok h
    · exact (Bool.false_ne_true hok).elim
    · exact (Bool.false_ne_true hok).elim
  case mkf =>
    rcases s with _ | (_ | c) | cs
    · exact (Bool.false_ne_true hok).elim
    · exact sp_mkf hok h
    · exact (Bool.false_ne_true hok).elim
    · exact (Bool.false_ne_true hok).elim
  case mn3 =>
    rcases s with _ | (_ | c) | cs
    · exact (Bool.false_ne_true hok).elim
    · exact sp_mn3 hok h
    · exact (Bool.false_ne_true hok).elim
    · exact (Bool.false_ne_true hok).elim
  case mkS =>
    rcases s with _ | (_ | c) | cs
    · exact (Bool.false_ne_true hok).elim
    · exact sp_mkS hok h
    · exact (Bool.false_ne_true hok).elim
    · exact (Bool.false_ne_true hok).elim
  case mkM =>
    rcases s with _ | (_ | c) | cs
    · exact (Bool.false_ne_true hok).elim
    · exact sp_mkM hok h
    · exact (Bool.false_ne_true hok).elim
    · exact (Bool.false_ne_true hok).elim
  case bl0 =>
    rcases s with _ | (_ | c) | cs
    · exact (Bool.false_ne_true hok).elim
    · exact sp_bl0 hok h
    · exact (Bool.false_ne_true hok).elim
    · exact (Bool.false_ne_true hok).elim
  case b2s =>
    rcases s with _ | (_ | c) | cs
    · exact (Bool.false_ne_true hok).elim
    · exact sp_b2s hok h
    · exact (Bool.false_ne_true hok).elim
    · exact (Bool.false_ne_true hok).elim
  case lk =>
    rcases s with _ | c | (_ | ⟨c, _ | ⟨_ | d, _ | ⟨e, cs⟩⟩⟩)
    · exact (Bool.false_ne_true hok).elim
    · exact (Bool.false_ne_true hok).elim
    · exact (Bool.false_ne_true hok).elim
    · exact (Bool.false_ne_true hok).elim
    · exact sp_lk hok h
    · exact (Bool.false_ne_true hok).elim
    · exact (Bool.false_ne_true hok).elim
    · exact (Bool.false_ne_true hok).elim
  case mu =>
    cases s with
    | none => exact sp_mu hok h
    | some sh => exact (Bool.false_ne_true hok).elim
  case clr =>
    cases s with
    | none => exact sp_clr hok h
    | some sh => exact (Bool.false_ne_true hok).elim
  case apz =>
    rcases s with _ | (_ | c) | cs
    · exact (Bool.false_ne_true hok).elim
    · exact sp_apz hok h
    · exact (Bool.false_ne_true hok).elim
    · exact (Bool.false_ne_true hok).elim
  case inv =>
    exact (Bool.false_ne_true hok).elim
  case dyn =>
    exact (Bool.false_ne_true hok).elim
  case cpy =>
    rcases s with _ | (_ | c) | cs
    · exact (Bool.false_ne_true hok).elim
    · exact sp_cpy hok h
    · exact (Bool.false_ne_true hok).elim
    · exact (Bool.false_ne_true hok).elim
  case lnm =>
    rcases s with _ | (_ | c) | cs
    · exact (Bool.false_ne_true hok).elim
    · exact sp_lnm hok h
    · exact (Bool.false_ne_true hok).elim
    · exact (Bool.false_ne_true hok).elim
  case del =>
    cases s with
    | none => exact sp_del hok h
    | some sh => exact (Bool.false_ne_true hok).elim
end
end
end Go.Rill.VM
end
section
namespace Go.Rill.VM
set_option linter.unusedVariables false
set_option linter.unusedSimpArgs false
open Go.RowKit
noncomputable section

/-- An instruction in its place: where it hands its words on (so many; 0: none), and what must be so for it. -/
inductive CI where
  | go (d n : Nat) (i : I)
  | gd (g want d n : Nat) (i : I)
inductive CC where
  | skip
  | rg (l : List CI)
  | dr (l : List (CI × List Nat)) (pm : List Nat)
  | sq (a b : CC)
  | cd (p : Nat) (a b : CC)
  | bl (id : Nat) (c : CC)
  | lp (c : CC)
  | ex (id : Nat)
  | rt
  | bad
  | sc (c : CC)
inductive RV where
  | t (p c : Nat)
  | c (p c : Nat)
structure CFn where
  code : CC
  Y : Lay
  res : List RV
inductive Ent where
  | fn (f : CFn)
  | cst (Y : Lay) (cks : List (Nat × Nat × Nat)) (s : Sh) (R : Nat → Nat)
  | als (Y : Lay) (l : List (List (Nat × Nat × Nat))) (s : Sh) (R : Nat)
inductive FT where
  | lf
  | nd (l : FT) (v : Option Ent) (r : FT)
def FT.get (t : FT) : Nat → Option Ent :=
  FT.rec (motive := fun _ => Nat → Option Ent) (fun _ => none) (fun _ v _ ihl ihr p => Bool.rec (motive := fun _ => Option Ent) (Bool.rec (motive := fun _ => Option Ent) (ihl (Nat.shiftRight p 1)) (ihr (Nat.shiftRight p 1)) (Nat.beq (Nat.land p 1) 1)) v (Nat.beq p 1)) t
/-- What is handed back. -/
def eRV (v : RV) (F : Nat) (M : HT) (k : Nat → Bool) : Bool :=
  RV.rec (motive := fun _ => Bool) (fun p c => k (gs F p (csz c))) (fun p c => Nat.rec (motive := fun _ => Bool) (eLd1 F M p k) (fun n _ => eLdN F M p (Nat.succ n) k) c) v
def RV.cells : RV → Nat
  | .t _ m => m
  | .c _ m => m
def eRs (l : List RV) (F : Nat) (M : HT) : (Nat → Bool) → Bool :=
  List.rec (motive := fun _ => (Nat → Bool) → Bool) (fun k => k 0) (fun v _ ih k => eRV v F M fun w => ih fun x => k (wjoin (Nat.mod w (Nat.pow 2 (Nat.mul 96 (csz v.cells)))) (csz v.cells) x)) l
def eRes (l : List RV) (F : Nat) (M : HT) (k : Nat → Bool) : Bool :=
  List.rec (motive := fun _ => Bool) (k 1) (fun v r _ => List.rec (motive := fun _ => Bool) (eRV v F M k) (fun _ _ _ => eRs l F M fun x => k (wcons 1 x)) r) l
def resSh (l : List RV) : Sh :=
  match l with
  | [v] => .val v.cells
  | l => .tup (l.map RV.cells)
/-- A call's frame: its words, one behind the other. -/
def eArgs (F : Nat) (as : List (Nat × Nat × Nat)) : Nat → (Nat → Bool) → Bool :=
  List.rec (motive := fun _ => Nat → (Nat → Bool) → Bool) (fun G k => k G) (fun a _ ih G k => lz (cp G a.2.2 a.2.1 (gs F a.1 a.2.1)) fun G => ih G k) as
/-- Numbers in their bounds: where, the least, the greatest. -/
def eCks (G : Nat) (cks : List (Nat × Nat × Nat)) (k : Bool) : Bool :=
  List.rec (motive := fun _ => Bool) k (fun c _ ih => need (Nat.beq (Nat.land (gw G c.1) 31) (Nat.land c.2.1 31)) (need (Nat.ble c.2.1 (gw G c.1)) (need (Nat.ble (gw G c.1) c.2.2) ih))) cks
def cksOk (G : Nat) (cks : List (Nat × Nat × Nat)) : Prop := ∀ c ∈ cks, gw G c.1 % 32 = c.2.1 % 32 ∧ c.2.1 ≤ gw G c.1 ∧ gw G c.1 ≤ c.2.2
theorem eCks_spec {G : Nat} {k : Bool} : ∀ {cks : List (Nat × Nat × Nat)}, eCks G cks k = true → cksOk G cks ∧ k = true
  | [], h => ⟨fun c hc => (by cases hc), h⟩
  | c :: l, h => by
    have h : need (Nat.beq (Nat.land (gw G c.1) 31) (Nat.land c.2.1 31)) (need (Nat.ble c.2.1 (gw G c.1)) (need (Nat.ble (gw G c.1) c.2.2) (eCks G l k))) = true := h
    rw [need_iff, need_iff, need_iff, Nat.ble_eq, Nat.ble_eq, land31, land31] at h
    obtain ⟨h1, h2, h3, h4⟩ := h
    obtain ⟨h5, h6⟩ := eCks_spec h4
    refine ⟨fun d hd => ?_, h6⟩
    rcases List.mem_cons.1 hd with rfl | hd
    · exact ⟨Nat.eq_of_beq_eq_true h1, h2, h3⟩
    · exact h5 d hd
/-- One of these. -/
def eAny (G : Nat) (l : List (List (Nat × Nat × Nat))) (k : Bool) : Bool := List.rec (motive := fun _ => Bool) false (fun c _ ih => iff' (eCks G c true) k ih) l
theorem eAny_spec {G : Nat} {k : Bool} : ∀ {l : List (List (Nat × Nat × Nat))}, eAny G l k = true → (∃ c ∈ l, cksOk G c) ∧ k = true
  | [], h => by cases h
  | c :: l, h => by
    have h : iff' (eCks G c true) k (eAny G l k) = true := h
    rw [iff'_eq] at h
    split at h
    · rename_i hc
      exact ⟨⟨c, List.mem_cons_self .., (eCks_spec hc).1⟩, h⟩
    · obtain ⟨⟨d, hd, h1⟩, h2⟩ := eAny_spec h
      exact ⟨⟨d, List.mem_cons_of_mem _ hd, h1⟩, h2⟩
abbrev KN := Nat → HT → Nat → Bool
abbrev KX := Nat → Nat → HT → Nat → Bool
abbrev Run := CC → Nat → HT → Nat → KN → KX → Bool
/-- Words of the caller's own making, put into a call's frame. -/
def ePre (ps : List (Nat × Nat)) : Nat → (Nat → Bool) → Bool :=
  List.rec (motive := fun _ => Nat → (Nat → Bool) → Bool) (fun G k => k G) (fun a _ ih G k => lz (cp G a.1 1 a.2) fun G => ih G k) ps
def entLay : Ent → Lay
  | .fn c => c.Y
  | .cst Y _ _ _ => Y
  | .als Y _ _ _ => Y
def entSh : Ent → Sh
  | .fn c => resSh c.res
  | .cst _ _ s _ => s
  | .als _ _ s _ => s
def entGo (run : Run) (e : Ent) (M : HT) (nx : Nat) (k : Nat → HT → Nat → Bool) (G : Nat) : Bool :=
  Ent.rec (motive := fun _ => Bool) (fun c => run c.code G M nx (fun G M nx => eRes c.res G M fun R => k R M nx) (fun e G M nx => need (Nat.beq e 0) (eRes c.res G M fun R => k R M nx)))
    (fun Y cks _ R => eCks G cks (k (R G) M nx)) (fun Y l _ R => eAny G l (k R M nx)) e
def evCall (T : FT) (run : Run) (f : Nat) (pre : List (Nat × Nat)) (as : List (Nat × Nat × Nat)) (post : List (Nat × Nat)) (F : Nat) (M : HT) (nx : Nat) (k : Nat → HT → Nat → Bool) : Bool :=
  Option.rec (motive := fun _ => Bool) false (fun e => ePre pre (entLay e).con fun G => eArgs F as G fun G => ePre post G (entGo run e M nx k)) (T.get f)
abbrev CT := FT → Run → Nat → HT → Nat → KN → Bool
def c_go (d n : Nat) (i : I) (T : FT) (run : Run) (F : Nat) (M : HT) (nx : Nat) (k : KN) : Bool :=
  evI (evCall T run) i n F M nx fun R M nx => Nat.rec (motive := fun _ => Bool) (k F M nx) (fun _ _ => lz (cp F d n R) fun F => k F M nx) n
def c_gd (g want d n : Nat) (i : I) (T : FT) (run : Run) (F : Nat) (M : HT) (nx : Nat) (k : KN) : Bool :=
  iff' (Nat.beq (gw F g) want) (evI (evCall T run) i n F M nx fun R M nx => Nat.rec (motive := fun _ => Bool) (k F M nx) (fun _ _ => lz (cp F d n R) fun F => k F M nx) n)
      (need (or (Nat.beq (gw F g) (Nat.sub 54 want)) (Nat.beq (gw F g) 9)) (Nat.rec (motive := fun _ => Bool) (k F M nx) (fun m _ => lz (cp F d n (Nat.rec (motive := fun _ => Nat) 9 (fun _ _ => 0) m)) fun F => k F M nx) n))
def evCI (T : FT) (run : Run) (c : CI) (F : Nat) (M : HT) (nx : Nat) (k : KN) : Bool :=
  CI.rec (motive := fun _ => CT) c_go c_gd c T run F M nx k
def evL (T : FT) (run : Run) (l : List CI) : Nat → HT → Nat → KN → Bool :=
  List.rec (motive := fun _ => Nat → HT → Nat → KN → Bool) (fun F M nx k => k F M nx) (fun c _ ih F M nx k => evCI T run c F M nx fun F M nx => ih F M nx k) l
/-- What memory these slots' pointers show is as it was. -/
def same (F : Nat) (M M' : HT) (ws : List Nat) (k : Bool) : Bool :=
  List.rec (motive := fun _ => Bool) k (fun p _ ih => iff' (Nat.beq (Nat.land (gw F p) 31) 13) (need (Nat.beq (M.get (lb (gw F p))) (M'.get (lb (gw F p)))) ih) ih) ws
def evD (T : FT) (run : Run) (l : List (CI × List Nat)) : Nat → HT → Nat → KN → Bool :=
  List.rec (motive := fun _ => Nat → HT → Nat → KN → Bool) (fun F M nx k => k F M nx) (fun c _ ih F M nx k => evCI T run c.1 F M nx fun F' M' nx' => need (Nat.ble nx nx') (same F' M M' c.2 (ih F' M' nx' k))) l
abbrev BT := FT → Run → Nat → HT → Nat → KN → KX → Bool
def b_skip (T : FT) (run : Run) (F : Nat) (M : HT) (nx : Nat) (kN : KN) (kX : KX) : Bool := kN F M nx
def b_rg (l : List CI) (T : FT) (run : Run) (F : Nat) (M : HT) (nx : Nat) (kN : KN) (kX : KX) : Bool := evL T run l F M nx kN
def b_dr (l : List (CI × List Nat)) (pm : List Nat) (T : FT) (run : Run) (F : Nat) (M : HT) (nx : Nat) (kN : KN) (kX : KX) : Bool := evD T run l F M nx kN
def b_sq (a b : CC) (_ _ : BT) (T : FT) (run : Run) (F : Nat) (M : HT) (nx : Nat) (kN : KN) (kX : KX) : Bool := run a F M nx (fun F M nx => run b F M nx kN kX) kX
def b_cd (p : Nat) (a b : CC) (_ _ : BT) (T : FT) (run : Run) (F : Nat) (M : HT) (nx : Nat) (kN : KN) (kX : KX) : Bool := iff' (Nat.beq (gw F p) 43) (run a F M nx kN kX) (need (Nat.beq (gw F p) 11) (run b F M nx kN kX))
def b_bl (id : Nat) (c : CC) (_ : BT) (T : FT) (run : Run) (F : Nat) (M : HT) (nx : Nat) (kN : KN) (kX : KX) : Bool := run c F M nx kN fun e F M nx => iff' (Nat.beq e (Nat.succ id)) (kN F M nx) (kX e F M nx)
def b_lp (c' : CC) (_ : BT) (T : FT) (run : Run) (F : Nat) (M : HT) (nx : Nat) (kN : KN) (kX : KX) : Bool := run c' F M nx (fun F M nx => run (.lp c') F M nx kN kX) kX
def b_ex (id : Nat) (T : FT) (run : Run) (F : Nat) (M : HT) (nx : Nat) (kN : KN) (kX : KX) : Bool := kX (Nat.succ id) F M nx
def b_rt (T : FT) (run : Run) (F : Nat) (M : HT) (nx : Nat) (kN : KN) (kX : KX) : Bool := kX 0 F M nx
def b_bad (T : FT) (run : Run) (F : Nat) (M : HT) (nx : Nat) (kN : KN) (kX : KX) : Bool := false
def b_sc (c : CC) (_ : BT) (T : FT) (run : Run) (F : Nat) (M : HT) (nx : Nat) (kN : KN) (kX : KX) : Bool := run c F M nx kN kX
def evB (T : FT) (run : Run) (c : CC) (F : Nat) (M : HT) (nx : Nat) (kN : KN) (kX : KX) : Bool :=
  CC.rec (motive := fun _ => BT) b_skip b_rg b_dr b_sq b_cd b_bl b_lp b_ex b_rt b_bad b_sc c T run F M nx kN kX
def ev (T : FT) (n : Nat) : Run :=
  Nat.rec (motive := fun _ => Run) (fun _ _ _ _ _ _ => false) (fun _ ih => evB T ih) n

/-! ### What stands for what -/
def okCall (Y : Lay) (c : CFn) : Nat → List Operand → List (Nat × Nat × Nat) → Bool
  | _, [], [] => true
  | i, x :: r, (src, n, d) :: as => (match layAt c.Y.sh c.Y.nc i with | some (q, .val m) => Nat.beq q d && Nat.beq n (csz m) && okO Y x src m | _ => false) && Nat.blt i c.Y.nt && okCall Y c (i + 1) r as
  | _, _, _ => false
def shEq : Sh → Sh → Bool
  | .val a, .val b => Nat.beq a b
  | .tup a, .tup b => a == b
  | _, _ => false
theorem shEq_eq {a b : Sh} (h : shEq a b = true) : a = b := by
  cases a <;> cases b <;> simp_all [shEq]
def fnArgs : Op → Option (Nat × List Operand)
  | .call { callee := .value (.func f), args, .. } => some (f, args.toList)
  | _ => none
def lenOk (e : Ent) (n : Nat) : Bool :=
  match e with
  | .fn c => Nat.ble n c.Y.nt
  | .cst Y _ _ _ => Nat.beq n Y.nt
  | .als Y _ _ _ => Nat.beq n Y.nt
def okAt (Y : Lay) (i : Nat) (d : Option Nat) : Bool :=
  match d with
  | none => true
  | some d => match layAt Y.sh Y.nc i with
    | some (q, .val 0) => Nat.beq q d
    | _ => false
/-- A call's words, and its result's shape, fit. -/
def okEnt (T : FT) (Y : Lay) (f : Nat) (pre : Option Nat) (args : List Operand) (as : List (Nat × Nat × Nat)) (post : Option Nat) (s : Option Sh) : Bool :=
  match T.get f with
  | some e => okAt (entLay e) 0 pre && okCall Y ⟨.bad, entLay e, []⟩ (cond pre.isSome 1 0) args as && okAt (entLay e) (cond pre.isSome 1 0 + args.length) post && Nat.blt (entLay e).con (2 ^ (64 + 96 * (entLay e).nc)) &&
    lenOk e (cond pre.isSome 1 0 + args.length + cond post.isSome 1 0) && (match s with | some sh => shEq sh (entSh e) | none => true)
  | none => false
def invArgs : Op → Option (Operand × String × List Operand)
  | .call { callee := .invoke x name, args, .. } => some (x, name, args.toList)
  | _ => none
def dynArgs : Op → Option (Operand × List Operand)
  | .call { callee := .value x, args, .. } => some (x, args.toList)
  | _ => none
def okI' (P : Program) (T : FT) (Y : Lay) (op : Op) (i : I) (s : Option Sh) : Bool :=
  match i with
  | .bad => true
  | .call f as => match fnArgs op with
    | some (g, args) => Nat.beq g f && goFn P f && okEnt T Y f none args as none s
    | none => false
  | .inv p cs => match invArgs op with
    | some (x, name, args) => okO Y x p 0 && cs.all fun c => tyMth P c.1 name c.2.1 && goFn P c.2.1 && okEnt T Y c.2.1 (some c.2.2.1) args c.2.2.2 none s
    | none => false
  | .dyn p cs => match dynArgs op with
    | some (x, args) => okO Y x p 0 && cs.all fun c => goFn P c.1 && okEnt T Y c.1 none args c.2.1 (if c.2.2 = 0 then none else some c.2.2) s
    | none => false
  | i => okI P Y op i s
def okD (Y : Lay) (o : Oper) (d n : Nat) : Option (Option Sh) :=
  match o.dst with
  | none => if n = 0 then some none else none
  | some t => match layAt Y.sh Y.nc t with
    | some (q, sh) => if Nat.beq q d && Nat.beq n sh.sz && Nat.blt t Y.nt then some (some sh) else none
    | none => none
def okG (Y : Lay) (ops : Array Oper) (o : Oper) (g want : Nat) : Bool :=
  match o.guard with
  | some (j, b) => (match (ops[j]?).bind (·.dst) with
    | some t => (match layAt Y.sh Y.nc t with | some (q, .val 0) => Nat.beq q g && Nat.blt t Y.nt | _ => false)
    | none => false) && Nat.beq want (cond b 43 11)
  | none => false
def okCI (P : Program) (T : FT) (Y : Lay) (ops : Array Oper) (o : Oper) (c : CI) : Bool :=
  match c with
  | .go d n i => (match o.guard with | none => true | _ => false) && (match okD Y o d n with | some s => okI' P T Y o.op i s | none => false)
  | .gd g want d n i => okG Y ops o g want && (match okD Y o d n with | some s => okI' P T Y o.op i s | none => false)
def okL (P : Program) (T : FT) (Y : Lay) (ops : Array Oper) : List Oper → List CI → Bool
  | [], [] => true
  | o :: r, c :: l => okCI P T Y ops o c && okL P T Y ops r l
  | _, _ => false
def okC (P : Program) (T : FT) (Y : Lay) (okDr : Array Oper → List (CI × List Nat) → List Nat → Bool) : Code → CC → Bool
  | .skip, .skip => true
  | .region _ ops false, .rg l => okL P T Y ops ops.toList l
  | .region _ ops true, .dr l pm => okDr ops l pm
  | .seq a b, .sq x y => okC P T Y okDr a x && okC P T Y okDr b y
  | .cond c a b, .cd p x y => okO Y c p 0 && okC P T Y okDr a x && okC P T Y okDr b y
  | .block id a, .bl j x => Nat.beq id j && okC P T Y okDr a x
  | .loop a, .lp x => okC P T Y okDr a x
  | .exit id, .ex j => Nat.beq id j
  | .ret, .rt => true
  | .scope a, .sc x => okC P T Y okDr a x
  | .label _, .skip => true
  | _, .bad => true
  | _, _ => false
end
end Go.Rill.VM
end
section
namespace Go.Rill.VM
set_option linter.unusedVariables false
set_option linter.unusedSimpArgs false
open Go.RowKit
noncomputable section
section
variable {P : Program} {T : FT} {Y : Lay} {F : Nat} {M : HT} {nx : Nat}
/-! ### Results -/
def okRV (P : Program) (Y : Lay) (r : ResultVar) (v : RV) : Bool :=
  match r, v with
  | .tmp t, .t p c => (match layAt Y.sh Y.nc t with | some (q, .val c') => Nat.beq q p && Nat.beq c' c | _ => false)
  | .cell t ty, .c p c => (match layAt Y.sh Y.nc t with | some (q, .val 0) => Nat.beq q p | _ => false) && (match c with | 0 => tyOne P ty | n + 1 => tyAgg P ty (n + 1))
  | _, _ => false
def okRes (P : Program) (Y : Lay) : List ResultVar → List RV → Bool
  | [], [] => true
  | r :: rs, v :: vs => okRV P Y r v && okRes P Y rs vs
  | _, _ => false
def resRun (a : Act) (r : ResultVar) : Sem Value :=
  match r with
  | .tmp t => pure (a.tmps.getD t undef)
  | .cell s t => do loadVar t (← asAddr (a.tmps.getD s undef))
def ldOper (t : TypeId) (s : Nat) : Oper := { dst := none, op := .load t (.tmp s), type := t, pos := "", after := #[], guard := none }
theorem ld_res {a : Act} {w : World} {t : TypeId} {s : Nat} {v : Value} (h : (execOp a.eval (ldOper t s)).run P w = .ok (.value v) w) (hp : ∃ ad, a.tmps.getD s undef = .pointer (some ad)) : (resRun a (.cell s t)).run P w = .ok v w := by
  obtain ⟨ad, hp⟩ := hp
  have e : a.eval (.tmp s) = .pointer (some ad) := hp
  simp only [execOp, ldOper, e, Instr.loadAt, Instr.sureAddr, Sem.run_bind, Sem.run_pure, Result.andThen_ok] at h
  simp only [resRun, hp, asAddr, Sem.run_bind, Sem.run_pure, Result.andThen_ok]
  cases hl : (loadVar t ad).run P w with
  | ok v2 w2 =>
    rw [hl] at h
    injection h with h1 h2
    injection h1 with h1
    rw [h1, h2]
  | halt => rw [hl] at h; cases h
/-- One result. -/
theorem eRV_spec {r : ResultVar} {v : RV} {k : Nat → Bool} (hok : okRV P Y r v = true) (h : eRV v F M k = true) : ∃ R, k R = true ∧ ∀ {lm : Nat} E a w, FR E Y F a → MR P E M.get nx lm w → ∃ u, (resRun a r).run P w = .ok u w ∧ vR E (wd R) 0 v.cells u := by
  cases v with
  | t p c =>
    cases r with
    | cell => cases hok
    | tmp t =>
      refine ⟨_, h, fun E a w H MM => ⟨a.tmps.getD t undef, by simp only [resRun, Sem.run_pure], ?_⟩⟩
      simp only [okRV] at hok
      split at hok
      · rename_i q c' hl
        rw [Bool.and_eq_true] at hok
        have e1 := Nat.eq_of_beq_eq_true hok.1
        have e2 := Nat.eq_of_beq_eq_true hok.2
        subst e1 e2
        exact sR_gs (s := .val c') (H.tm t _ _ hl)
      · cases hok
  | c p c =>
    cases r with
    | tmp => cases hok
    | cell s ty =>
      simp only [okRV, Bool.and_eq_true] at hok
      obtain ⟨h1, h2⟩ := hok
      split at h1
      · rename_i q hl
        have e1 := Nat.eq_of_beq_eq_true h1
        subst e1
        have hx : okO Y (.tmp s) q 0 = true := by simp [okO, hl]
        cases c with
        | zero =>
          have h : eLd1 F M q k = true := h
          unfold eLd1 at h
          rw [ck_iff, nz_iff] at h
          obtain ⟨g1, g2, g3⟩ := h
          refine ⟨_, g3, fun E a w H MM => ?_⟩
          have HO : FO E Y F a (ldOper ty s) := H.on _
          obtain ⟨g, T', c, h4, h5⟩ := rdPtr (x := .tmp s) HO (by simp [opList, ldOper]) hx g1
          obtain ⟨cs, lim, h6, _, _, _, h7⟩ := MM.cell h4 (i := Nat.succ (ofs (gw F q))) g2
          obtain ⟨_, u, h8, h9⟩ := h7 _ g2
          exact ⟨u, ld_res (run_loadB (A := .tmp s) rfl h5 h2 h6 h9) ⟨_, h5⟩, sR_one (gw_lt _ _) h8⟩
        | succ n =>
          have h : eLdN F M q (n + 1) k = true := h
          have hc := h
          unfold eLdN at hc
          rw [ck_iff, nz_iff] at hc
          obtain ⟨g1, g2, g3⟩ := hc
          refine ⟨_, g3, fun E a w H MM => ?_⟩
          have HO : FO E Y F a (ldOper ty s) := H.on _
          obtain ⟨g, T', c, h4, h5⟩ := rdPtr (x := .tmp s) HO (by simp [opList, ldOper]) hx g1
          obtain ⟨cs, lim, h6, h10, _, _, h7⟩ := MM.cell h4 (i := Nat.add (ofs (gw F q)) (n + 1)) g2
          have e : Nat.add (ofs (gw F q)) (n + 1) = ofs (gw F q) + n + 1 := rfl
          rw [e] at g2
          obtain ⟨hlim, v, h8, h9⟩ := h7 _ g2
          have hlt : ofs (gw F q) + n < cs.size := (Array.getElem?_eq_some_iff.1 h9).1
          refine ⟨_, ld_res (run_loadN (A := .tmp s) rfl h5 h2 h6 (by omega)) ⟨_, h5⟩, ?_⟩
          refine agg_vR (by simp; omega) (fun v hv => ?_) (fun i hi hu => ?_)
          · rw [Array.toList_extract] at hv
            obtain ⟨j, hj⟩ := List.getElem?_of_mem hv
            simp only [List.extract, List.getElem?_take] at hj
            split at hj
            · rw [List.getElem?_drop] at hj
              exact h10 v (List.mem_of_getElem? (i := ofs (gw F q) + j) (by rw [List.getElem?_take, if_pos (by omega)]; exact hj))
            · cases hj
          · have e2 : wd (wcons 1 (gs (M.get (lb (gw F q))) (Nat.succ (ofs (gw F q))) (n + 1))) (0 + 1 + i) = gw (M.get (lb (gw F q))) (ofs (gw F q) + i + 1) := by
              rw [wd_wcons (by decide), if_neg (by omega), wd_gs, if_pos (by omega)]
              congr 1
              omega
            rw [e2] at hu ⊢
            obtain ⟨_, v, a1, a2⟩ := h7 _ hu
            refine ⟨v, a1, ?_⟩
            rw [Array.getElem?_extract, if_pos (by omega)]
            exact a2
      · cases h1
theorem eRs_spec : ∀ {rs : List ResultVar} {vs : List RV} {k : Nat → Bool}, okRes P Y rs vs = true → eRs vs F M k = true → ∃ R, k R = true ∧ ∀ {lm : Nat} E a w, FR E Y F a → MR P E M.get nx lm w → ∃ us, (rs.mapM (resRun a)).run P w = .ok us w ∧ tR E (wd R) 0 (vs.map RV.cells) us
  | [], [], k, _, h => ⟨0, h, fun E a w _ _ => ⟨[], by simp, trivial⟩⟩
  | [], _ :: _, _, h, _ => by cases h
  | _ :: _, [], _, h, _ => by cases h
  | r :: rs, v :: vs, k, hok, h => by
    simp only [okRes, Bool.and_eq_true] at hok
    have h : eRV v F M (fun w => eRs vs F M fun x => k (wjoin (Nat.mod w (Nat.pow 2 (Nat.mul 96 (csz v.cells)))) (csz v.cells) x)) = true := h
    obtain ⟨R1, h1, h2⟩ := eRV_spec (nx := nx) hok.1 h
    obtain ⟨R2, h3, h4⟩ := eRs_spec hok.2 h1
    refine ⟨_, h3, fun E a w H MM => ?_⟩
    obtain ⟨u, g1, g2⟩ := h2 E a w H MM
    obtain ⟨us, g3, g4⟩ := h4 E a w H MM
    have hlt : Nat.mod R1 (Nat.pow 2 (Nat.mul 96 (csz v.cells))) < 2 ^ (96 * csz v.cells) := Nat.mod_lt _ (Nat.pow_pos (by decide))
    have hwd : ∀ i, i < csz v.cells → wd (Nat.mod R1 (Nat.pow 2 (Nat.mul 96 (csz v.cells)))) i = wd R1 i := fun i hi => by
      have : Nat.mod R1 (Nat.pow 2 (Nat.mul 96 (csz v.cells))) = ws R1 0 (csz v.cells) := by rw [ws_eq, Nat.mul_zero, Nat.shiftRight_zero]; rfl
      rw [this, wd_ws, if_pos hi, Nat.zero_add]
    refine ⟨u :: us, by rw [List.mapM_cons, Sem.run_bind, g1, Result.andThen_ok, Sem.run_bind, g3, Result.andThen_ok, Sem.run_pure], vR_move g2 fun i hi => ?_, tR_move g4 fun i hi => ?_⟩
    · rw [Nat.zero_add, wd_wjoin hlt, if_pos hi, hwd i hi]
    · rw [Nat.zero_add, Nat.zero_add, wd_wjoin hlt, if_neg (by omega)]
      congr 1
      omega
def resV : List Value → Value
  | [u] => u
  | us => .tuple us.toArray
theorem results_run {fn : Func} {a : Act} {w : World} {us : List Value} (h : (fn.results.toList.mapM (resRun a)).run P w = .ok us w) : (results fn a.tmps).run P w = .ok (resV us) w := by
  have e : results fn a.tmps = (fn.results.mapM (resRun a) >>= fun vs => pure (if h : vs.size = 1 then vs[0] else .tuple vs)) := by
    unfold results
    congr 1
  rw [e, Array.mapM_eq_mapM_toList, map_eq_pure_bind]
  simp only [Sem.run_bind, h, Result.andThen_ok, Sem.run_pure]
  match us with
  | [] => rfl
  | [u] => rfl
  | _ :: _ :: _ => rfl
theorem eRes_spec {fn : Func} {vs : List RV} {k : Nat → Bool} (hok : okRes P Y fn.results.toList vs = true) (h : eRes vs F M k = true) : ∃ R, k R = true ∧ ∀ {lm : Nat} E a w, FR E Y F a → MR P E M.get nx lm w → ∃ u, (results fn a.tmps).run P w = .ok u w ∧ sR E (wd R) 0 (resSh vs) u := by
  match vs, hok, h with
  | [], hok, h =>
    have hn : fn.results.toList = [] := by
      cases hr : fn.results.toList with
      | nil => rfl
      | cons r rs => rw [hr] at hok; cases hok
    refine ⟨1, h, fun E a w H MM => ⟨_, results_run (us := []) (by rw [hn]; simp), fun _ => ⟨[], rfl, trivial⟩⟩⟩
  | [v], hok, h =>
    have h : eRV v F M k = true := h
    match hr : fn.results.toList with
    | [] => rw [hr] at hok; cases hok
    | [r] =>
      rw [hr] at hok
      simp only [okRes, Bool.and_true] at hok
      obtain ⟨R, h1, h2⟩ := eRV_spec (nx := nx) hok h
      refine ⟨R, h1, fun E a w H MM => ?_⟩
      obtain ⟨u, g1, g2⟩ := h2 E a w H MM
      exact ⟨u, results_run (us := [u]) (by rw [hr, List.mapM_cons, Sem.run_bind, g1, Result.andThen_ok]; simp), g2⟩
    | _ :: _ :: _ => rw [hr] at hok; simp [okRes] at hok
  | v :: v' :: vs, hok, h =>
    have h : eRs (v :: v' :: vs) F M (fun x => k (wcons 1 x)) = true := h
    obtain ⟨R, h1, h2⟩ := eRs_spec (nx := nx) hok h
    refine ⟨_, h1, fun E a w H MM => ?_⟩
    obtain ⟨us, g1, g2⟩ := h2 E a w H MM
    match us, g2 with
    | [], g2 => exact g2.elim
    | [_], g2 => exact g2.2.elim
    | u1 :: u2 :: us, g2 =>
      refine ⟨_, results_run g1, fun _ => ⟨u1 :: u2 :: us, rfl, tR_move g2 fun i hi => ?_⟩⟩
      rw [Nat.zero_add, wd_wcons (by decide), if_neg (by omega)]
      congr 1
      omega
/-! ### A call's frame -/
structure FA (E : GE) (Y : Lay) (G i : Nat) (vs : List Value) : Prop where
  has : ∀ s p sh, s < i → layAt Y.sh Y.nc s = some (p, sh) → ∃ v, vs[s]? = some v ∧ sR E (gw G) p sh v
  none : ∀ s p sh, i ≤ s → layAt Y.sh Y.nc s = some (p, sh) → gw G p = 0
  con : ∀ j, j < Y.nc → gw G j = gw Y.con j
  len : vs.length = i
theorem eArgs_spec {c : CFn} {o : Oper} : ∀ {xs : List Operand} {as : List (Nat × Nat × Nat)} {i G : Nat} {k : Nat → Bool}, okCall Y c i xs as = true → (∀ x ∈ xs, x ∈ opList o.op) → eArgs F as G k = true →
    ∃ G', k G' = true ∧ i + xs.length ≤ max c.Y.nt i ∧ ∀ E a vs, FO E Y F a o → FA E c.Y G i vs → FA E c.Y G' (i + xs.length) (vs ++ xs.map a.eval)
  | [], [], i, G, k, _, _, h => ⟨G, h, by simp; omega, fun E a vs H I => by simpa using I⟩
  | [], _ :: _, _, _, _, h, _, _ => by cases h
  | _ :: _, [], _, _, _, h, _, _ => by cases h
  | x :: xs, (src, n, d) :: as, i, G, k, hok, hm, h => by
    simp only [okCall, Bool.and_eq_true] at hok
    obtain ⟨⟨h1, h2⟩, h3⟩ := hok
    have h2 : i < c.Y.nt := by simpa using h2
    have h : lz (cp G d n (gs F src n)) (fun G => eArgs F as G k) = true := h
    rw [lz_eq] at h
    obtain ⟨G', h4, h5, h6⟩ := eArgs_spec h3 (fun z hz => hm z (by simp [hz])) h
    refine ⟨G', h4, by simp only [List.length_cons]; omega, fun E a vs H I => ?_⟩
    split at h1
    · rename_i q m hl
      simp only [Bool.and_eq_true] at h1
      obtain ⟨⟨e1, e2⟩, h7⟩ := h1
      have e1 := Nat.eq_of_beq_eq_true e1
      have e2 := Nat.eq_of_beq_eq_true e2
      subst e1 e2
      have hv := rd H (hm x (by simp)) h7
      have := h6 E a (vs ++ [a.eval x]) H ⟨fun s p sh hs hls => ?_, fun s p sh hs hls => ?_, fun j hj => ?_, by simp [I.len]⟩
      · simpa [Nat.add_assoc, Nat.add_comm 1] using this
      · by_cases e : s = i
        · subst e
          rw [hl] at hls
          simp only [Option.some.injEq, Prod.mk.injEq] at hls
          obtain ⟨rfl, rfl⟩ := hls
          refine ⟨a.eval x, by rw [List.getElem?_append_right (by rw [I.len]; exact Nat.le_refl _), I.len, Nat.sub_self]; rfl, ?_⟩
          refine sR_move (s := .val m) (p := src) hv fun j hj => ?_
          have hj' : j < csz m := hj
          rw [gw_cp, if_pos (by omega), wd_gs, if_pos (by omega)]
          congr 1
          omega
        · obtain ⟨v, g1, g2⟩ := I.has s p sh (by omega) hls
          refine ⟨v, by rw [List.getElem?_append_left (by rw [I.len]; omega)]; exact g1, sR_move g2 fun j hj => ?_⟩
          have := layAt_apart hls hl (by omega)
          rw [gw_cp, if_neg (by omega)]
      · have hap := layAt_apart hl hls (by omega)
        have hap' : q + csz m ≤ p := hap
        rw [gw_cp, if_neg (by omega)]
        exact I.none s p sh (by omega) hls
      · have := layAt_ge hl
        rw [gw_cp, if_neg (by omega)]
        exact I.con j hj
    · cases h1
/-! ### Functions, code -/
def toExit : Option Nat → Exit
  | none => .normal
  | some 0 => .ret
  | some (n + 1) => .exit n
def fin (kN : KN) (kX : KX) (ex : Option Nat) (F : Nat) (M : HT) (nx : Nat) : Bool :=
  match ex with
  | none => kN F M nx
  | some e => kX e F M nx
/-- A loop's body, and the loop again. -/
def LoopWp (P : Program) (c : Code) (Q : Exit → Act → World → Prop) (a : Act) (w : World) : Prop :=
  ∀ (b : Frame) (k : List Item) (cs : List Frame), ∃ e a' w', Q e a' w' ∧ Arrives P (lone (b.at a (.code c :: .inLoop c :: k)) cs w) b k cs e a' w'
theorem LoopWp.wp {c : Code} {Q : Exit → Act → World → Prop} {a : Act} {w : World} (h : LoopWp P c Q a w) : (Code.loop c).wp P Q a w := fun b k cs => by
  obtain ⟨e, a', w', hq, harr⟩ := h b k cs
  exact ⟨e, a', w', hq, .of_steps (.one step_loop) harr⟩
theorem LoopWp.step {c : Code} {Q : Exit → Act → World → Prop} {a : Act} {w : World} (h : c.wp P (Exit.then (LoopWp P c Q) Q) a w) : LoopWp P c Q a w := by
  intro b kk cs
  obtain ⟨e, a₁, w₁, hq, harr⟩ := h b (.inLoop c :: kk) cs
  cases e with
  | normal =>
    obtain ⟨e₂, a₂, w₂, hq₂, harr₂⟩ := hq b kk cs
    exact ⟨e₂, a₂, w₂, hq₂, .of_steps (Steps.trans harr (.one step_inLoop)) harr₂⟩
  | exit id => exact ⟨_, a₁, w₁, hq, .pass (x := .inLoop c) rfl (fun _ _ => .inl (by simp)) harr⟩
  | goto l => exact ⟨_, a₁, w₁, hq, .pass (x := .inLoop c) rfl (fun _ _ => .inl (by simp)) harr⟩
  | ret => exact ⟨_, a₁, w₁, hq, .pass (x := .inLoop c) rfl (fun _ _ => .inl (by simp)) harr⟩
  | panic ch => exact ⟨_, a₁, w₁, hq, .pass (x := .inLoop c) rfl (fun _ _ => .inl (by simp)) harr⟩
  | outgrown => exact ⟨_, a₁, w₁, hq, .pass (x := .inLoop c) rfl (fun _ _ => .inl (by simp)) harr⟩
def gwp (P : Program) (code : Code) (Q : Exit → Act → World → Prop) (a : Act) (w : World) : Prop :=
  match code with
  | .loop c => LoopWp P c Q a w
  | c => c.wp P Q a w
theorem gwp_wp {code : Code} {Q : Exit → Act → World → Prop} {a : Act} {w : World} (h : gwp P code Q a w) : code.wp P Q a w := by
  cases code <;> first | exact h | exact LoopWp.wp h
def Out (P : Program) (Y : Lay) (code : Code) (F : Nat) (M : HT) (nx : Nat) (ex : Option Nat) (F' : Nat) (M' : HT) (nx' : Nat) : Prop :=
  nx ≤ nx' ∧ ∀ E a w lm, nx' ≤ lm → FR E Y F a → MR P E M.get nx lm w → ∀ Q : Exit → Act → World → Prop, (∀ E' a' w', Go1 E E' M.get M'.get nx nx' w w' → FR E' Y F' a' → MR P E' M'.get nx' lm w' → Q (toExit ex) a' w') → gwp P code Q a w
abbrev OkDr := Lay → Array Oper → List (CI × List Nat) → List Nat → Bool
def EvOk (P : Program) (T : FT) (okDr : OkDr) (run : Run) : Prop :=
  ∀ (Y : Lay) (code : Code) (cc : CC), okC P T Y (okDr Y) code cc = true → ∀ F M nx kN kX, run cc F M nx kN kX = true → ∃ ex F' M' nx', fin kN kX ex F' M' nx' = true ∧ Out P Y code F M nx ex F' M' nx'
def okFn (P : Program) (T : FT) (okDr : OkDr) (f : Nat) (c : CFn) : Bool :=
  match P.funcs[f]? with
  | some fn => Nat.beq c.Y.nt fn.ntmps && Nat.blt c.Y.con (2 ^ (64 + 96 * c.Y.nc)) && okRes P c.Y fn.results.toList c.res && (match fn.body with | some code => okC P T c.Y (okDr c.Y) code c.code | none => false)
  | none => false
def EntOk (P : Program) (T : FT) (okDr : OkDr) (f : Nat) : Ent → Prop
  | .fn c => okFn P T okDr f c = true
  | .cst Y' cks s R => ∀ (E : GE) (G : Nat) (vs : List Value) (w : World), FA E Y' G vs.length vs → vs.length = Y'.nt → cksOk G cks → Calls P f vs.toArray w fun e w' => ∃ v, e = .returned v ∧ Ext w w' ∧ sR (fun _ => none) (wd (R G)) 0 s v
  | .als Y' l s R => ∀ (E : GE) (G : Nat) (vs : List Value) (w : World), FA E Y' G vs.length vs → vs.length = Y'.nt → (∃ c ∈ l, cksOk G c) → Calls P f vs.toArray w fun e w' => ∃ v, e = .returned v ∧ Ext w w' ∧ sR (fun _ => none) (wd R) 0 s v
def TabOk (P : Program) (T : FT) (okDr : OkDr) : Prop := ∀ f e, T.get f = some e → EntOk P T okDr f e
theorem MR.ext {E : GE} {f : Nat → Nat} {w w' : World} {lm : Nat} (MM : MR P E f nx lm w) (h : Ext w w') : MR P E f nx lm w' ∧ Go1 E E f f nx nx w w' :=
  ⟨⟨fun b hb => by obtain ⟨g, h1, h2⟩ := MM.obj b hb; exact ⟨g, h1, h2.move (GE.le_refl E) fun k hk => h.block k (MM.blt b k (by simp [GE.blk, h1, hk]))⟩, MM.inj, MM.free, fun b k hb => Nat.lt_of_lt_of_le (MM.blt b k hb) h.size, MM.low⟩,
    ⟨GE.le_refl E, Nat.le_refl _, h.os, h.tape, h.output, h.size, fun k hk _ => h.block k hk, fun b k h0 hb => by (rw [h0] at hb; cases hb), fun b hb => .inl hb⟩⟩
variable {okDr : OkDr} {run : Run}
theorem fnArgs_eq {op : Op} {f : Nat} {args : List Operand} (h : fnArgs op = some (f, args)) : ∃ ts, op = .call { callee := .value (.func f), args := args.toArray, argTypes := ts } := by
  unfold fnArgs at h
  split at h
  · simp only [Option.some.injEq, Prod.mk.injEq] at h
    obtain ⟨rfl, rfl⟩ := h
    exact ⟨_, by rw [Array.toArray_toList]⟩
  · cases h
/-- A function's code, run from a call. -/
theorem fn_calls {c : CFn} {f : Nat} {K : Nat → HT → Nat → Bool} {G : Nat} (HR : EvOk P T okDr run) (hok : okFn P T okDr f c = true)
    (h : run c.code G M nx (fun G M nx => eRes c.res G M fun R => K R M nx) (fun e G M nx => need (Nat.beq e 0) (eRes c.res G M fun R => K R M nx)) = true) :
    ∃ R M' nx', K R M' nx' = true ∧ nx ≤ nx' ∧ ∀ E (vs : List Value) w lm, nx' ≤ lm → FA E c.Y G vs.length vs → vs.length ≤ c.Y.nt → MR P E M.get nx lm w →
      Calls P f vs.toArray w fun e w' => ∃ v E', e = .returned v ∧ Go1 E E' M.get M'.get nx nx' w w' ∧ MR P E' M'.get nx' lm w' ∧ sR E' (wd R) 0 (resSh c.res) v := by
  unfold okFn at hok
  split at hok
  · rename_i fn hf
    simp only [Bool.and_eq_true] at hok
    obtain ⟨⟨⟨h1, h2⟩, h3⟩, h4⟩ := hok
    have h1 := Nat.eq_of_beq_eq_true h1
    have h2 : c.Y.con < 2 ^ (64 + 96 * c.Y.nc) := blt_of h2
    split at h4
    · rename_i code hb
      obtain ⟨ex, G', M', nx', g1, g2⟩ := HR _ _ _ h4 _ _ _ _ _ h
      have hres : (ex = none ∨ ex = some 0) ∧ eRes c.res G' M' (fun R => K R M' nx') = true := by
        unfold fin at g1
        split at g1
        · exact ⟨.inl rfl, g1⟩
        · rw [need_iff] at g1
          have := Nat.eq_of_beq_eq_true g1.1
          subst this
          exact ⟨.inr rfl, g1.2⟩
      obtain ⟨hex, hres⟩ := hres
      obtain ⟨R, r1, r2⟩ := eRes_spec (nx := nx') h3 hres
      refine ⟨R, M', nx', r1, g2.1, fun E vs w lm hlm A hlen MM => ?_⟩
      refine calls_of_wp hf hb (gwp_wp (g2.2 E _ w lm hlm ⟨fun s p sh hl => ?_, A.con, ?_, rfl⟩ MM _ fun E' a' w' G1 H' MM' => ?_))
      · by_cases hs : s < vs.length
        · obtain ⟨v, v1, v2⟩ := A.has s p sh hs hl
          have e : (vs.toArray ++ Array.replicate (fn.ntmps - vs.toArray.size) undef).getD s undef = v := by
            rw [Array.getD_eq_getD_getElem?, Array.getElem?_append_left (by simpa using hs)]
            simp [v1]
          rw [e]
          exact v2
        · have h0 := A.none s p sh (by omega) hl
          cases sh with
          | val c => intro hp; exact absurd h0 hp
          | tup cs => intro hp; exact absurd h0 hp
      · simp only [Array.size_append, List.size_toArray, Array.size_replicate]
        rw [← h1]
        omega
      · obtain ⟨v, v1, v2⟩ := r2 E' a' w' H' MM'
        rcases hex with rfl | rfl <;> exact ⟨H'.defers, v, v1, v, E', rfl, G1, MM', v2⟩
    · cases h4
  · cases hok
theorem gw_con {con nc p : Nat} (h : con < 2 ^ (64 + 96 * nc)) (hp : nc ≤ p) : gw con p = 0 := by
  rw [gw_eq, Nat.shiftRight_eq_div_pow, Nat.div_eq_of_lt (Nat.lt_of_lt_of_le h (Nat.pow_le_pow_right (by decide) (by omega))), Nat.zero_mod]
theorem layAt_nc {Y : Lay} {s p : Nat} {sh : Sh} (h : layAt Y.sh Y.nc s = some (p, sh)) : Y.nc ≤ p := layAt_ge h
/-- One word more among a call's. -/
theorem FA.put1 {E : GE} {Y : Lay} {G i : Nat} {vs : List Value} (I : FA E Y G i vs) {d w : Nat} {v : Value} (hl : layAt Y.sh Y.nc i = some (d, .val 0)) (hw : w < 2 ^ 96) (hv : cv E w = some v) : FA E Y (cp G d 1 w) (i + 1) (vs ++ [v]) := by
  refine ⟨fun s p sh hs hls => ?_, fun s p sh hs hls => ?_, fun j hj => ?_, by simp [I.len]⟩
  · by_cases e : s = i
    · subst e
      rw [hl] at hls
      simp only [Option.some.injEq, Prod.mk.injEq] at hls
      obtain ⟨rfl, rfl⟩ := hls
      refine ⟨v, by rw [List.getElem?_append_right (by rw [I.len]; exact Nat.le_refl _), I.len, Nat.sub_self]; rfl, fun _ => ?_⟩
      show cv E (gw (cp G d 1 w) d) = some v
      rw [gw_cp, if_pos (by omega), Nat.sub_self, wd_small hw]
      exact hv
    · obtain ⟨u, g1, g2⟩ := I.has s p sh (by omega) hls
      refine ⟨u, by rw [List.getElem?_append_left (by rw [I.len]; omega)]; exact g1, sR_move g2 fun j hj => ?_⟩
      have := layAt_apart hls hl (by omega)
      rw [gw_cp, if_neg (by omega)]
  · have hap := layAt_apart hl hls (by omega)
    have hap' : d + 1 ≤ p := hap
    rw [gw_cp, if_neg (by omega)]
    exact I.none s p sh (by omega) hls
  · have := layAt_ge hl
    rw [gw_cp, if_neg (by omega)]
    exact I.con j hj
theorem entGo_spec {f : Nat} {e : Ent} {G : Nat} {K : Nat → HT → Nat → Bool} (HR : EvOk P T okDr run) (HT' : TabOk P T okDr) (he : T.get f = some e) (h : entGo run e M nx K G = true) : ∃ R M' nx', K R M' nx' = true ∧ nx ≤ nx' ∧ ∀ E (vs : List Value) w lm, nx' ≤ lm → FA E (entLay e) G vs.length vs → lenOk e vs.length = true → MR P E M.get nx lm w →
    Calls P f vs.toArray w fun r w' => ∃ v E', r = .returned v ∧ Go1 E E' M.get M'.get nx nx' w w' ∧ MR P E' M'.get nx' lm w' ∧ sR E' (wd R) 0 (entSh e) v := by
  have hent := HT' f e he
  cases e with
  | fn c =>
    obtain ⟨R, M', nx', r1, r0, r2⟩ := fn_calls HR hent h
    exact ⟨R, M', nx', r1, r0, fun E vs w lm hlm A hlen MM => r2 E vs w lm hlm A (Nat.le_of_ble_eq_true hlen) MM⟩
  | cst Y' cks s' R' =>
    have h : eCks G cks (K (R' G) M nx) = true := h
    obtain ⟨k4, k5⟩ := eCks_spec h
    refine ⟨R' G, M, nx, k5, Nat.le_refl _, fun E vs w lm hlm A hlen MM => ?_⟩
    refine (hent E G vs w A (Nat.eq_of_beq_eq_true hlen) k4).mono fun r w' ⟨v, hr, g1, g2⟩ => ?_
    obtain ⟨MM', G1⟩ := MM.ext g1
    exact ⟨v, E, hr, G1, MM', sR_mono (fun b g hb => by cases hb) g2⟩
  | als Y' l s' R' =>
    have h : eAny G l (K R' M nx) = true := h
    obtain ⟨k4, k5⟩ := eAny_spec h
    refine ⟨R', M, nx, k5, Nat.le_refl _, fun E vs w lm hlm A hlen MM => ?_⟩
    refine (hent E G vs w A (Nat.eq_of_beq_eq_true hlen) k4).mono fun r w' ⟨v, hr, g1, g2⟩ => ?_
    obtain ⟨MM', G1⟩ := MM.ext g1
    exact ⟨v, E, hr, G1, MM', sR_mono (fun b g hb => by cases hb) g2⟩
def prw (d : Option Nat) (w : Nat) : List (Nat × Nat) := match d with | none => [] | some d => [(d, w)]
def prv (d : Option Nat) (v : Value) : List Value := match d with | none => [] | some _ => [v]
theorem call_core {o : Oper} {f w1 w2 : Nat} {pre post : Option Nat} {args : List Operand} {as : List (Nat × Nat × Nat)} {s : Option Sh} {K : Nat → HT → Nat → Bool} (HR : EvOk P T okDr run) (HT' : TabOk P T okDr) (hok : okEnt T Y f pre args as post s = true) (hm : ∀ x ∈ args, x ∈ opList o.op)
    (h : evCall T run f (prw pre w1) as (prw post w2) F M nx K = true) : ∃ R M' nx', K R M' nx' = true ∧ nx ≤ nx' ∧ ∀ E a w lm, nx' ≤ lm → FO E Y F a o → MR P E M.get nx lm w → ∀ v1 v2, (pre.isSome = true → cv E w1 = some v1 ∧ w1 < 2 ^ 96) → (post.isSome = true → cv E w2 = some v2 ∧ w2 < 2 ^ 96) →
      Calls P f (prv pre v1 ++ args.map a.eval ++ prv post v2).toArray w fun r w' => ∃ v E', r = .returned v ∧ Go1 E E' M.get M'.get nx nx' w w' ∧ MR P E' M'.get nx' lm w' ∧ ∀ sh, s = some sh → sR E' (wd R) 0 sh v := by
  unfold okEnt at hok
  split at hok
  · rename_i e he
    simp only [Bool.and_eq_true] at hok
    obtain ⟨⟨⟨⟨⟨h1, h2⟩, h3⟩, h4⟩, h5⟩, h6⟩ := hok
    have hcon : (entLay e).con < 2 ^ (64 + 96 * (entLay e).nc) := blt_of h4
    unfold evCall at h
    rw [he] at h
    have h : ePre (prw pre w1) (entLay e).con (fun G => eArgs F as G fun G => ePre (prw post w2) G (entGo run e M nx K)) = true := h
    have hA0 : ∀ E, FA E (entLay e) (entLay e).con 0 [] := fun E => ⟨fun s p sh hs => by omega, fun s p sh _ hl => gw_con hcon (layAt_nc hl), fun j hj => rfl, rfl⟩
    obtain ⟨G0, k0, hG0⟩ : ∃ G0, eArgs F as G0 (fun G => ePre (prw post w2) G (entGo run e M nx K)) = true ∧ ∀ E v1, (pre.isSome = true → cv E w1 = some v1 ∧ w1 < 2 ^ 96) → FA E (entLay e) G0 (cond pre.isSome 1 0) (prv pre v1) := by
      cases pre with
      | none => exact ⟨_, h, fun E v1 _ => hA0 E⟩
      | some d =>
        refine ⟨cp (entLay e).con d 1 w1, h, fun E v1 hv => ?_⟩
        obtain ⟨e1, e2⟩ := hv rfl
        unfold okAt at h1
        simp only at h1
        split at h1
        · rename_i q hl
          have := Nat.eq_of_beq_eq_true h1
          subst this
          exact (hA0 E).put1 hl e2 e1
        · cases h1
    obtain ⟨G1, k1, _, k2⟩ := eArgs_spec (o := o) h2 hm k0
    obtain ⟨G2, k3, hG2⟩ : ∃ G2, entGo run e M nx K G2 = true ∧ ∀ E a v1 v2, FO E Y F a o → (pre.isSome = true → cv E w1 = some v1 ∧ w1 < 2 ^ 96) → (post.isSome = true → cv E w2 = some v2 ∧ w2 < 2 ^ 96) → FA E (entLay e) G2 (cond pre.isSome 1 0 + args.length + cond post.isSome 1 0) (prv pre v1 ++ args.map a.eval ++ prv post v2) := by
      cases post with
      | none => exact ⟨G1, k1, fun E a v1 v2 H p1 _ => by simpa [prv] using k2 E a _ H (hG0 E v1 p1)⟩
      | some d =>
        refine ⟨cp G1 d 1 w2, k1, fun E a v1 v2 H p1 hv => ?_⟩
        obtain ⟨e1, e2⟩ := hv rfl
        unfold okAt at h3
        simp only at h3
        split at h3
        · rename_i q hl
          have := Nat.eq_of_beq_eq_true h3
          subst this
          exact (k2 E a _ H (hG0 E v1 p1)).put1 hl e2 e1
        · cases h3
    obtain ⟨R, M', nx', r1, r0, r2⟩ := entGo_spec HR HT' he k3
    refine ⟨R, M', nx', r1, r0, fun E a w lm hlm H MM v1 v2 p1 p2 => ?_⟩
    have A := hG2 E a v1 v2 H p1 p2
    have hlen := A.len
    rw [← hlen] at A h5
    refine (r2 E _ w lm hlm A h5 MM).mono fun r w' ⟨v, E', g1, g2, g3, g4⟩ => ⟨v, E', g1, g2, g3, fun sh hs => ?_⟩
    subst hs
    have := shEq_eq h6
    rw [this]
    exact g4
  · cases hok
/-- A call. -/
theorem evCall_spec {o : Oper} {f : Nat} {as : List (Nat × Nat × Nat)} {s : Option Sh} {K : Nat → HT → Nat → Bool} (HR : EvOk P T okDr run) (HT' : TabOk P T okDr) (hok : okI' P T Y o.op (.call f as) s = true)
    (h : evCall T run f [] as [] F M nx K = true) : ∃ R M' nx', K R M' nx' = true ∧ Runs P Y o s F M.get nx R M'.get nx' := by
  simp only [okI'] at hok
  split at hok
  · rename_i g args hop
    simp only [Bool.and_eq_true] at hok
    obtain ⟨⟨h1, h2⟩, h3⟩ := hok
    have h1 := Nat.eq_of_beq_eq_true h1
    subst h1
    obtain ⟨ts, ho⟩ := fnArgs_eq hop
    obtain ⟨R, M', nx', r1, r0, r2⟩ := call_core (pre := none) (post := none) (w1 := 0) (w2 := 0) (o := o) HR HT' h3 (fun x hx => by simp [opList, ho]; exact .inr hx) h
    refine ⟨R, M', nx', r1, r0, fun E a w lm hlm H MM K' Q hK => ?_⟩
    unfold Oper.wp
    rw [run_call ho rfl h2, Oper.upon_enter]
    have := r2 E a w lm hlm H MM undef undef (fun h => by cases h) (fun h => by cases h)
    simp only [prv, List.nil_append, List.append_nil] at this
    refine this.mono fun e w' ⟨v, E', he, g1, g2, g3⟩ => ?_
    subst he
    exact hK E' v w' g1 g2 g3
  · cases hok
theorem call_fn {f : FuncId} {args : Array Value} {w : World} (hf : goFn P f = true) : (callFunc f args).run P w = .ok (.enter f args) w := by
  unfold goFn at hf
  cases h : P.funcs[f]? with
  | none => rw [h] at hf; cases hf
  | some fn =>
    rw [h] at hf
    simp only [Bool.and_eq_true, Bool.not_eq_true'] at hf
    obtain ⟨h1, h2⟩ := hf
    have h3 : ¬ fn.body = none := by cases hb : fn.body <;> simp_all
    have h4 : ¬ fn.name = "runtime.NumGoroutine" := by simpa using h2
    simp [callFunc, h, h4, h3, program, Sem.run]
theorem pOf_cv {E : GE} {w g T' c : Nat} (h : E (w / 2097152 % 16777216) = some (.obj g T' c)) (hw : w < 2 ^ 96) : cv E (pOf w) = some (.pointer (some ⟨g, w / 35184372088832, none⟩)) ∧ pOf w < 2 ^ 96 := by
  have e5 : ∀ u k, Nat.shiftLeft u k = u * 2 ^ k := fun u k => Nat.shiftLeft_eq u k
  have e : pOf w = (w / 2097152 % 16777216 + w / 35184372088832 * 16777216) * 32 + 13 := by
    unfold pOf
    rw [e5, e5, shr21, shr45]; rfl
  obtain ⟨b1, b2, b3⟩ := ptrw (b := w / 2097152 % 16777216) (o := w / 35184372088832) (by omega)
  rw [e]
  refine ⟨?_, by omega⟩
  rw [cv_ptr b1, b2, b3, GE.pt, h]
  rfl
theorem invArgs_eq {op : Op} {x : Operand} {name : String} {args : List Operand} (h : invArgs op = some (x, name, args)) : ∃ ts, op = .call { callee := .invoke x name, args := args.toArray, argTypes := ts } := by
  unfold invArgs at h
  split at h
  · simp only [Option.some.injEq, Prod.mk.injEq] at h
    obtain ⟨rfl, rfl, rfl⟩ := h
    exact ⟨_, by rw [Array.toArray_toList]⟩
  · cases h
theorem dynArgs_eq {op : Op} {x : Operand} {args : List Operand} (h : dynArgs op = some (x, args)) : ∃ ts, op = .call { callee := .value x, args := args.toArray, argTypes := ts } := by
  unfold dynArgs at h
  split at h
  · simp only [Option.some.injEq, Prod.mk.injEq] at h
    obtain ⟨rfl, rfl⟩ := h
    exact ⟨_, by rw [Array.toArray_toList]⟩
  · cases h
theorem run_inv {ρ : Operand → Value} {o : Oper} {w : World} {x : Operand} {name : String} {args : List Operand} {ts : Array TypeId} {T f : Nat} {ad : Addr} (ho : o.op = .call { callee := .invoke x name, args := args.toArray, argTypes := ts }) (hx : ρ x = .iface T (.pointer (some ad))) (hm : tyMth P T name f = true) (hg : goFn P f = true) :
    (execOp ρ o).run P w = .ok (.enter f (.pointer (some ad) :: args.map ρ).toArray) w := by
  obtain ⟨i, m, el, g1, g2, g3, g4, g5, g6⟩ := tyMth_spec hm
  have hmth : ∀ n, (method (n + 1) T (.pointer (some ad)) name).run P w = .ok (f, .pointer (some ad)) w := fun n => by
    unfold method
    simp [typeInfo, g1, g2, g3, g4, follow, g5, receiverAt, run_underlying g6, Place.get]
  have hfuel : ∃ n, P.types.size + Made.depth = n + 1 := ⟨P.types.size + Made.depth - 1, by simp [Made.depth]⟩
  obtain ⟨n, hfuel⟩ := hfuel
  have hcf := call_fn (P := P) (w := w) (args := #[.pointer (some ad)] ++ (args.map ρ).toArray) hg
  have hcm : (callMethod (.iface T (.pointer (some ad))) name (args.map ρ).toArray).run P w = .ok (.enter f (.pointer (some ad) :: args.map ρ).toArray) w := by
    simp only [callMethod, Sem.run_bind]
    simp [hfuel, hmth n]
    simpa using hcf
  have hargs : (#[ρ x] ++ args.toArray.map ρ)[0]? = some (ρ x) := by simp
  simp only [execOp, ho, resolve, Sem.run_bind, Sem.run_pure, Result.andThen_ok, invoke]
  have ht : (args.map ρ).take args.length = args.map ρ := List.take_of_length_le (by simp)
  simp [hx]
  rw [ht]
  exact hcm
theorem inv_spec {o : Oper} {p : Nat} {cs : List (Nat × Nat × Nat × List (Nat × Nat × Nat))} {s : Option Sh} {K : Nat → HT → Nat → Bool} (HR : EvOk P T okDr run) (HT' : TabOk P T okDr) (hok : okI' P T Y o.op (.inv p cs) s = true)
    (h : ck (gw F p) 22 (List.rec (motive := fun _ => Bool) false (fun c _ ih => iff' (Nat.beq (Nat.land (Nat.shiftRight (gw F p) 5) 65535) c.1) (evCall T run c.2.1 [(c.2.2.1, pOf (gw F p))] c.2.2.2 [] F M nx K) ih) cs) = true) : ∃ R M' nx', K R M' nx' = true ∧ Runs P Y o s F M.get nx R M'.get nx' := by
  simp only [okI'] at hok
  split at hok
  · rename_i x name args hop
    rw [Bool.and_eq_true] at hok
    obtain ⟨hx, hall⟩ := hok
    obtain ⟨ts, ho⟩ := invArgs_eq hop
    rw [ck_iff] at h
    obtain ⟨hk, h⟩ := h
    have mX : x ∈ opList o.op := by simp [opList, ho]
    induction cs with
    | nil => cases h
    | cons c cs ih =>
      have h : iff' (Nat.beq (Nat.land (Nat.shiftRight (gw F p) 5) 65535) c.1) (evCall T run c.2.1 [(c.2.2.1, pOf (gw F p))] c.2.2.2 [] F M nx K) (List.rec (motive := fun _ => Bool) false (fun c _ ih => iff' (Nat.beq (Nat.land (Nat.shiftRight (gw F p) 5) 65535) c.1) (evCall T run c.2.1 [(c.2.2.1, pOf (gw F p))] c.2.2.2 [] F M nx K) ih) cs) = true := h
      rw [iff'_eq] at h
      simp only [List.all_cons, Bool.and_eq_true] at hall
      split at h
      · rename_i hT
        have hT := Nat.eq_of_beq_eq_true hT
        rw [land16, shr5] at hT
        obtain ⟨⟨⟨h1, h2⟩, h3⟩, _⟩ := hall
        obtain ⟨R, M', nx', r1, r0, r2⟩ := call_core (pre := some c.2.2.1) (post := none) (w1 := pOf (gw F p)) (w2 := 0) (o := o) HR HT' h3 (fun x hx => by simp [opList, ho]; exact .inr hx) h
        refine ⟨R, M', nx', r1, r0, fun E a w lm hlm H MM K' Q hK => ?_⟩
        obtain ⟨g, T', c', a1, a2⟩ := rdIf H mX hx hk
        rw [hT] at a2
        unfold Oper.wp
        rw [run_inv ho a2 h1 h2, Oper.upon_enter]
        have := r2 E a w lm hlm H MM (.pointer (some ⟨g, gw F p / 35184372088832, none⟩)) undef (fun _ => pOf_cv a1 (gw_lt _ _)) (fun h => by cases h)
        simp only [prv, List.append_nil] at this
        refine this.mono fun e w' ⟨v, E', he, g1, g2, g3⟩ => ?_
        subst he
        exact hK E' v w' g1 g2 g3
      · exact ih hall.2 h
  · cases hok
theorem run_dyn {ρ : Operand → Value} {o : Oper} {w : World} {x : Operand} {args : List Operand} {ts : Array TypeId} {f : FuncId} {cs : List Value} (ho : o.op = .call { callee := .value x, args := args.toArray, argTypes := ts }) (hx : ρ x = .func (.func f) #[] cs.toArray) (hg : goFn P f = true) :
    (execOp ρ o).run P w = .ok (.enter f (args.map ρ ++ cs).toArray) w := by
  have hcf := call_fn (P := P) (w := w) (args := (args.map ρ ++ cs).toArray) hg
  simp only [execOp, ho, resolve, hx, Deferred.ofValue, Sem.run_bind, Sem.run_pure, Result.andThen_ok, invoke]
  simpa using hcf
theorem dyn_spec {o : Oper} {p : Nat} {cs : List (Nat × List (Nat × Nat × Nat) × Nat)} {s : Option Sh} {K : Nat → HT → Nat → Bool} (HR : EvOk P T okDr run) (HT' : TabOk P T okDr) (hok : okI' P T Y o.op (.dyn p cs) s = true)
    (h : List.rec (motive := fun _ => Bool) false (fun c _ ih => iff' (Nat.beq c.2.2 0) (iff' (Nat.beq (gw F p) (Nat.add (Nat.mul c.1 32) 23)) (evCall T run c.1 [] c.2.1 [] F M nx K) ih) (iff' (and (Nat.beq (Nat.land (gw F p) 31) 27) (Nat.beq (Nat.land (Nat.shiftRight (gw F p) 5) 65535) c.1)) (evCall T run c.1 [] c.2.1 [(c.2.2, pOf (gw F p))] F M nx K) ih)) cs = true) : ∃ R M' nx', K R M' nx' = true ∧ Runs P Y o s F M.get nx R M'.get nx' := by
  simp only [okI'] at hok
  split at hok
  · rename_i x args hop
    rw [Bool.and_eq_true] at hok
    obtain ⟨hx, hall⟩ := hok
    obtain ⟨ts, ho⟩ := dynArgs_eq hop
    have mX : x ∈ opList o.op := by simp [opList, ho]
    have mA : ∀ y ∈ args, y ∈ opList o.op := fun y hy => by simp [opList, ho]; exact .inr hy
    induction cs with
    | nil => cases h
    | cons c cs ih =>
      generalize hrest : (List.rec (motive := fun _ => Bool) false (fun c _ ih => iff' (Nat.beq c.2.2 0) (iff' (Nat.beq (gw F p) (Nat.add (Nat.mul c.1 32) 23)) (evCall T run c.1 [] c.2.1 [] F M nx K) ih) (iff' (and (Nat.beq (Nat.land (gw F p) 31) 27) (Nat.beq (Nat.land (Nat.shiftRight (gw F p) 5) 65535) c.1)) (evCall T run c.1 [] c.2.1 [(c.2.2, pOf (gw F p))] F M nx K) ih)) cs : Bool) = rest at *
      have h : iff' (Nat.beq c.2.2 0) (iff' (Nat.beq (gw F p) (Nat.add (Nat.mul c.1 32) 23)) (evCall T run c.1 [] c.2.1 [] F M nx K) rest) (iff' (and (Nat.beq (Nat.land (gw F p) 31) 27) (Nat.beq (Nat.land (Nat.shiftRight (gw F p) 5) 65535) c.1)) (evCall T run c.1 [] c.2.1 [(c.2.2, pOf (gw F p))] F M nx K) rest) = true := by rw [← hrest]; exact h
      simp only [List.all_cons, Bool.and_eq_true] at hall
      rw [iff'_eq, iff'_eq, iff'_eq] at h
      have hd : rest = true → ∃ R M' nx', K R M' nx' = true ∧ Runs P Y o s F M.get nx R M'.get nx' := fun hr => ih hr hall.2
      obtain ⟨⟨h2, h3⟩, _⟩ := hall
      by_cases h0 : c.2.2 = 0
      · rw [if_pos (by rw [h0]; rfl)] at h
        rw [if_pos h0] at h3
        split at h
        · rename_i hw
          have hw : gw F p = c.1 * 32 + 23 := Nat.eq_of_beq_eq_true hw
          obtain ⟨R, M', nx', r1, r0, r2⟩ := call_core (pre := none) (post := none) (w1 := 0) (w2 := 0) (o := o) HR HT' h3 mA h
          refine ⟨R, M', nx', r1, r0, fun E a w lm hlm H MM K' Q hK => ?_⟩
          have hcv := rd1 H mX hx (by omega)
          rw [hw] at hcv
          unfold cv at hcv
          rw [(fword c.1).1, (fword c.1).2] at hcv
          have hv : a.eval x = .func (.func c.1) #[] #[] := by injection hcv with hcv; exact hcv.symm
          unfold Oper.wp
          rw [run_dyn (cs := []) ho hv h2, Oper.upon_enter]
          have := r2 E a w lm hlm H MM undef undef (fun h => by cases h) (fun h => by cases h)
          simp only [prv, List.nil_append, List.append_nil] at this
          rw [List.append_nil]
          refine this.mono fun e w' ⟨v, E', he, g1, g2, g3⟩ => ?_
          subst he
          exact hK E' v w' g1 g2 g3
        · exact hd h
      · rw [if_neg (fun e => h0 (Nat.eq_of_beq_eq_true e))] at h
        rw [if_neg h0] at h3
        split at h
        · rename_i hw
          rw [Bool.and_eq_true, land31, land16, shr5] at hw
          have hk := Nat.eq_of_beq_eq_true hw.1
          have hf := Nat.eq_of_beq_eq_true hw.2
          obtain ⟨R, M', nx', r1, r0, r2⟩ := call_core (pre := none) (post := some c.2.2) (w1 := 0) (w2 := pOf (gw F p)) (o := o) HR HT' h3 mA h
          refine ⟨R, M', nx', r1, r0, fun E a w lm hlm H MM K' Q hK => ?_⟩
          have hcv := rd1 H mX hx (mod_ne hk (by decide))
          unfold cv at hcv
          rw [hk] at hcv
          simp only [cvt, Option.map_eq_some_iff] at hcv
          obtain ⟨a', h6, h7⟩ := hcv
          obtain ⟨g, T', c', h8, rfl⟩ := GE.pt_some h6
          have e1 : gw F p / 32 / 65536 = gw F p / 2097152 := Nat.div_div_eq_div_mul _ _ _
          have e2 : gw F p / 32 / 1099511627776 = gw F p / 35184372088832 := Nat.div_div_eq_div_mul _ _ _
          rw [e1] at h8
          rw [e2, hf] at h7
          unfold Oper.wp
          rw [run_dyn (cs := [.pointer (some ⟨g, gw F p / 35184372088832, none⟩)]) ho h7.symm h2, Oper.upon_enter]
          have := r2 E a w lm hlm H MM undef (.pointer (some ⟨g, gw F p / 35184372088832, none⟩)) (fun h => by cases h) (fun _ => pOf_cv h8 (gw_lt _ _))
          simp only [prv, List.nil_append] at this
          refine this.mono fun e w' ⟨v, E', he, g1, g2, g3⟩ => ?_
          subst he
          exact hK E' v w' g1 g2 g3
        · exact hd h
  · cases hok
theorem evI'_spec {o : Oper} {i : I} {s : Option Sh} {n : Nat} {K : Nat → HT → Nat → Bool} (HR : EvOk P T okDr run) (HT' : TabOk P T okDr) (hn : ∀ sh, s = some sh → n = sh.sz) (hok : okI' P T Y o.op i s = true)
    (h : evI (evCall T run) i n F M nx K = true) : ∃ R M' nx', K R M' nx' = true ∧ OpRes P Y o s F M nx R M' nx' i (cls i) := by
  cases i with
  | bad => cases h
  | call f as =>
    obtain ⟨R, M', nx', h1, h2⟩ := evCall_spec HR HT' hok h
    exact ⟨R, M', nx', h1, h2⟩
  | inv p cs =>
    obtain ⟨R, M', nx', h1, h2⟩ := inv_spec HR HT' hok h
    exact ⟨R, M', nx', h1, h2⟩
  | dyn p cs =>
    obtain ⟨R, M', nx', h1, h2⟩ := dyn_spec HR HT' hok h
    exact ⟨R, M', nx', h1, h2⟩
  | _ => exact evI_spec hn hok h
theorem okD_spec {o : Oper} {d n : Nat} {s : Option Sh} (h : okD Y o d n = some s) : (∀ sh, s = some sh → n = sh.sz) ∧ ((o.dst = none ∧ n = 0 ∧ s = none) ∨ ∃ t sh, o.dst = some t ∧ s = some sh ∧ layAt Y.sh Y.nc t = some (d, sh) ∧ n = sh.sz ∧ t < Y.nt) := by
  unfold okD at h
  split at h
  · rename_i hd
    split at h
    · injection h with h
      subst h
      exact ⟨fun sh e => (by cases e), .inl ⟨hd, by assumption, rfl⟩⟩
    · cases h
  · rename_i t hd
    split at h
    · rename_i q sh hl
      split at h
      · rename_i hc
        injection h with h
        subst h
        simp only [Bool.and_eq_true] at hc
        obtain ⟨⟨e1, e2⟩, e3⟩ := hc
        have e1 := Nat.eq_of_beq_eq_true e1
        subst e1
        exact ⟨fun sh' e => by injection e with e; subst e; exact Nat.eq_of_beq_eq_true e2, .inr ⟨t, sh, hd, rfl, hl, Nat.eq_of_beq_eq_true e2, blt_of e3⟩⟩
      · cases h
    · cases h
/-- The frame behind an instruction. -/
def outF (F d n R : Nat) : Nat := if n = 0 then F else cp F d n R
theorem FR.out {E : GE} {o : Oper} {a : Act} {d n R : Nat} {s : Option Sh} (H : FR E Y F a) (hd : okD Y o d n = some s) {v : Value} (hv : ∀ sh, s = some sh → sR E (wd R) 0 sh v) : FR E Y (outF F d n R) (a.put o.dst v) := by
  rcases (okD_spec hd).2 with ⟨h1, h2, h3⟩ | ⟨t, sh, h1, h2, h3, h4, h5⟩
  · rw [h1]
    unfold outF
    rw [if_pos h2]
    exact H
  · rw [h1]
    unfold outF
    have := sh.sz_pos
    rw [if_neg (by omega), h4]
    exact H.put h3 h5 (hv sh h2)
/-- The guard says no: what is handed on. -/
def noR (n : Nat) : Nat := if n = 1 then 9 else 0
theorem noR_sR {E : GE} {sh : Sh} : sR E (wd (noR sh.sz)) 0 sh undef := by
  unfold noR
  split
  · rename_i h
    cases sh with
    | val c =>
      cases c with
      | zero => exact sR_one (by decide) rfl
      | succ c => simp [Sh.sz, csz] at h
    | tup cs =>
      cases cs with
      | nil => intro _; exact ⟨[], rfl, trivial⟩
      | cons c r => have := csz_pos c; simp only [Sh.sz, csum] at h; omega
  · cases sh with
    | val c => intro h; exact absurd (wd_zero 0) h
    | tup cs => intro h; exact absurd (wd_zero 0) h
/-- What an instruction in its place does. -/
inductive CIRes (P : Program) (Y : Lay) (ops : Array Oper) (o : Oper) (F : Nat) (M : HT) (nx : Nat) (d n : Nat) (s : Option Sh) : (R : Nat) → (M' : HT) → (nx' : Nat) → Option (Nat × Nat) → Option I → Prop
  | run (g : Option (Nat × Nat)) (i : I) (R : Nat) (M' : HT) (nx' : Nat) (hg : match g with | none => o.guard = none | some (p, w) => okG Y ops o p w = true ∧ gw F p = w) (hr : OpRes P Y o s F M nx R M' nx' i (cls i)) : CIRes P Y ops o F M nx d n s R M' nx' g (some i)
  | no (p w : Nat) (hg : okG Y ops o p w = true) (hw : gw F p = 54 - w ∨ gw F p = 9) : CIRes P Y ops o F M nx d n s (noR n) M nx (some (p, w)) none
theorem evCI_spec {ops : Array Oper} {o : Oper} {c : CI} {k : KN} (HR : EvOk P T okDr run) (HT' : TabOk P T okDr) (hok : okCI P T Y ops o c = true) (h : evCI T run c F M nx k = true) :
    ∃ d n s R M' nx' g i, okD Y o d n = some s ∧ CIRes P Y ops o F M nx d n s R M' nx' g i ∧ k (outF F d n R) M' nx' = true := by
  have hrec : ∀ (n d R : Nat) (M : HT) (nx : Nat), (Nat.rec (motive := fun _ => Bool) (k F M nx) (fun _ _ => lz (cp F d n R) fun F => k F M nx) n : Bool) = k (outF F d n R) M nx := by
    intro n d R M nx
    cases n with
    | zero => rfl
    | succ n => unfold outF; rw [if_neg (by omega)]; exact lz_eq _ _
  cases c with
  | go d n i =>
    simp only [okCI, Bool.and_eq_true] at hok
    obtain ⟨h1, h2⟩ := hok
    split at h2
    · rename_i s hs
      have h : evI (evCall T run) i n F M nx (fun R M nx => Nat.rec (motive := fun _ => Bool) (k F M nx) (fun _ _ => lz (cp F d n R) fun F => k F M nx) n) = true := h
      obtain ⟨R, M', nx', r1, r2⟩ := evI'_spec HR HT' (okD_spec hs).1 h2 h
      rw [hrec] at r1
      refine ⟨d, n, s, R, M', nx', none, some i, hs, .run none i R M' nx' ?_ r2, r1⟩
      split at h1
      · assumption
      · cases h1
    · cases h2
  | gd g want d n i =>
    simp only [okCI, Bool.and_eq_true] at hok
    obtain ⟨h1, h2⟩ := hok
    split at h2
    · rename_i s hs
      have h : iff' (Nat.beq (gw F g) want) (evI (evCall T run) i n F M nx (fun R M nx => Nat.rec (motive := fun _ => Bool) (k F M nx) (fun _ _ => lz (cp F d n R) fun F => k F M nx) n))
        (need (or (Nat.beq (gw F g) (Nat.sub 54 want)) (Nat.beq (gw F g) 9)) (Nat.rec (motive := fun _ => Bool) (k F M nx) (fun m _ => lz (cp F d n (Nat.rec (motive := fun _ => Nat) 9 (fun _ _ => 0) m)) fun F => k F M nx) n)) = true := h
      rw [iff'_eq] at h
      split at h
      · rename_i hg
        obtain ⟨R, M', nx', r1, r2⟩ := evI'_spec HR HT' (okD_spec hs).1 h2 h
        rw [hrec] at r1
        exact ⟨d, n, s, R, M', nx', some (g, want), some i, hs, .run (some (g, want)) i R M' nx' ⟨h1, Nat.eq_of_beq_eq_true hg⟩ r2, r1⟩
      · rw [need_iff] at h
        obtain ⟨hg, h⟩ := h
        have e : (Nat.rec (motive := fun _ => Bool) (k F M nx) (fun m _ => lz (cp F d n (Nat.rec (motive := fun _ => Nat) 9 (fun _ _ => 0) m)) fun F => k F M nx) n : Bool) = k (outF F d n (noR n)) M nx := by
          cases n with
          | zero => rfl
          | succ n =>
            unfold outF noR
            rw [if_neg (by omega)]
            cases n with
            | zero => rw [if_pos rfl]; exact lz_eq _ _
            | succ n => rw [if_neg (by omega)]; exact lz_eq _ _
        rw [e] at h
        refine ⟨d, n, s, noR n, M, nx, some (g, want), none, hs, .no g want h1 ?_, h⟩
        rw [Bool.or_eq_true] at hg
        rcases hg with hg | hg
        · exact .inl (Nat.eq_of_beq_eq_true hg)
        · exact .inr (Nat.eq_of_beq_eq_true hg)
    · cases h2
/-- What a guard says. -/
theorem guard_says {E : GE} {ops : Array Oper} {o : Oper} {a : Act} {p w : Nat} (hg : okG Y ops o p w = true) (htm : ∀ j b t, o.guard = some (j, b) → (ops[j]?).bind (·.dst) = some t → ∀ q sh, layAt Y.sh Y.nc t = some (q, sh) → sR E (gw F) q sh (a.tmps.getD t undef)) (hs : a.tmps.size = Y.nt) :
    (gw F p = w → Region.wanted o (yielded ops a.tmps) = true) ∧ (gw F p = 54 - w ∨ gw F p = 9 → Region.wanted o (yielded ops a.tmps) = false) := by
  unfold okG at hg
  split at hg
  · rename_i j b hgu
    rw [Bool.and_eq_true] at hg
    obtain ⟨h1, h2⟩ := hg
    have h2 := Nat.eq_of_beq_eq_true h2
    split at h1
    · rename_i t ht
      split at h1
      · rename_i q hl
        rw [Bool.and_eq_true] at h1
        have e1 := Nat.eq_of_beq_eq_true h1.1
        subst e1
        have htl : t < Y.nt := blt_of h1.2
        have hv := htm j b t hgu ht q _ hl
        have hget : a.tmps[t]? = some (a.tmps.getD t undef) := by
          rw [Array.getD_eq_getD_getElem?, Array.getElem?_eq_getElem (by rw [hs]; exact htl)]
          rfl
        have hy : ∀ u, a.tmps.getD t undef = u → yielded ops a.tmps j = match u with | .bool b => some b | _ => none := by
          intro u hu
          unfold yielded
          rw [ht]
          simp only [Option.bind_some, hget, hu]
          cases u <;> rfl
        constructor
        · intro hp
          have : cv E (gw F q) = some (a.tmps.getD t undef) := hv (by rw [hp, h2]; cases b <;> decide)
          rw [hp, h2] at this
          have hb : a.tmps.getD t undef = .bool b := by
            cases b <;> (injection this with this; exact this.symm)
          unfold Region.wanted
          rw [hgu]
          simp only [hy _ hb]
          simp
        · intro hp
          have hne : gw F q ≠ 0 := by
            rcases hp with hp | hp
            · rw [hp, h2]; cases b <;> decide
            · rw [hp]; decide
          have : cv E (gw F q) = some (a.tmps.getD t undef) := hv hne
          rcases hp with hp | hp
          · rw [hp, h2] at this
            have hb : a.tmps.getD t undef = .bool (!b) := by
              cases b <;> (injection this with this; exact this.symm)
            unfold Region.wanted
            rw [hgu]
            simp only [hy _ hb]
            cases b <;> rfl
          · rw [hp] at this
            have hb : a.tmps.getD t undef = undef := by injection this with this; exact this.symm
            unfold Region.wanted
            rw [hgu]
            simp only [hy _ hb]
            rfl
      · cases h1
    · cases h1
  · cases hg
/-- In the text's order. -/
theorem evL_spec {ops : Array Oper} (HR : EvOk P T okDr run) (HT' : TabOk P T okDr) : ∀ {os : List Oper} {l : List CI} {F : Nat} {M : HT} {nx : Nat} {k : KN}, okL P T Y ops os l = true → evL T run l F M nx k = true →
    ∃ F' M' nx', k F' M' nx' = true ∧ nx ≤ nx' ∧ ∀ E a w lm, nx' ≤ lm → FR E Y F a → MR P E M.get nx lm w → ∀ Q : Exit → Act → World → Prop, (∀ E' a' w', Go1 E E' M.get M'.get nx nx' w w' → FR E' Y F' a' → MR P E' M'.get nx' lm w' → Q .normal a' w') → wpList P ops Q os a w
  | [], [], F, M, nx, k, _, h => ⟨F, M, nx, h, Nat.le_refl _, fun E a w lm hlm H MM Q hQ => wpList_nil (hQ E a w Go1.refl H MM)⟩
  | [], _ :: _, _, _, _, _, h, _ => by cases h
  | _ :: _, [], _, _, _, _, h, _ => by cases h
  | o :: os, c :: l, F, M, nx, k, hok, h => by
    simp only [okL, Bool.and_eq_true] at hok
    have h : evCI T run c F M nx (fun F M nx => evL T run l F M nx k) = true := h
    obtain ⟨d, n, s, R, M1, nx1, g, i, h1, h2, h3⟩ := evCI_spec HR HT' hok.1 h
    obtain ⟨F', M', nx', h4, h6, h5⟩ := evL_spec HR HT' hok.2 h3
    have hle : nx ≤ nx1 := by
      cases h2 with
      | run g i R M' nx' hg hr => exact hr.runs.le
      | no p w hg hw' => exact Nat.le_refl _
    refine ⟨F', M', nx', h4, Nat.le_trans hle h6, fun E a w lm hlm H MM Q hQ => wpList_step fun K hK => ?_⟩
    have hgs : ∀ p w, okG Y ops o p w = true → (gw F p = w → Region.wanted o (yielded ops a.tmps) = true) ∧ (gw F p = 54 - w ∨ gw F p = 9 → Region.wanted o (yielded ops a.tmps) = false) := fun p w hg => guard_says hg (fun j b t _ _ q sh hl => H.tm t q sh hl) H.size
    cases h2 with
    | run g i R M' nx' hg hr =>
      have hw : Region.wanted o (yielded ops a.tmps) = true := by
        cases g with
        | none => unfold Region.wanted; rw [hg]
        | some pw => exact (hgs _ _ hg.1).1 hg.2
      rw [if_pos hw]
      refine hr.runs.run E a w lm (Nat.le_trans h6 hlm) (H.on o) MM K Q fun E' v w' G1 MM' hv => hK _ _ ?_
      have H' : FR E' Y (outF F d n R) (a.put o.dst v) := (H.mono G1.le).out h1 hv
      exact h5 E' _ w' lm hlm H' MM' Q fun E'' a'' w'' G2 H'' MM'' => hQ E'' a'' w'' (G1.trans G2 MM MM') H'' MM''
    | no p w hg hw' =>
      have hw : Region.wanted o (yielded ops a.tmps) = false := (hgs _ _ hg).2 hw'
      rw [if_neg (by simp [hw])]
      refine hK _ _ ?_
      have H' : FR E Y (outF F d n (noR n)) (a.put o.dst undef) := H.out h1 fun sh hs => by rw [(okD_spec h1).1 sh hs]; exact noR_sR
      exact h5 E _ _ lm hlm H' MM Q hQ
/-- A region of open order, run. -/
def DrOk (P : Program) (T : FT) (okDr : OkDr) : Prop := ∀ (run : Run), EvOk P T okDr run → ∀ (Y : Lay) (id : Nat) (ops : Array Oper) (l : List (CI × List Nat)) (pm : List Nat), okDr Y ops l pm = true → ∀ F M nx k, evD T run l F M nx k = true → ∃ F' M' nx', k F' M' nx' = true ∧ Out P Y (.region id ops true) F M nx none F' M' nx'
/-- Code that was run with so much fuel. -/
theorem evB_ok (HR : EvOk P T okDr run) (HT' : TabOk P T okDr) (HD : DrOk P T okDr) : EvOk P T okDr (evB T run) := by
  intro Y code cc hok F M nx kN kX h
  cases cc with
  | bad => cases h
  | skip =>
    cases code with
    | skip => exact ⟨none, F, M, nx, h, Nat.le_refl _, fun E a w lm hlm H MM Q hQ => wp_skip (hQ E a w Go1.refl H MM)⟩
    | label l => exact ⟨none, F, M, nx, h, Nat.le_refl _, fun E a w lm hlm H MM Q hQ => wp_label (hQ E a w Go1.refl H MM)⟩
    | region id ops draw => cases draw <;> cases hok
    | _ => cases hok
  | sc x =>
    cases code with
    | scope a =>
      have hok' : okC P T Y (okDr Y) a x = true := hok
      obtain ⟨ex, F1, M1, n1, h1, h2⟩ := HR Y a x hok' F M nx _ _ h
      refine ⟨ex, F1, M1, n1, h1, h2.1, fun E ac w lm hlm H MM Q hQ => wp_scope_straight (gwp_wp (h2.2 E ac w lm hlm H MM (Exit.noGoto Q) fun E' a' w' G H' MM' => ?_))⟩
      have hq := hQ E' a' w' G H' MM'
      cases ex with
      | none => exact hq
      | some e => cases e <;> exact hq
    | region id ops draw => cases draw <;> cases hok
    | _ => cases hok
  | rg l =>
    cases code with
    | region id ops draw =>
      cases draw with
      | true => cases hok
      | false =>
        obtain ⟨F', M', nx', h1, h0, h2⟩ := evL_spec HR HT' hok h
        exact ⟨none, F', M', nx', h1, h0, fun E a w lm hlm H MM Q hQ => wp_region_list (h2 E a w lm hlm H MM Q hQ)⟩
    | _ => cases hok
  | dr l pm =>
    cases code with
    | region id ops draw =>
      cases draw with
      | false => cases hok
      | true =>
        obtain ⟨F', M', nx', h1, h2⟩ := HD run HR Y id ops l pm hok F M nx kN h
        exact ⟨none, F', M', nx', h1, h2⟩
    | _ => cases hok
  | sq x y =>
    cases code with
    | seq a b =>
      have hok : (okC P T Y (okDr Y) a x && okC P T Y (okDr Y) b y) = true := hok
      rw [Bool.and_eq_true] at hok
      obtain ⟨ex, F1, M1, n1, h1, h2⟩ := HR Y a x hok.1 F M nx _ _ h
      cases ex with
      | some e =>
        refine ⟨some e, F1, M1, n1, h1, h2.1, fun E ac w lm hlm H MM Q hQ => wp_seq (Code.wp_mono (fun ee a' w' q => ?_) (gwp_wp (h2.2 E ac w lm hlm H MM (fun ee a' w' => ee = toExit (some e) ∧ Q ee a' w') fun E' a' w' G H' MM' => ⟨rfl, hQ E' a' w' G H' MM'⟩)))⟩
        obtain ⟨rfl, q⟩ := q
        cases e with
        | zero => exact q
        | succ e => exact q
      | none =>
        obtain ⟨ex, F2, M2, n2, h3, h4⟩ := HR Y b y hok.2 F1 M1 n1 _ _ h1
        refine ⟨ex, F2, M2, n2, h3, Nat.le_trans h2.1 h4.1, fun E ac w lm hlm H MM Q hQ => wp_seq (gwp_wp (h2.2 E ac w lm (Nat.le_trans h4.1 hlm) H MM _ fun E' a' w' G H' MM' => ?_))⟩
        exact gwp_wp (h4.2 E' a' w' lm hlm H' MM' Q fun E'' a'' w'' G2 H'' MM'' => hQ E'' a'' w'' (G.trans G2 MM MM') H'' MM'')
    | region id ops draw => cases draw <;> cases hok
    | _ => cases hok
  | cd p x y =>
    cases code with
    | cond c a b =>
      have hok : (okO Y c p 0 && okC P T Y (okDr Y) a x && okC P T Y (okDr Y) b y) = true := hok
      simp only [Bool.and_eq_true] at hok
      obtain ⟨⟨h0, h1⟩, h2⟩ := hok
      have h : iff' (Nat.beq (gw F p) 43) (run x F M nx kN kX) (need (Nat.beq (gw F p) 11) (run y F M nx kN kX)) = true := h
      rw [iff'_eq] at h
      have hev : ∀ E (ac : Act), FR E Y F ac → gw F p ≠ 0 → cv E (gw F p) = some (ac.eval c) := fun E ac H hne => by
        have HO : FO E Y F ac { dst := none, op := .move c, type := 0, pos := "", after := #[], guard := none } := H.on _
        exact rd1 HO (by simp [opList]) h0 hne
      split at h
      · rename_i hc
        have hc := Nat.eq_of_beq_eq_true hc
        obtain ⟨ex, F1, M1, n1, h3, h4⟩ := HR Y a x h1 F M nx _ _ h
        refine ⟨ex, F1, M1, n1, h3, h4.1, fun E ac w lm hlm H MM Q hQ => wp_cond_true ?_ (gwp_wp (h4.2 E ac w lm hlm H MM Q hQ))⟩
        have := hev E ac H (by rw [hc]; decide)
        rw [hc] at this
        injection this with this
        exact this.symm
      · rw [need_iff] at h
        have hc := Nat.eq_of_beq_eq_true h.1
        obtain ⟨ex, F1, M1, n1, h3, h4⟩ := HR Y b y h2 F M nx _ _ h.2
        refine ⟨ex, F1, M1, n1, h3, h4.1, fun E ac w lm hlm H MM Q hQ => wp_cond_false ?_ (gwp_wp (h4.2 E ac w lm hlm H MM Q hQ))⟩
        have := hev E ac H (by rw [hc]; decide)
        rw [hc] at this
        injection this with this
        exact this.symm
    | region id ops draw => cases draw <;> cases hok
    | _ => cases hok
  | bl j x =>
    cases code with
    | block id a =>
      have hok : (Nat.beq id j && okC P T Y (okDr Y) a x) = true := hok
      rw [Bool.and_eq_true] at hok
      have e := Nat.eq_of_beq_eq_true hok.1
      subst e
      obtain ⟨ex, F1, M1, n1, h1, h2⟩ := HR Y a x hok.2 F M nx _ _ h
      cases ex with
      | none =>
        exact ⟨none, F1, M1, n1, h1, h2.1, fun E ac w lm hlm H MM Q hQ => wp_block (gwp_wp (h2.2 E ac w lm hlm H MM _ hQ))⟩
      | some e =>
        have hh : iff' (Nat.beq e (Nat.succ id)) (kN F1 M1 n1) (kX e F1 M1 n1) = true := h1
        rw [iff'_eq] at hh
        split at hh
        · rename_i he
          have he := Nat.eq_of_beq_eq_true he
          subst he
          refine ⟨none, F1, M1, n1, hh, h2.1, fun E ac w lm hlm H MM Q hQ => wp_block (gwp_wp (h2.2 E ac w lm hlm H MM _ fun E' a' w' G H' MM' => ?_))⟩
          show Exit.inBlock id Q (.exit id) a' w'
          exact block_exit (hQ E' a' w' G H' MM')
        · rename_i he
          refine ⟨some e, F1, M1, n1, hh, h2.1, fun E ac w lm hlm H MM Q hQ => wp_block (gwp_wp (h2.2 E ac w lm hlm H MM _ fun E' a' w' G H' MM' => ?_))⟩
          have hq := hQ E' a' w' G H' MM'
          cases e with
          | zero => exact hq
          | succ e =>
            have hne : (e == id) = false := by
              rw [beq_eq_false_iff_ne]
              intro hh
              subst hh
              exact he (Nat.beq_refl _)
            exact block_other hne hq
    | region id ops draw => cases draw <;> cases hok
    | _ => cases hok
  | lp x =>
    cases code with
    | loop a =>
      have hok' : okC P T Y (okDr Y) a x = true := hok
      obtain ⟨ex, F1, M1, n1, h1, h2⟩ := HR Y a x hok' F M nx _ _ h
      cases ex with
      | some e =>
        refine ⟨some e, F1, M1, n1, h1, h2.1, fun E ac w lm hlm H MM Q hQ => LoopWp.step (Code.wp_mono (fun ee a' w' q => ?_) (gwp_wp (h2.2 E ac w lm hlm H MM (fun ee a' w' => ee = toExit (some e) ∧ Q ee a' w') fun E' a' w' G H' MM' => ⟨rfl, hQ E' a' w' G H' MM'⟩)))⟩
        obtain ⟨rfl, q⟩ := q
        cases e with
        | zero => exact q
        | succ e => exact q
      | none =>
        obtain ⟨ex, F2, M2, n2, h3, h4⟩ := HR Y (.loop a) (.lp x) hok F1 M1 n1 _ _ h1
        refine ⟨ex, F2, M2, n2, h3, Nat.le_trans h2.1 h4.1, fun E ac w lm hlm H MM Q hQ => LoopWp.step (gwp_wp (h2.2 E ac w lm (Nat.le_trans h4.1 hlm) H MM _ fun E' a' w' G H' MM' => ?_))⟩
        exact h4.2 E' a' w' lm hlm H' MM' Q fun E'' a'' w'' G2 H'' MM'' => hQ E'' a'' w'' (G.trans G2 MM MM') H'' MM''
    | region id ops draw => cases draw <;> cases hok
    | _ => cases hok
  | ex j =>
    cases code with
    | exit id =>
      have e := Nat.eq_of_beq_eq_true hok
      subst e
      exact ⟨some (id + 1), F, M, nx, h, Nat.le_refl _, fun E a w lm hlm H MM Q hQ => wp_exit (hQ E a w Go1.refl H MM)⟩
    | region id ops draw => cases draw <;> cases hok
    | _ => cases hok
  | rt =>
    cases code with
    | ret => exact ⟨some 0, F, M, nx, h, Nat.le_refl _, fun E a w lm hlm H MM Q hQ => wp_ret (hQ E a w Go1.refl H MM)⟩
    | region id ops draw => cases draw <;> cases hok
    | _ => cases hok
theorem ev_ok (HT' : TabOk P T okDr) (HD : DrOk P T okDr) : ∀ n, EvOk P T okDr (ev T n)
  | 0 => fun Y code cc hok F M nx kN kX h => by cases h
  | n + 1 => evB_ok (ev_ok HT' HD n) HT' HD
/-- A function that was run with no arguments, and handed back just this. -/
theorem closed_calls {c : CFn} {f n R lv : Nat} (HT' : TabOk P T okDr) (HD : DrOk P T okDr) (hok : okFn P T okDr f c = true)
    (h : ev T n c.code c.Y.con (HT.full lv) 1 (fun G M nx => eRes c.res G M fun r => Nat.beq r R) (fun e G M nx => need (Nat.beq e 0) (eRes c.res G M fun r => Nat.beq r R)) = true) (w : World) :
    Calls P f #[] w fun e w' => ∃ v E', e = .returned v ∧ Ext w w' ∧ sR E' (wd R) 0 (resSh c.res) v := by
  obtain ⟨R', M', nx', r1, r0, r2⟩ := fn_calls (K := fun r _ _ => Nat.beq r R) (ev_ok HT' HD n) hok h
  have e := Nat.eq_of_beq_eq_true r1
  subst e
  have hcon : c.Y.con < 2 ^ (64 + 96 * c.Y.nc) := by
    unfold okFn at hok
    split at hok
    · simp only [Bool.and_eq_true] at hok
      exact blt_of hok.1.1.2
    · cases hok
  have hf : ∀ b, (HT.full lv).get b = 0 := HT.get_full lv
  have A0 : FA (fun _ => none) c.Y c.Y.con 0 [] := ⟨fun s p sh hs => by omega, fun s p sh _ hl => gw_con hcon (layAt_nc hl), fun j hj => rfl, rfl⟩
  have MM : MR P (fun _ => none) (HT.full lv).get 1 nx' w := ⟨fun b hb => absurd (hf b) hb, fun b b' k hb => absurd (hf b) hb, fun b _ _ => rfl, fun b k hb => (by cases hb), fun b hb => absurd (hf b) hb⟩
  refine (r2 (fun _ => none) [] w nx' (Nat.le_refl _) A0 (Nat.zero_le _) MM).mono fun e w' ⟨v, E', h1, h2, h3, h4⟩ => ⟨v, E', h1, ⟨h2.os, h2.tape, h2.output, h2.size, fun k hk => h2.frame k hk fun b hb => absurd (hf b) hb⟩, h4⟩
end
end
end Go.Rill.VM
end
section
namespace Go.Rill.VM
set_option linter.unusedVariables false
set_option linter.unusedSimpArgs false
open Go.RowKit
noncomputable section

def joinF (f fs fs' : Nat → Nat) (n n' : Nat) : Nat → Nat := fun l => if fs l ≠ 0 ∨ (n ≤ l ∧ l < n') then fs' l else f l
structure Comb (P : Program) (E E' : GE) (f f' fs fs' : Nat → Nat) (n n' N lm : Nat) (w w' : World) : Prop where
  mr : MR P E' f' N lm w'
  le : E.le E'
  st : ∀ l, fs' l ≠ 0 → fs l ≠ 0 ∨ (n ≤ l ∧ l < n')
  frame : ∀ k, k < w.heap.size → (∀ l, f l ≠ 0 → E.blk l ≠ some k) → w'.heap[k]? = w.heap[k]?
  new : ∀ l g, E l = none → E' l = some g → (n ≤ l ∧ l < n') ∧ ∀ k, g.blk = some k → (w.heap.size ≤ k ∨ ∃ b, f b ≠ 0 ∧ E.blk b = some k)
  live : ∀ l, f' l ≠ 0 → f l ≠ 0 ∨ E l = none
  os : w'.os = w.os
  tape : w'.tape = w.tape
  output : w'.output = w.output
  size : w.heap.size ≤ w'.heap.size
theorem MR.comb {P : Program} {E E' : GE} {f fs fs' : Nat → Nat} {n n' N lm lm' : Nat} {w w' : World} (M : MR P E f N lm w) (hN : n' ≤ N) (hfs : ∀ l, fs l ≠ 0 → f l = fs l) (hnew : ∀ l, n ≤ l → l < n' → E l = none)
    (G : Go1 E E' fs fs' n n' w w') (M' : MR P E' fs' n' lm' w') : Comb P E E' f (joinF f fs fs' n n') fs fs' n n' N lm w w' := by
  have hfl : ∀ l, fs l ≠ 0 → f l ≠ 0 := fun l h => by rw [hfs l h]; exact h
  have hst : ∀ l, fs' l ≠ 0 → fs l ≠ 0 ∨ (n ≤ l ∧ l < n') := fun l h => by
    rcases G.live l h with h1 | h1
    · exact .inl h1
    · obtain ⟨g, h2, _⟩ := M'.obj l h
      exact .inr (G.new l g h1 h2).1
  have hcase : ∀ l, joinF f fs fs' n n' l ≠ 0 → (fs' l ≠ 0 ∧ (fs l ≠ 0 ∨ (n ≤ l ∧ l < n')) ∧ joinF f fs fs' n n' l = fs' l) ∨ (f l ≠ 0 ∧ fs l = 0 ∧ joinF f fs fs' n n' l = f l) := fun l h => by
    unfold joinF at h ⊢
    split at h
    · rename_i hc
      exact .inl ⟨h, hc, by rw [if_pos hc]⟩
    · rename_i hc
      refine .inr ⟨h, ?_, by rw [if_neg hc]⟩
      rw [not_or] at hc
      simpa using hc.1
  have hEb : ∀ l k, f l ≠ 0 → E'.blk l = some k → E.blk l = some k := fun l k hl h => by
    obtain ⟨g, h1, _⟩ := M.obj l hl
    have := G.le l g h1
    simp only [GE.blk, this] at h
    simpa only [GE.blk, h1] using h
  refine ⟨⟨fun l hl => ?_, fun l l' k h h' hk hk' => ?_, fun l h1 h2 => ?_, fun l k h => M'.blt l k h, fun l hl => ?_⟩, G.le, hst, fun k hk hn => G.frame k hk fun b hb => hn b (hfl b hb), fun l g h h' => ?_, fun l hl => ?_, G.os, G.tape, G.output, G.size⟩
  · rcases hcase l hl with ⟨h1, _, h3⟩ | ⟨h1, h2, h3⟩
    · rw [h3]; exact M'.obj l h1
    · obtain ⟨g, h4, h5⟩ := M.obj l h1
      refine ⟨g, G.le l g h4, ?_⟩
      rw [h3]
      refine h5.move G.le fun k hk => ?_
      have hlk : E.blk l = some k := by simp [GE.blk, h4, hk]
      refine G.frame k (M.blt l k hlk) fun b hb he => ?_
      have := M.inj b l k (hfl b hb) h1 he hlk
      subst this
      exact hb h2
  · have key : ∀ a c, (fs' a ≠ 0 ∧ (fs a ≠ 0 ∨ (n ≤ a ∧ a < n'))) → (f c ≠ 0 ∧ fs c = 0) → E'.blk a = some k → E'.blk c = some k → False := by
      rintro a c ⟨a2, a3⟩ ⟨c1, c2⟩ ha hc
      have hc' := hEb c k c1 hc
      cases hE : E a with
      | some g =>
        have hfa : fs a ≠ 0 := by
          rcases a3 with h | h
          · exact h
          · rw [hnew a h.1 h.2] at hE; cases hE
        have := M.inj a c k (hfl a hfa) c1 (hEb a k (hfl a hfa) ha) hc'
        subst this
        exact hfa c2
      | none =>
        obtain ⟨g, h4, _⟩ := M'.obj a a2
        have hgk : g.blk = some k := by simpa [GE.blk, h4] using ha
        rcases (G.new a g hE h4).2 k hgk with h5 | ⟨b, h5, h7⟩
        · have := M.blt c k hc'; omega
        · have := M.inj b c k (hfl b h5) c1 h7 hc'
          subst this
          exact h5 c2
    rcases hcase l h with ⟨x1, x2, _⟩ | ⟨x1, x2, _⟩ <;> rcases hcase l' h' with ⟨y1, y2, _⟩ | ⟨y1, y2, _⟩
    · exact M'.inj l l' k x1 y1 hk hk'
    · exact (key l l' ⟨x1, x2⟩ ⟨y1, y2⟩ hk hk').elim
    · exact (key l' l ⟨y1, y2⟩ ⟨x1, x2⟩ hk' hk).elim
    · exact M.inj l l' k x1 y1 (hEb l k x1 hk) (hEb l' k y1 hk')
  · cases hE : E' l with
    | none => rfl
    | some g =>
      have := (G.new l g (M.free l h1 h2) hE).1
      omega
  · rcases hcase l hl with ⟨h1, _, _⟩ | ⟨h1, _, _⟩
    · exact Nat.lt_of_lt_of_le (M'.low l h1) hN
    · exact M.low l h1
  · obtain ⟨h1, h2⟩ := G.new l g h h'
    refine ⟨h1, fun k hk => ?_⟩
    rcases h2 k hk with h3 | ⟨b, h3, h4⟩
    · exact .inl h3
    · exact .inr ⟨b, hfl b h3, h4⟩
  · rcases hcase l hl with ⟨h1, _, _⟩ | ⟨h1, _, _⟩
    · rcases hst l h1 with h3 | h3
      · exact .inl (hfl l h3)
      · exact .inr (hnew l h3.1 h3.2)
    · exact .inl h1

/-! ### A run, step by step -/
def ciI : CI → I
  | .go _ _ i => i
  | .gd _ _ _ _ i => i
structure SD where
  d : Nat
  n : Nat
  R : Nat
  s : Option Sh
  g : Option (Nat × Nat)
  i : Option I
structure Trace (P : Program) (T : FT) (Y : Lay) (ops : Array Oper) (pm : List Nat) (l : List (CI × List Nat)) (Fs : Nat → Nat) (Ms : Nat → HT) (ns : Nat → Nat) (D : Nat → SD) : Prop where
  step : ∀ p j c, pm[p]? = some j → l[p]? = some c → ∃ o, ops[j]? = some o ∧ okD Y o (D p).d (D p).n = some (D p).s ∧ CIRes P Y ops o (Fs p) (Ms p) (ns p) (D p).d (D p).n (D p).s (D p).R (Ms (p + 1)) (ns (p + 1)) (D p).g (D p).i ∧
    Fs (p + 1) = outF (Fs p) (D p).d (D p).n (D p).R ∧ ns p ≤ ns (p + 1) ∧ (∀ q ∈ c.2, gw (Fs (p + 1)) q % 32 = 13 → (Ms p).get (lb (gw (Fs (p + 1)) q)) = (Ms (p + 1)).get (lb (gw (Fs (p + 1)) q))) ∧
    (∀ i, (D p).i = some i → i = ciI c.1)
def okDl (P : Program) (T : FT) (Y : Lay) (ops : Array Oper) : List Nat → List (CI × List Nat) → Bool
  | [], [] => true
  | j :: r, c :: l => (match ops[j]? with | some o => okCI P T Y ops o c.1 | none => false) && okDl P T Y ops r l
  | _, _ => false
def shift {α : Type} (x : α) (f : Nat → α) : Nat → α
  | 0 => x
  | n + 1 => f n
section
variable {P : Program} {T : FT} {okDr : OkDr} {run : Run} {Y : Lay}
theorem same_spec {F : Nat} {M M' : HT} {k : Bool} : ∀ {ws : List Nat}, same F M M' ws k = true → (∀ q ∈ ws, gw F q % 32 = 13 → M.get (lb (gw F q)) = M'.get (lb (gw F q))) ∧ k = true
  | [], h => ⟨fun q hq => (by cases hq), h⟩
  | p :: ws, h => by
    have h : iff' (Nat.beq (Nat.land (gw F p) 31) 13) (need (Nat.beq (M.get (lb (gw F p))) (M'.get (lb (gw F p)))) (same F M M' ws k)) (same F M M' ws k) = true := h
    rw [iff'_eq, land31] at h
    split at h
    · rw [need_iff] at h
      obtain ⟨h2, h3⟩ := h
      obtain ⟨h4, h5⟩ := same_spec h3
      refine ⟨fun q hq => ?_, h5⟩
      rcases List.mem_cons.1 hq with rfl | hq
      · exact fun _ => Nat.eq_of_beq_eq_true h2
      · exact h4 q hq
    · rename_i hc
      obtain ⟨h4, h5⟩ := same_spec h
      refine ⟨fun q hq => ?_, h5⟩
      rcases List.mem_cons.1 hq with rfl | hq
      · exact fun e => absurd (by rw [e]; rfl) hc
      · exact h4 q hq
theorem evCI_spec' {ops : Array Oper} {o : Oper} {c : CI} {F : Nat} {M : HT} {nx : Nat} {k : KN} (HR : EvOk P T okDr run) (HT' : TabOk P T okDr) (hok : okCI P T Y ops o c = true) (h : evCI T run c F M nx k = true) :
    ∃ d n s R M' nx' g i, okD Y o d n = some s ∧ CIRes P Y ops o F M nx d n s R M' nx' g i ∧ k (outF F d n R) M' nx' = true ∧ ∀ j, i = some j → j = ciI c := by
  have hrec : ∀ (n d R : Nat) (M : HT) (nx : Nat), (Nat.rec (motive := fun _ => Bool) (k F M nx) (fun _ _ => lz (cp F d n R) fun F => k F M nx) n : Bool) = k (outF F d n R) M nx := by
    intro n d R M nx
    cases n with
    | zero => rfl
    | succ n => unfold outF; rw [if_neg (by omega)]; exact lz_eq _ _
  cases c with
  | go d n i =>
    simp only [okCI, Bool.and_eq_true] at hok
    obtain ⟨h1, h2⟩ := hok
    split at h2
    · rename_i s hs
      have h : evI (evCall T run) i n F M nx (fun R M nx => Nat.rec (motive := fun _ => Bool) (k F M nx) (fun _ _ => lz (cp F d n R) fun F => k F M nx) n) = true := h
      obtain ⟨R, M', nx', r1, r2⟩ := evI'_spec HR HT' (okD_spec hs).1 h2 h
      rw [hrec] at r1
      refine ⟨d, n, s, R, M', nx', none, some i, hs, .run none i R M' nx' ?_ r2, r1, fun j hj => by injection hj with hj; exact hj.symm⟩
      split at h1
      · assumption
      · cases h1
    · cases h2
  | gd g want d n i =>
    simp only [okCI, Bool.and_eq_true] at hok
    obtain ⟨h1, h2⟩ := hok
    split at h2
    · rename_i s hs
      have h : iff' (Nat.beq (gw F g) want) (evI (evCall T run) i n F M nx (fun R M nx => Nat.rec (motive := fun _ => Bool) (k F M nx) (fun _ _ => lz (cp F d n R) fun F => k F M nx) n))
        (need (or (Nat.beq (gw F g) (Nat.sub 54 want)) (Nat.beq (gw F g) 9)) (Nat.rec (motive := fun _ => Bool) (k F M nx) (fun m _ => lz (cp F d n (Nat.rec (motive := fun _ => Nat) 9 (fun _ _ => 0) m)) fun F => k F M nx) n)) = true := h
      rw [iff'_eq] at h
      split at h
      · rename_i hg
        obtain ⟨R, M', nx', r1, r2⟩ := evI'_spec HR HT' (okD_spec hs).1 h2 h
        rw [hrec] at r1
        exact ⟨d, n, s, R, M', nx', some (g, want), some i, hs, .run (some (g, want)) i R M' nx' ⟨h1, Nat.eq_of_beq_eq_true hg⟩ r2, r1, fun j hj => by injection hj with hj; exact hj.symm⟩
      · rw [need_iff] at h
        obtain ⟨hg, h⟩ := h
        have e : (Nat.rec (motive := fun _ => Bool) (k F M nx) (fun m _ => lz (cp F d n (Nat.rec (motive := fun _ => Nat) 9 (fun _ _ => 0) m)) fun F => k F M nx) n : Bool) = k (outF F d n (noR n)) M nx := by
          cases n with
          | zero => rfl
          | succ n =>
            unfold outF noR
            rw [if_neg (by omega)]
            cases n with
            | zero => rw [if_pos rfl]; exact lz_eq _ _
            | succ n => rw [if_neg (by omega)]; exact lz_eq _ _
        rw [e] at h
        refine ⟨d, n, s, noR n, M, nx, some (g, want), none, hs, .no g want h1 ?_, h, fun j hj => by cases hj⟩
        rw [Bool.or_eq_true] at hg
        rcases hg with hg | hg
        · exact .inl (Nat.eq_of_beq_eq_true hg)
        · exact .inr (Nat.eq_of_beq_eq_true hg)
    · cases h2
theorem evD_trace {ops : Array Oper} (HR : EvOk P T okDr run) (HT' : TabOk P T okDr) : ∀ {pm : List Nat} {l : List (CI × List Nat)} {F : Nat} {M : HT} {nx : Nat} {k : KN}, okDl P T Y ops pm l = true → evD T run l F M nx k = true →
    pm.length = l.length ∧ ∃ Fs Ms ns D, Fs 0 = F ∧ Ms 0 = M ∧ ns 0 = nx ∧ Trace P T Y ops pm l Fs Ms ns D ∧ k (Fs l.length) (Ms l.length) (ns l.length) = true
  | [], [], F, M, nx, k, _, h => ⟨rfl, fun _ => F, fun _ => M, fun _ => nx, fun _ => ⟨0, 0, 0, none, none, none⟩, rfl, rfl, rfl, ⟨fun p j c h => by simp at h⟩, h⟩
  | [], _ :: _, _, _, _, _, h, _ => by cases h
  | _ :: _, [], _, _, _, _, h, _ => by cases h
  | j :: pm, c :: l, F, M, nx, k, hok, h => by
    simp only [okDl, Bool.and_eq_true] at hok
    obtain ⟨h1, h2⟩ := hok
    split at h1
    · rename_i o ho
      have h : evCI T run c.1 F M nx (fun F' M' nx' => need (Nat.ble nx nx') (same F' M M' c.2 (evD T run l F' M' nx' k))) = true := h
      obtain ⟨d, n, s, R, M1, nx1, g, i, a1, a2, a3, a4⟩ := evCI_spec' HR HT' h1 h
      rw [need_iff] at a3
      obtain ⟨a5, a6⟩ := a3
      obtain ⟨a7, a8⟩ := same_spec a6
      obtain ⟨b0, Fs, Ms, ns, D, b1, b2, b3, b4, b5⟩ := evD_trace HR HT' h2 a8
      refine ⟨by simp [b0], shift F Fs, shift M Ms, shift nx ns, shift ⟨d, n, R, s, g, i⟩ D, rfl, rfl, rfl, ⟨fun p j' c' hj hc => ?_⟩, b5⟩
      cases p with
      | zero =>
        simp only [List.getElem?_cons_zero, Option.some.injEq] at hj hc
        subst hj hc
        refine ⟨o, ho, a1, ?_, ?_, ?_, ?_, a4⟩
        · show CIRes P Y ops o F M nx d n s R (Ms 0) (ns 0) g i
          rw [b2, b3]; exact a2
        · show Fs 0 = _
          rw [b1]; rfl
        · show nx ≤ ns 0
          rw [b3]; exact ble_of a5
        · intro q hq
          show gw (Fs 0) q % 32 = 13 → M.get (lb (gw (Fs 0) q)) = (Ms 0).get (lb (gw (Fs 0) q))
          rw [b1, b2]
          exact a7 q hq
      | succ p =>
        simp only [List.getElem?_cons_succ] at hj hc
        exact b4.step p j' c' hj hc
    · cases h1
/-! ### What is asked of a region -/
def pmf (pm : List Nat) (p : Nat) : Nat := pm.getD p 0
def Kd (l : List (CI × List Nat)) (p : Nat) : Nat := match l[p]? with | some c => cls (ciI c.1) | none => 0
def ldp (l : List (CI × List Nat)) (p : Nat) : Nat := match l[p]? with | some c => ldAt (ciI c.1) | none => 0
def Rk (l : List (CI × List Nat)) (p : Nat) : Bool := match l[p]? with | some c => rdI (ciI c.1) | none => false
def wsp (l : List (CI × List Nat)) (p : Nat) : List Nat := match l[p]? with | some c => c.2 | none => []
def pairOk (ops : Array Oper) (B : List Nat) (pm : List Nat) (l : List (CI × List Nat)) (p q : Nat) : Bool :=
  (Nat.blt q p || !waits B (pmf pm p) (pmf pm q)) &&
  (Nat.beq p q || (!Nat.beq (pmf pm p) (pmf pm q) && (match dstOf ops (pmf pm p), dstOf ops (pmf pm q) with | some t, some u => !Nat.beq t u | _, _ => true))) &&
  ((slotsOf ops (pmf pm p)).all fun t => !writes ops t (pmf pm q) || waits B (pmf pm p) (pmf pm q) || waits B (pmf pm q) (pmf pm p) || Nat.beq p q) &&
  (!(Nat.blt p q && Nat.beq (Kd l q) 3 && Nat.ble 2 (Kd l p)) || waits B (pmf pm q) (pmf pm p)) &&
  (!Rk l p || (slotsOf ops (pmf pm p)).all fun t => !writes ops t (pmf pm q) || waits B (pmf pm p) (pmf pm q)) &&
  (!(Rk l p && Nat.beq (Kd l q) 3) || (if Nat.blt q p then waits B (pmf pm p) (pmf pm q) else waits B (pmf pm q) (pmf pm p) || (Nat.beq (Kd l p) 1 && (wsp l q).contains (ldp l p))))
def drChk (ops : Array Oper) (l : List (CI × List Nat)) (pm : List Nat) : Bool :=
  Nat.beq pm.length ops.size && Nat.beq l.length ops.size && (List.range ops.size).all (fun p => Nat.blt (pmf pm p) ops.size) && (List.range ops.size).all (fun j => (List.range ops.size).any fun p => Nat.beq (pmf pm p) j) &&
  Go.Proofs.YtkmfmbdgipbaaaaRW.PrintLast.waitsOk (Go.Proofs.YtkmfmbdgipbaaaaRW.PrintLast.rtab .any ops).2 (Region.before ops).toList && Go.Proofs.YtkmfmbdgipbaaaaRW.PrintLast.baseOk (Go.Proofs.YtkmfmbdgipbaaaaRW.PrintLast.rtab .any ops).2 (List.range ops.size) &&
  (List.range ops.size).all fun p => (List.range ops.size).all fun q => pairOk ops (Region.before ops).toList pm l p q
structure Stat (ops : Array Oper) (B : List Nat) (pm : List Nat) (l : List (CI × List Nat)) : Prop where
  len : pm.length = ops.size
  len' : l.length = ops.size
  lt : ∀ p, p < ops.size → pmf pm p < ops.size
  sur : ∀ j, j < ops.size → ∃ p, p < ops.size ∧ pmf pm p = j
  inj : ∀ p q, p < ops.size → q < ops.size → pmf pm p = pmf pm q → p = q
  lin : ∀ p q, p < ops.size → q < ops.size → p ≤ q → waits B (pmf pm p) (pmf pm q) = false
  dst : ∀ p q t, p < ops.size → q < ops.size → dstOf ops (pmf pm p) = some t → dstOf ops (pmf pm q) = some t → p = q
  opd : ∀ p q t, p < ops.size → q < ops.size → t ∈ slotsOf ops (pmf pm p) → dstOf ops (pmf pm q) = some t → waits B (pmf pm p) (pmf pm q) = true ∨ waits B (pmf pm q) (pmf pm p) = true ∨ p = q
  cx : ∀ p q, p < q → q < ops.size → Kd l q = 3 → 2 ≤ Kd l p → waits B (pmf pm q) (pmf pm p) = true
  lds : ∀ p q t, p < ops.size → q < ops.size → Rk l p = true → t ∈ slotsOf ops (pmf pm p) → dstOf ops (pmf pm q) = some t → waits B (pmf pm p) (pmf pm q) = true
  ld : ∀ p q, p < ops.size → q < ops.size → Rk l p = true → Kd l q = 3 → (q < p ∧ waits B (pmf pm p) (pmf pm q) = true) ∨ (p ≤ q ∧ (waits B (pmf pm q) (pmf pm p) = true ∨ (Kd l p = 1 ∧ ldp l p ∈ wsp l q)))
theorem stat_of {ops : Array Oper} {pm : List Nat} {l : List (CI × List Nat)} (h : drChk ops l pm = true) : Stat ops (Region.before ops).toList pm l := by
  simp only [drChk, Bool.and_eq_true] at h
  obtain ⟨⟨⟨⟨⟨⟨h1, h2⟩, h3⟩, h4⟩, _⟩, _⟩, h7⟩ := h
  have hp : ∀ p q, p < ops.size → q < ops.size → pairOk ops (Region.before ops).toList pm l p q = true := fun p q hp hq => List.all_eq_true.1 (List.all_eq_true.1 h7 p (List.mem_range.2 hp)) q (List.mem_range.2 hq)
  have hp' : ∀ p q, p < ops.size → q < ops.size → _ := fun p q hp1 hq1 => by
    have := hp p q hp1 hq1
    simp only [pairOk, Bool.and_eq_true] at this
    exact this
  refine ⟨Nat.eq_of_beq_eq_true h1, Nat.eq_of_beq_eq_true h2, fun p hp => blt_of (List.all_eq_true.1 h3 p (List.mem_range.2 hp)), fun j hj => ?_, fun p q a b e => ?_, fun p q a b hpq => ?_, fun p q t a b e1 e2 => ?_, fun p q t a b ht e => ?_, fun p q hpq b hk hk' => ?_, fun p q t a b hk ht e => ?_, fun p q a b hk hk' => ?_⟩
  · obtain ⟨p, hp1, hp2⟩ := List.any_eq_true.1 (List.all_eq_true.1 h4 j (List.mem_range.2 hj))
    exact ⟨p, List.mem_range.1 hp1, Nat.eq_of_beq_eq_true hp2⟩
  · obtain ⟨⟨⟨⟨⟨_, g⟩, _⟩, _⟩, _⟩, _⟩ := hp' p q a b
    rw [Bool.or_eq_true] at g
    rcases g with g | g
    · exact Nat.eq_of_beq_eq_true g
    · rw [Bool.and_eq_true, e, Nat.beq_refl] at g
      cases g.1
  · obtain ⟨⟨⟨⟨⟨g, _⟩, _⟩, _⟩, _⟩, _⟩ := hp' p q a b
    rw [Bool.or_eq_true] at g
    rcases g with g | g
    · have := blt_of g; omega
    · simpa using g
  · obtain ⟨⟨⟨⟨⟨_, g⟩, _⟩, _⟩, _⟩, _⟩ := hp' p q a b
    rw [Bool.or_eq_true] at g
    rcases g with g | g
    · exact Nat.eq_of_beq_eq_true g
    · rw [Bool.and_eq_true, e1, e2] at g
      have := g.2
      simp only [Nat.beq_refl] at this
      cases this
  · obtain ⟨⟨⟨⟨_, g⟩, _⟩, _⟩, _⟩ := hp' p q a b
    have := List.all_eq_true.1 g t ht
    simp only [Bool.or_eq_true] at this
    have hw : writes ops t (pmf pm q) = true := by simp [writes, e]
    rw [hw] at this
    rcases this with ((h | h) | h) | h
    · cases h
    · exact .inl h
    · exact .inr (.inl h)
    · exact .inr (.inr (Nat.eq_of_beq_eq_true h))
  · obtain ⟨⟨⟨_, g⟩, _⟩, _⟩ := hp' p q (by omega) b
    rw [Bool.or_eq_true] at g
    rcases g with g | g
    · have e1 : Nat.blt p q = true := by rw [Nat.blt_eq]; exact hpq
      have e2 : Nat.ble 2 (Kd l p) = true := by rw [Nat.ble_eq]; exact hk'
      rw [e1, hk, e2] at g
      cases g
    · exact g
  · obtain ⟨⟨_, g⟩, _⟩ := hp' p q a b
    rw [Bool.or_eq_true] at g
    rcases g with g | g
    · rw [hk] at g; cases g
    · have := List.all_eq_true.1 g t ht
      rw [Bool.or_eq_true] at this
      have hw : writes ops t (pmf pm q) = true := by simp [writes, e]
      rw [hw] at this
      rcases this with h | h
      · cases h
      · exact h
  · obtain ⟨_, g⟩ := hp' p q a b
    rw [Bool.or_eq_true] at g
    rcases g with g | g
    · rw [hk, hk'] at g; cases g
    · by_cases hqp : q < p
      · have e1 : Nat.blt q p = true := by rw [Nat.blt_eq]; exact hqp
        rw [e1] at g
        exact .inl ⟨hqp, g⟩
      · have e1 : Nat.blt q p = false := by
          cases hb : Nat.blt q p with
          | false => rfl
          | true => exact absurd (blt_of hb) hqp
        rw [e1] at g
        simp only [Bool.false_eq_true, if_false, Bool.or_eq_true, Bool.and_eq_true, List.contains_iff_mem] at g
        exact .inr ⟨by omega, g.imp id fun h => ⟨Nat.eq_of_beq_eq_true h.1, h.2⟩⟩
/-! ### The memory in the midst of a region -/
def kind (D : Nat → SD) (p : Nat) : Nat := match (D p).i with | none => 0 | some i => cls i
def gB (Ms : Nat → HT) (ns : Nat → Nat) (D : Nat → SD) (pm : List Nat) (b : Nat → Bool) : Nat → Nat → Nat
  | 0, l => (Ms 0).get l
  | m + 1, l => if kind D m = 3 ∧ b (pmf pm m) = true then (Ms (m + 1)).get l
    else if kind D m = 2 ∧ b (pmf pm m) = true ∧ l = ns m then (Ms (m + 1)).get l else gB Ms ns D pm b m l
structure Sk (Fs : Nat → Nat) (Ms : Nat → HT) (ns : Nat → Nat) (D : Nat → SD) (n : Nat) : Prop where
  quiet : ∀ p, p < n → kind D p < 2 → Ms (p + 1) = Ms p ∧ ns (p + 1) = ns p
  fresh : ∀ p, p < n → kind D p = 2 → ns (p + 1) = ns p + 1 ∧ ∀ l, l ≠ ns p → (Ms (p + 1)).get l = (Ms p).get l
  mono : ∀ p, p < n → ns p ≤ ns (p + 1)
  bound : ∀ p, kind D p ≤ 3
theorem Sk.le {Fs : Nat → Nat} {Ms : Nat → HT} {ns : Nat → Nat} {D : Nat → SD} {n : Nat} (S : Sk Fs Ms ns D n) {p q : Nat} (h : p ≤ q) (hq : q ≤ n) : ns p ≤ ns q := by
  induction q with
  | zero => have : p = 0 := by omega
            subst this; exact Nat.le_refl _
  | succ q ih =>
    by_cases e : p = q + 1
    · subst e; exact Nat.le_refl _
    · exact Nat.le_trans (ih (by omega) (by omega)) (S.mono q (by omega))
section
variable {Fs : Nat → Nat} {Ms : Nat → HT} {ns : Nat → Nat} {D : Nat → SD} {n : Nat} {pm : List Nat} {b : Nat → Bool}
/-- Where all has come up that makes or changes memory. -/
theorem gB_full (S : Sk Fs Ms ns D n) {m : Nat} (hm : m ≤ n) (h : ∀ q, q < m → 2 ≤ kind D q → b (pmf pm q) = true) (l : Nat) : gB Ms ns D pm b m l = (Ms m).get l := by
  induction m with
  | zero => rfl
  | succ m ih =>
    have ih := ih (by omega) (fun q hq => h q (by omega))
    unfold gB
    split
    · rfl
    · rename_i h3
      split
      · rfl
      · rename_i h2
        rw [ih]
        by_cases hk : kind D m < 2
        · rw [(S.quiet m (by omega) hk).1]
        · have hb := h m (by omega) (by omega)
          have := S.bound m
          have hk2 : kind D m = 2 := by
            by_cases h3' : kind D m = 3
            · exact absurd ⟨h3', hb⟩ h3
            · omega
          exact ((S.fresh m (by omega) hk2).2 l fun e => h2 ⟨hk2, hb, e⟩).symm
theorem gB_congr {b' : Nat → Bool} {m : Nat} (h : ∀ q, q < m → b (pmf pm q) = b' (pmf pm q)) (l : Nat) : gB Ms ns D pm b m l = gB Ms ns D pm b' m l := by
  induction m with
  | zero => rfl
  | succ m ih =>
    unfold gB
    rw [h m (by omega), ih fun q hq => h q (by omega)]
/-- A quiet operation comes up. -/
theorem gB_quiet {i p : Nat} (hi : pmf pm p = i) (hk : kind D p < 2) (inj : ∀ q, q < n → p < n → pmf pm q = pmf pm p → q = p) (hp : p < n) {m : Nat} (hm : m ≤ n) (l : Nat) : gB Ms ns D pm (Go.Proofs.YtkmfmbdgipbaaaaRW.PrintLast.up b i) m l = gB Ms ns D pm b m l := by
  induction m with
  | zero => rfl
  | succ m ih =>
    unfold gB
    rw [ih (by omega)]
    by_cases e : m = p
    · subst e
      have h3 : ¬ kind D m = 3 := by omega
      have h2 : ¬ kind D m = 2 := by omega
      simp [h3, h2]
    · have hne : pmf pm m ≠ i := fun h => e (inj m (by omega) hp (by rw [h, hi]))
      rw [Go.Proofs.YtkmfmbdgipbaaaaRW.PrintLast.up_ne hne]
/-- New memory comes up. -/
theorem gB_fresh (S : Sk Fs Ms ns D n) {i p : Nat} (hi : pmf pm p = i) (hk : kind D p = 2) (inj : ∀ q, q < n → p < n → pmf pm q = pmf pm p → q = p) (hp : p < n) (hb : b i = false) (hlater : ∀ q, p < q → q < n → kind D q = 3 → b (pmf pm q) = false) {m : Nat} (hpm : p < m) (hm : m ≤ n) (l : Nat) :
    gB Ms ns D pm (Go.Proofs.YtkmfmbdgipbaaaaRW.PrintLast.up b i) m l = if l = ns p then (Ms (p + 1)).get l else gB Ms ns D pm b m l := by
  induction m with
  | zero => omega
  | succ m ih =>
    by_cases e : m = p
    · subst e
      have h3 : ¬ (kind D m = 3) := by omega
      have h4 : gB Ms ns D pm (Go.Proofs.YtkmfmbdgipbaaaaRW.PrintLast.up b i) m l = gB Ms ns D pm b m l := gB_congr (fun q hq => Go.Proofs.YtkmfmbdgipbaaaaRW.PrintLast.up_ne fun h => by have := inj q (by omega) hp (by rw [h, hi]); omega) l
      unfold gB
      rw [h4, hi, Go.Proofs.YtkmfmbdgipbaaaaRW.PrintLast.up_self, hb]
      simp [h3, hk]
    · have hne : pmf pm m ≠ i := fun h => e (inj m (by omega) hp (by rw [h, hi]))
      have h3 : ¬ (kind D m = 3 ∧ b (pmf pm m) = true) := fun h => by rw [hlater m (by omega) (by omega) h.1] at h; cases h.2
      unfold gB
      rw [Go.Proofs.YtkmfmbdgipbaaaaRW.PrintLast.up_ne hne, if_neg h3, if_neg h3, ih (by omega) (by omega)]
      have hns : ns p < ns m := by
        have := S.le (p := p + 1) (q := m) (by omega) (by omega)
        have := (S.fresh p hp hk).1
        omega
      by_cases h5 : l = ns p
      · rw [if_pos h5, if_neg (by rintro ⟨_, _, h⟩; omega), if_pos h5]
      · rw [if_neg h5]
        rw [if_neg h5]
/-- Something else comes up. -/
theorem gB_other (S : Sk Fs Ms ns D n) {i p : Nat} (hi : pmf pm p = i) (hk : kind D p = 3) (inj : ∀ q, q < n → p < n → pmf pm q = pmf pm p → q = p) (hp : p < n) (hb : b i = false) (hlater : ∀ q, p < q → q < n → kind D q = 3 → b (pmf pm q) = false)
    (hfull : ∀ l, gB Ms ns D pm b p l = (Ms p).get l) (hlow : ∀ l, (Ms p).get l ≠ 0 → l < ns p) (hst : ∀ l, (Ms (p + 1)).get l ≠ 0 → (Ms p).get l ≠ 0 ∨ (ns p ≤ l ∧ l < ns (p + 1))) {m : Nat} (hpm : p < m) (hm : m ≤ n) (l : Nat) :
    gB Ms ns D pm (Go.Proofs.YtkmfmbdgipbaaaaRW.PrintLast.up b i) m l = if (Ms p).get l ≠ 0 ∨ (ns p ≤ l ∧ l < ns (p + 1)) then (Ms (p + 1)).get l else gB Ms ns D pm b m l := by
  induction m with
  | zero => omega
  | succ m ih =>
    by_cases e : m = p
    · subst e
      have e1 : gB Ms ns D pm (Go.Proofs.YtkmfmbdgipbaaaaRW.PrintLast.up b i) (m + 1) l = (Ms (m + 1)).get l := by
        unfold gB
        rw [hi, Go.Proofs.YtkmfmbdgipbaaaaRW.PrintLast.up_self, if_pos ⟨hk, rfl⟩]
      have e2 : gB Ms ns D pm b (m + 1) l = (Ms m).get l := by
        unfold gB
        rw [hi, hb, if_neg (by simp), if_neg (by simp), hfull]
      rw [e1, e2]
      split
      · rfl
      · rename_i h5
        cases h6 : (Ms (m + 1)).get l with
        | zero =>
          rw [not_or] at h5
          have := h5.1
          omega
        | succ z => exact absurd (hst l (by omega)) h5
    · have hne : pmf pm m ≠ i := fun h => e (inj m (by omega) hp (by rw [h, hi]))
      have h3 : ¬ (kind D m = 3 ∧ b (pmf pm m) = true) := fun h => by rw [hlater m (by omega) (by omega) h.1] at h; cases h.2
      have hns := S.le (p := p + 1) (q := m) (by omega) (by omega)
      have hns' := S.mono p hp
      unfold gB
      rw [Go.Proofs.YtkmfmbdgipbaaaaRW.PrintLast.up_ne hne, if_neg h3, if_neg h3, ih (by omega) (by omega)]
      by_cases h5 : (Ms p).get l ≠ 0 ∨ (ns p ≤ l ∧ l < ns (p + 1))
      · have : l < ns m := by
          rcases h5 with h5 | h5
          · have := hlow l h5; omega
          · omega
        rw [if_pos h5, if_neg (by rintro ⟨_, _, h⟩; omega), if_pos h5]
      · rw [if_neg h5, if_neg h5]
end
end
theorem Go1.comb {P : Program} {E0 E E' : GE} {f0 f f' fs fs' : Nat → Nat} {n0 n n' N lm : Nat} {w0 w w' : World} (G : Go1 E0 E f0 f n0 N w0 w) (C : Comb P E E' f f' fs fs' n n' N lm w w') (hn : n0 ≤ n) (hN : n' ≤ N) : Go1 E0 E' f0 f' n0 N w0 w' := by
  have back : ∀ b g, f b ≠ 0 → E.blk b = some g → w0.heap.size ≤ g ∨ ∃ b0, f0 b0 ≠ 0 ∧ E0.blk b0 = some g := fun b g hb he => by
    cases hE : E0 b with
    | none =>
      cases hE2 : E b with
      | none => simp [GE.blk, hE2] at he
      | some x => exact (G.new b x hE hE2).2 g (by simpa [GE.blk, hE2] using he)
    | some x =>
      rcases G.live b hb with h2 | h2
      · refine .inr ⟨b, h2, ?_⟩
        have := G.le b x hE
        simp only [GE.blk, this] at he
        simpa only [GE.blk, hE] using he
      · rw [h2] at hE; cases hE
  refine ⟨GE.le_trans G.le C.le, G.nxle, C.os.trans G.os, C.tape.trans G.tape, C.output.trans G.output, Nat.le_trans G.size C.size, fun k hk hq => ?_, fun l g h0 h => ?_, fun l hl => ?_⟩
  · rw [C.frame k (Nat.lt_of_lt_of_le hk G.size) fun b hb he => ?_]
    · exact G.frame k hk hq
    · rcases back b k hb he with h2 | ⟨b0, h2, h3⟩
      · omega
      · exact hq b0 h2 h3
  · cases hE : E l with
    | none =>
      obtain ⟨h1, h2⟩ := C.new l g hE h
      refine ⟨⟨by omega, by omega⟩, fun j hj => ?_⟩
      rcases h2 j hj with h2 | ⟨b0, h2, h3⟩
      · exact .inl (Nat.le_trans G.size h2)
      · exact back b0 j h2 h3
    | some x =>
      have := C.le l x hE
      rw [this] at h
      injection h with h
      subst h
      exact G.new l _ h0 hE
  · rcases C.live l hl with h2 | h2
    · exact G.live l h2
    · cases hE : E0 l with
      | none => exact .inr rfl
      | some x => rw [G.le l x hE] at h2; cases h2
/-! ### The relation in the midst of a region -/
structure JJ (P : Program) (Y : Lay) (ops : Array Oper) (B : List Nat) (pm : List Nat) (Ms : Nat → HT) (ns : Nat → Nat) (D : Nat → SD) (E0 : GE) (a0 : Act) (w0 : World) (lm : Nat) (b : Nat → Bool) (a : Act) (w : World) (E : GE) : Prop where
  cl : ∀ p q, p < ops.size → q < ops.size → b (pmf pm p) = true → waits B (pmf pm p) (pmf pm q) = true → b (pmf pm q) = true
  size : a.tmps.size = Y.nt
  defers : a.defers = []
  done : ∀ p t sh, p < ops.size → b (pmf pm p) = true → dstOf ops (pmf pm p) = some t → (D p).s = some sh → sR E (wd (D p).R) 0 sh (a.tmps.getD t undef)
  old : ∀ t, (∀ p, p < ops.size → dstOf ops (pmf pm p) = some t → b (pmf pm p) = false) → a.tmps.getD t undef = a0.tmps.getD t undef
  mr : MR P E (gB Ms ns D pm b ops.size) (ns ops.size) lm w
  dom : ∀ l g, E l = some g → (l < ns 0 ∨ ns ops.size ≤ l) ∨ ∃ p, p < ops.size ∧ b (pmf pm p) = true ∧ ns p ≤ l ∧ l < ns (p + 1)
  st : ∀ p, p < ops.size → kind D p = 3 → b (pmf pm p) = true → ∀ l, (Ms (p + 1)).get l ≠ 0 → (Ms p).get l ≠ 0 ∨ (ns p ≤ l ∧ l < ns (p + 1))
  go : Go1 E0 E (Ms 0).get (gB Ms ns D pm b ops.size) (ns 0) (ns ops.size) w0 w
section
variable {P : Program} {T : FT} {Y : Lay} {ops : Array Oper} {B : List Nat} {pm : List Nat} {l : List (CI × List Nat)} {Fs : Nat → Nat} {Ms : Nat → HT} {ns : Nat → Nat} {D : Nat → SD} {E0 E : GE} {a0 a : Act} {w0 w : World} {b : Nat → Bool} {lm : Nat}
theorem tr_at (S : Stat ops B pm l) (R : Trace P T Y ops pm l Fs Ms ns D) {p : Nat} (hp : p < ops.size) : ∃ o, ops[pmf pm p]? = some o ∧ okD Y o (D p).d (D p).n = some (D p).s ∧ CIRes P Y ops o (Fs p) (Ms p) (ns p) (D p).d (D p).n (D p).s (D p).R (Ms (p + 1)) (ns (p + 1)) (D p).g (D p).i ∧
    Fs (p + 1) = outF (Fs p) (D p).d (D p).n (D p).R ∧ ns p ≤ ns (p + 1) ∧ (∀ q ∈ wsp l p, gw (Fs (p + 1)) q % 32 = 13 → (Ms p).get (lb (gw (Fs (p + 1)) q)) = (Ms (p + 1)).get (lb (gw (Fs (p + 1)) q))) ∧ (∀ i, (D p).i = some i → cls i = Kd l p ∧ ldAt i = ldp l p ∧ rdI i = Rk l p) := by
  have h1 : pm[p]? = some (pmf pm p) := by
    unfold pmf
    rw [List.getD_eq_getElem?_getD, List.getElem?_eq_getElem (by rw [S.len]; exact hp)]
    rfl
  have h2 : l[p]? = some (l[p]'(by rw [S.len']; exact hp)) := List.getElem?_eq_getElem _
  obtain ⟨o, g1, g2, g3, g4, g5, g6, g7⟩ := R.step p _ _ h1 h2
  refine ⟨o, g1, g2, g3, g4, g5, ?_, fun i hi => ?_⟩
  · unfold wsp; rw [h2]; exact g6
  · have := g7 i hi
    unfold Kd ldp Rk
    rw [h2, this]
    exact ⟨rfl, rfl, rfl⟩
theorem sk_of (S : Stat ops B pm l) (R : Trace P T Y ops pm l Fs Ms ns D) : Sk Fs Ms ns D ops.size := by
  have hk : ∀ p, p < ops.size → (kind D p < 2 → Ms (p + 1) = Ms p ∧ ns (p + 1) = ns p) ∧ (kind D p = 2 → ns (p + 1) = ns p + 1 ∧ ∀ l, l ≠ ns p → (Ms (p + 1)).get l = (Ms p).get l) := fun p hp => by
    obtain ⟨o, g1, g2, g3, g4, g5, g6, g7⟩ := tr_at S R hp
    unfold kind
    generalize hMp : Ms (p + 1) = M' at *
    generalize hnp : ns (p + 1) = n' at *
    generalize hg : (D p).g = gg at *
    generalize hi : (D p).i = ii at *
    generalize hR : (D p).R = RR at *
    cases g3 with
    | no pp ww hg hw => exact ⟨fun _ => ⟨rfl, rfl⟩, fun h => by simp at h⟩
    | run g i R M' nx' hg hr =>
      refine ⟨fun h => ?_, fun h => ?_⟩
      · simp only at h
        generalize hc : cls i = c at *
        obtain _ | _ | c := c
        · exact ⟨hr.1, hr.2.1⟩
        · exact ⟨hr.1, hr.2.1⟩
        · omega
      · simp only at h
        rw [h] at hr
        obtain ⟨h1, X, h2, _⟩ := hr
        exact ⟨h1, fun l hl => by rw [h2 l, if_neg hl]⟩
  refine ⟨fun p hp => (hk p hp).1, fun p hp => (hk p hp).2, fun p hp => ?_, fun p => ?_⟩
  · obtain ⟨o, _, _, _, _, g5, _⟩ := tr_at S R hp
    exact g5
  · unfold kind
    split
    · omega
    · rename_i i _
      cases i <;> simp [cls]
theorem kind_Kd (S : Stat ops B pm l) (R : Trace P T Y ops pm l Fs Ms ns D) {p : Nat} (hp : p < ops.size) : kind D p = 0 ∨ kind D p = Kd l p := by
  obtain ⟨o, _, _, _, _, _, _, g7⟩ := tr_at S R hp
  unfold kind
  split
  · exact .inl rfl
  · rename_i i hi
    exact .inr (g7 i hi).1
/-- A slot that is not written keeps its words. -/
theorem outF_other {o : Oper} {d n RR F : Nat} {s : Option Sh} {t q : Nat} {sh : Sh} (hd : okD Y o d n = some s) (hl : layAt Y.sh Y.nc t = some (q, sh)) (hne : o.dst ≠ some t) {i : Nat} (hi : i < sh.sz) : gw (outF F d n RR) (q + i) = gw F (q + i) := by
  unfold outF
  split
  · rfl
  · rcases (okD_spec hd).2 with ⟨h1, h2, h3⟩ | ⟨t', sh', h1, h2, h3, h4, h5⟩
    · contradiction
    · have e : t' ≠ t := fun e => hne (by rw [h1, e])
      rw [gw_cp, if_neg]
      rcases Nat.lt_or_gt_of_ne e with lt | lt
      · have := layAt_apart h3 hl lt; omega
      · have := layAt_apart hl h3 lt; omega
theorem outF_con {o : Oper} {d n RR F : Nat} {s : Option Sh} (hd : okD Y o d n = some s) {i : Nat} (hi : i < Y.nc) : gw (outF F d n RR) i = gw F i := by
  unfold outF
  split
  · rfl
  · rcases (okD_spec hd).2 with ⟨h1, h2, h3⟩ | ⟨t', sh', h1, h2, h3, h4, h5⟩
    · contradiction
    · have := layAt_ge h3
      rw [gw_cp, if_neg (by omega)]
theorem Fs_con (S : Stat ops B pm l) (R : Trace P T Y ops pm l Fs Ms ns D) (h0 : ∀ i, i < Y.nc → gw (Fs 0) i = gw Y.con i) {p : Nat} (hp : p ≤ ops.size) : ∀ i, i < Y.nc → gw (Fs p) i = gw Y.con i := by
  induction p with
  | zero => exact h0
  | succ p ih =>
    intro i hi
    obtain ⟨o, g1, g2, g3, g4, _⟩ := tr_at S R (p := p) (by omega)
    rw [g4, outF_con g2 hi]
    exact ih (by omega) i hi
theorem Fs_old (S : Stat ops B pm l) (R : Trace P T Y ops pm l Fs Ms ns D) {t q : Nat} {sh : Sh} (hl : layAt Y.sh Y.nc t = some (q, sh)) {p r : Nat} (hrp : r ≤ p) (hp : p ≤ ops.size) (hn : ∀ u, r ≤ u → u < p → dstOf ops (pmf pm u) ≠ some t) : ∀ i, i < sh.sz → gw (Fs p) (q + i) = gw (Fs r) (q + i) := by
  induction p with
  | zero => have : r = 0 := by omega
            subst this; exact fun _ _ => rfl
  | succ p ih =>
    intro i hi
    by_cases e : r = p + 1
    · subst e; rfl
    · obtain ⟨o, g1, g2, g3, g4, _⟩ := tr_at S R (p := p) (by omega)
      have hd : o.dst ≠ some t := fun h => hn p (by omega) (by omega) (by simp [dstOf, g1, h])
      rw [g4, outF_other g2 hl hd hi]
      exact ih (by omega) (by omega) (fun u h1 h2 => hn u h1 (by omega)) i hi
theorem Fs_new (S : Stat ops B pm l) (R : Trace P T Y ops pm l Fs Ms ns D) {t q : Nat} {sh : Sh} (hl : layAt Y.sh Y.nc t = some (q, sh)) {p r : Nat} (hr : r < p) (hp : p ≤ ops.size) (hd : dstOf ops (pmf pm r) = some t) : (D r).s = some sh ∧ ∀ i, i < sh.sz → gw (Fs p) (q + i) = wd (D r).R i := by
  obtain ⟨o, g1, g2, g3, g4, _⟩ := tr_at S R (p := r) (by omega)
  have hod : o.dst = some t := by simpa [dstOf, g1] using hd
  rcases (okD_spec g2).2 with ⟨h1, h2, h3⟩ | ⟨t', sh', h1, h2, h3, h4, h5⟩
  · rw [h1] at hod; cases hod
  · rw [h1] at hod
    injection hod with hod
    subst hod
    rw [hl] at h3
    simp only [Option.some.injEq, Prod.mk.injEq] at h3
    obtain ⟨e1, e2⟩ := h3
    refine ⟨by rw [h2, e2], fun i hi => ?_⟩
    rw [Fs_old S R hl (r := r + 1) (by omega) hp (fun u h6 h7 h8 => by have := S.dst r u _ (by omega) (by omega) hd h8; omega) i hi, g4]
    unfold outF
    have hz := sh.sz_pos
    rw [if_neg (by rw [h4, ← e2]; omega), gw_cp, if_pos (by rw [h4, ← e2, ← e1]; omega), ← e1]
    congr 1
    omega
/-- What is known of a slot that an operation looks at. -/
theorem JJ.slot (S : Stat ops B pm l) (R : Trace P T Y ops pm l Fs Ms ns D) (J : JJ P Y ops B pm Ms ns D E0 a0 w0 lm b a w E) (H0 : FR E0 Y (Fs 0) a0) {p : Nat} (hp : p < ops.size) (hb : b (pmf pm p) = false) (hdep : ∀ q, q < ops.size → waits B (pmf pm p) (pmf pm q) = true → b (pmf pm q) = true)
    {t q : Nat} {sh : Sh} (ht : t ∈ slotsOf ops (pmf pm p)) (hl : layAt Y.sh Y.nc t = some (q, sh)) : sR E (gw (Fs p)) q sh (a.tmps.getD t undef) := by
  have K := sk_of S R
  by_cases hw : ∃ r, r < ops.size ∧ dstOf ops (pmf pm r) = some t ∧ waits B (pmf pm p) (pmf pm r) = true
  · obtain ⟨r, h1, h2, h3⟩ := hw
    have hrp : r < p := by
      rcases Nat.lt_or_ge r p with h | h
      · exact h
      · rw [S.lin p r hp h1 h] at h3; cases h3
    obtain ⟨h4, h5⟩ := Fs_new S R hl hrp (by omega) h2
    have h6 := J.done r t sh h1 (hdep r h1 h3) h2 h4
    refine sR_move h6 fun i hi => ?_
    rw [Nat.zero_add]
    exact h5 i hi
  · have hold : ∀ r, r < ops.size → dstOf ops (pmf pm r) = some t → b (pmf pm r) = false ∧ p ≤ r := fun r h1 h2 => by
      rcases S.opd p r t hp h1 ht h2 with h | h | h
      · exact absurd ⟨r, h1, h2, h⟩ hw
      · refine ⟨?_, ?_⟩
        · cases hbr : b (pmf pm r) with
          | false => rfl
          | true => rw [J.cl r p h1 hp hbr h] at hb; cases hb
        · rcases Nat.lt_or_ge r p with h5 | h5
          · rw [S.lin r p h1 hp (by omega)] at h; cases h
          · exact h5
      · subst h; exact ⟨hb, Nat.le_refl _⟩
    rw [J.old t fun r h1 h2 => (hold r h1 h2).1]
    exact sR_move (sR_mono J.go.le (H0.tm t q sh hl)) fun i hi => Fs_old S R hl (r := 0) (by omega) (by omega) (fun u h1 h2 h3 => by have := (hold u (by omega) h3).2; omega) i hi
/-- An operation has come up. -/
theorem JJ.next (S : Stat ops B pm l) (R : Trace P T Y ops pm l Fs Ms ns D) (J : JJ P Y ops B pm Ms ns D E0 a0 w0 lm b a w E) {p : Nat} (hp : p < ops.size) {o : Oper} (ho : ops[pmf pm p]? = some o) (hd : okD Y o (D p).d (D p).n = some (D p).s) (hdep : ∀ q, q < ops.size → waits B (pmf pm p) (pmf pm q) = true → b (pmf pm q) = true) {E' : GE} {f' fs fs' : Nat → Nat} {w' : World} {v : Value}
    (C : Comb P E E' (gB Ms ns D pm b ops.size) f' fs fs' (ns p) (ns (p + 1)) (ns ops.size) lm w w') (hf : ∀ l, f' l = gB Ms ns D pm (Go.Proofs.YtkmfmbdgipbaaaaRW.PrintLast.up b (pmf pm p)) ops.size l) (hv : ∀ sh, (D p).s = some sh → sR E' (wd (D p).R) 0 sh v)
    (hst : kind D p = 3 → ∀ l, (Ms (p + 1)).get l ≠ 0 → (Ms p).get l ≠ 0 ∨ (ns p ≤ l ∧ l < ns (p + 1))) : JJ P Y ops B pm Ms ns D E0 a0 w0 lm (Go.Proofs.YtkmfmbdgipbaaaaRW.PrintLast.up b (pmf pm p)) (a.put o.dst v) w' E' := by
  have K := sk_of S R
  have hfe : f' = gB Ms ns D pm (Go.Proofs.YtkmfmbdgipbaaaaRW.PrintLast.up b (pmf pm p)) ops.size := funext hf
  have hup : ∀ q, b q = true → Go.Proofs.YtkmfmbdgipbaaaaRW.PrintLast.up b (pmf pm p) q = true := fun q hq => by
    by_cases e : q = pmf pm p
    · rw [e, Go.Proofs.YtkmfmbdgipbaaaaRW.PrintLast.up_self]
    · rw [Go.Proofs.YtkmfmbdgipbaaaaRW.PrintLast.up_ne e]; exact hq
  have hod : o.dst = dstOf ops (pmf pm p) := by simp [dstOf, ho]
  have hget : ∀ t, t < Y.nt → (a.put o.dst v).tmps.getD t undef = if o.dst = some t then v else a.tmps.getD t undef := fun t ht => put_get (by rw [J.size]; exact ht)
  have hget2 : ∀ t, o.dst ≠ some t → (a.put o.dst v).tmps.getD t undef = a.tmps.getD t undef := fun t ht => by
    cases hh : o.dst with
    | none => rfl
    | some d =>
      have e : d ≠ t := fun e => ht (by rw [hh, e])
      simp [Act.put, Array.getD_eq_getD_getElem?, Array.getElem?_setIfInBounds_ne e]
  refine ⟨fun q r hq hr h1 h2 => ?_, by cases o.dst <;> simp [Act.put, J.size], by cases o.dst <;> simp [Act.put, J.defers], fun q t sh hq h1 h2 h3 => ?_, fun t ht => ?_, by rw [← hfe]; exact C.mr, fun lb g h => ?_, fun q hq h1 h2 => ?_, by rw [← hfe]; exact J.go.comb C (K.le (by omega) (by omega)) (K.le (by omega) (Nat.le_refl _))⟩
  · by_cases e : q = p
    · subst e
      exact hup _ (hdep r hr h2)
    · have hne : pmf pm q ≠ pmf pm p := fun h => e (S.inj q p hq hp h)
      rw [Go.Proofs.YtkmfmbdgipbaaaaRW.PrintLast.up_ne hne] at h1
      exact hup _ (J.cl q r hq hr h1 h2)
  · by_cases e : q = p
    · subst e
      have ht : t < Y.nt := by
        rcases (okD_spec hd).2 with ⟨g1, _, _⟩ | ⟨t', sh', g1, g2, g3, g4, g5⟩
        · rw [← hod, g1] at h2; cases h2
        · rw [← hod, g1] at h2; injection h2 with h2; subst h2; exact g5
      rw [hget t ht, if_pos (by rw [hod]; exact h2)]
      exact hv sh h3
    · have hne : pmf pm q ≠ pmf pm p := fun h => e (S.inj q p hq hp h)
      rw [Go.Proofs.YtkmfmbdgipbaaaaRW.PrintLast.up_ne hne] at h1
      rw [hget2 t fun h => e (S.dst q p t hq hp h2 (by rw [← hod]; exact h))]
      exact sR_mono C.le (J.done q t sh hq h1 h2 h3)
  · have h1 : o.dst ≠ some t := fun h => by
      have := ht p hp (by rw [← hod]; exact h)
      rw [Go.Proofs.YtkmfmbdgipbaaaaRW.PrintLast.up_self] at this
      cases this
    rw [hget2 t h1]
    refine J.old t fun q hq h2 => ?_
    have := ht q hq h2
    cases hbq : b (pmf pm q) with
    | false => rfl
    | true => rw [hup _ hbq] at this; cases this
  · cases hE : E lb with
    | none =>
      obtain ⟨h1, _⟩ := C.new lb g hE h
      exact .inr ⟨p, hp, by rw [Go.Proofs.YtkmfmbdgipbaaaaRW.PrintLast.up_self], h1⟩
    | some x =>
      rcases J.dom lb x hE with h1 | ⟨q, h1, h2, h3⟩
      · exact .inl h1
      · exact .inr ⟨q, h1, hup _ h2, h3⟩
  · by_cases e : q = p
    · subst e; exact hst h1
    · have hne : pmf pm q ≠ pmf pm p := fun h => e (S.inj q p hq hp h)
      rw [Go.Proofs.YtkmfmbdgipbaaaaRW.PrintLast.up_ne hne] at h2
      exact J.st q hq h1 h2
end
section
variable {P : Program} {T : FT} {okDr : OkDr} {Y : Lay} {ops : Array Oper} {B : List Nat} {pm : List Nat} {l : List (CI × List Nat)} {Fs : Nat → Nat} {Ms : Nat → HT} {ns : Nat → Nat} {D : Nat → SD} {E0 E : GE} {a0 a : Act} {w0 w : World} {b : Nat → Bool} {lm : Nat}
theorem MR.zero {f : Nat → Nat} {N n n' : Nat} (M : MR P E f N lm w) (h : ∀ q, n ≤ q → q < n' → E q = none) : MR P E (fun _ => 0) n n' w :=
  ⟨fun b hb => absurd rfl hb, fun b b' k hb => absurd rfl hb, h, M.blt, fun b hb => absurd rfl hb⟩
theorem gB_none (m q : Nat) : gB Ms ns D pm (fun _ => false) m q = (Ms 0).get q := by
  induction m with
  | zero => rfl
  | succ m ih => unfold gB; simp [ih]
theorem gB_later {n : Nat} (S : Sk Fs Ms ns D n) {p m q : Nat} (hpm : p ≤ m) (hm : m ≤ n) (hq : q < ns p) (h : ∀ r, p ≤ r → r < m → kind D r = 3 → b (pmf pm r) = false) : gB Ms ns D pm b m q = gB Ms ns D pm b p q := by
  induction m with
  | zero => have : p = 0 := by omega
            subst this; rfl
  | succ m ih =>
    by_cases e : p = m + 1
    · subst e; rfl
    · have h1 := S.le (p := p) (q := m) (by omega) (by omega)
      rw [gB, if_neg (fun h2 => by rw [h m (by omega) (by omega) h2.1] at h2; cases h2.2), if_neg (by rintro ⟨_, _, h2⟩; omega)]
      exact ih (by omega) (by omega) fun r h1 h2 => h r h1 (by omega)
/-- What a load looks at is as it was in the run. -/
theorem load_same (S : Stat ops B pm l) (R : Trace P T Y ops pm l Fs Ms ns D) (J : JJ P Y ops B pm Ms ns D E0 a0 w0 lm b a w E) {p : Nat} (hp : p < ops.size) (hb : b (pmf pm p) = false) (hdep : ∀ q, q < ops.size → waits B (pmf pm p) (pmf pm q) = true → b (pmf pm q) = true)
    (hk : kind D p ≠ 3) (hkp : Rk l p = true) {t at_ lbl : Nat} (ht : t ∈ slotsOf ops (pmf pm p)) (hl : layAt Y.sh Y.nc t = some (at_, .val 0)) (hat : ldp l p = at_) (hlb : lb (gw (Fs p) at_) = lbl) (h13 : Kd l p = 1 → gw (Fs p) at_ % 32 = 13) {g : G} (hE : E lbl = some g) (hlt : lbl < ns p) : gB Ms ns D pm b ops.size lbl = (Ms p).get lbl := by
  have K := sk_of S R
  have kd : ∀ q, q < ops.size → kind D q ≠ 0 → Kd l q = kind D q := fun q hq h => by
    rcases kind_Kd S R hq with h1 | h1
    · exact absurd h1 h
    · exact h1.symm
  have part1 : ∀ m, m ≤ p → gB Ms ns D pm b m lbl = (Ms m).get lbl := by
    intro m
    induction m with
    | zero => intro _; rfl
    | succ m ih =>
      intro hm
      have ih := ih (by omega)
      have hm' : m < ops.size := by omega
      unfold gB
      split
      · rfl
      · rename_i h3
        split
        · rfl
        · rename_i h2
          rw [ih]
          by_cases hk : kind D m < 2
          · rw [(K.quiet m hm' hk).1]
          · have := K.bound m
            by_cases h3' : kind D m = 3
            · have hw := S.ld p m hp hm' hkp (by rw [kd m hm' (by omega)]; exact h3')
              rcases hw with ⟨_, hw⟩ | ⟨hw, _⟩
              · exact absurd ⟨h3', hdep m hm' hw⟩ h3
              · omega
            · have hk2 : kind D m = 2 := by omega
              obtain ⟨f1, f2⟩ := K.fresh m hm' hk2
              refine (f2 lbl fun e => ?_).symm
              cases hbm : b (pmf pm m) with
              | true => exact h2 ⟨hk2, hbm, e⟩
              | false =>
                rcases J.dom lbl g hE with h5 | ⟨r, h5, h6, h7, h8⟩
                · have := K.le (p := 0) (q := m) (by omega) (by omega)
                  have := K.le (p := m + 1) (q := ops.size) (by omega) (by omega)
                  omega
                · have hne : r ≠ m := fun e => by rw [e, hbm] at h6; cases h6
                  rcases Nat.lt_or_gt_of_ne hne with lt | lt
                  · have := K.le (p := r + 1) (q := m) (by omega) (by omega); omega
                  · have := K.le (p := m + 1) (q := r) (by omega) (by omega); omega
  have part2 : ∀ m, p ≤ m → m ≤ ops.size → gB Ms ns D pm b m lbl = (Ms p).get lbl ∧ ((∀ q, p ≤ q → q < m → kind D q = 3 → b (pmf pm q) = true) → (Ms m).get lbl = (Ms p).get lbl) := by
    intro m
    induction m with
    | zero => intro h _; have : p = 0 := by omega
              subst this; exact ⟨part1 0 (Nat.le_refl _), fun _ => rfl⟩
    | succ m ih =>
      intro hpm hm
      by_cases e : p = m + 1
      · subst e; exact ⟨part1 _ (Nat.le_refl _), fun _ => rfl⟩
      · obtain ⟨i1, i2⟩ := ih (by omega) (by omega)
        have hm' : m < ops.size := by omega
        have hns := K.le (p := p) (q := m) (by omega) (by omega)
        by_cases h3 : kind D m = 3
        · have hpm2 : p < m := by
            rcases Nat.lt_or_ge p m with h | h
            · exact h
            · have : m = p := by omega
              subst this; omega
          cases hbm : b (pmf pm m) with
          | false =>
            refine ⟨?_, fun h => by rw [h m (by omega) (by omega) h3] at hbm; cases hbm⟩
            unfold gB
            rw [if_neg (by rw [hbm]; simp), if_neg (by rw [hbm]; simp)]
            exact i1
          | true =>
            have hall : ∀ q, p ≤ q → q < m → kind D q = 3 → b (pmf pm q) = true := fun q h5 h6 h7 => J.cl m q hm' (by omega) hbm (S.cx q m h6 hm' (by rw [kd m hm' (by omega)]; exact h3) (by rw [kd q (by omega) (by omega)]; omega))
            have hMm := i2 hall
            have hwatch : Kd l p = 1 ∧ ldp l p ∈ wsp l m := by
              rcases S.ld p m hp hm' hkp (by rw [kd m hm' (by omega)]; exact h3) with ⟨h5, _⟩ | ⟨_, h5 | h5⟩
              · omega
              · rw [J.cl m p hm' hp hbm h5] at hb; cases hb
              · exact h5
            obtain ⟨o, _, _, _, _, _, g6, _⟩ := tr_at S R hm'
            have hw := g6 _ hwatch.2
            have hword : gw (Fs (m + 1)) at_ = gw (Fs p) at_ := by
              have := Fs_old S R hl (r := p) (p := m + 1) (by omega) (by omega) (fun u h6 h7 h8 => by
                have h9 := S.lds p u t hp (by omega) hkp ht h8
                rw [S.lin p u hp (by omega) h6] at h9
                cases h9) 0 (by decide)
              simpa using this
            rw [hat, hword, hlb] at hw
            have hw := hw (h13 hwatch.1)
            refine ⟨?_, fun _ => by rw [← hw]; exact hMm⟩
            unfold gB
            rw [if_pos ⟨h3, hbm⟩, ← hw]
            exact hMm
        · have hns2 : lbl ≠ ns m := by omega
          refine ⟨?_, fun h => ?_⟩
          · unfold gB
            rw [if_neg (fun h => h3 h.1), if_neg (fun h => hns2 h.2.2)]
            exact i1
          · have := i2 fun q h5 h6 => h q h5 (by omega)
            by_cases hk : kind D m < 2
            · rw [(K.quiet m hm' hk).1]; exact this
            · have hb3 := K.bound m
              rw [(K.fresh m hm' (by omega)).2 lbl hns2]
              exact this
  exact (part2 _ (by omega) (Nat.le_refl _)).1
end
/-- Regions of open order. -/
def okDrOf (P : Program) (T : FT) : OkDr := fun Y ops l pm => okDl P T Y ops pm l && drChk ops l pm
section
variable {P : Program} {T : FT} {Y : Lay} {ops : Array Oper} {B : List Nat} {pm : List Nat} {l : List (CI × List Nat)} {Fs : Nat → Nat} {Ms : Nat → HT} {ns : Nat → Nat} {D : Nat → SD} {E0 E : GE} {a0 a : Act} {w0 w : World} {b : Nat → Bool} {lm : Nat}
theorem low_of (S : Stat ops B pm l) (R : Trace P T Y ops pm l Fs Ms ns D) (J : JJ P Y ops B pm Ms ns D E0 a0 w0 lm b a w E) (h0 : ∀ q, (Ms 0).get q ≠ 0 → q < ns 0) {p : Nat} (hp : p ≤ ops.size) (hdone : ∀ q, q < p → kind D q = 3 → b (pmf pm q) = true) : ∀ q, (Ms p).get q ≠ 0 → q < ns p := by
  have K := sk_of S R
  induction p with
  | zero => exact h0
  | succ p ih =>
    intro q hq
    have ih := ih (by omega) (fun r hr => hdone r (by omega))
    have hm := K.mono p (by omega)
    have hbd := K.bound p
    by_cases hk : kind D p < 2
    · rw [(K.quiet p (by omega) hk).1] at hq
      have := ih q hq
      omega
    · by_cases h3 : kind D p = 3
      · rcases J.st p (by omega) h3 (hdone p (by omega) h3) q hq with h | h
        · have := ih q h; omega
        · exact h.2
      · obtain ⟨f1, f2⟩ := K.fresh p (by omega) (by omega)
        by_cases e : q = ns p
        · omega
        · rw [f2 q e] at hq
          have := ih q hq
          omega
/-- One operation comes up. -/
theorem JJ.step (S : Stat ops B pm l) (R : Trace P T Y ops pm l Fs Ms ns D) (J : JJ P Y ops B pm Ms ns D E0 a0 w0 lm b a w E) (H0 : FR E0 Y (Fs 0) a0) (h0 : ∀ q, (Ms 0).get q ≠ 0 → q < ns 0) {p : Nat} (hp : p < ops.size) (hb : b (pmf pm p) = false)
    (hdep : ∀ q, q < ops.size → waits B (pmf pm p) (pmf pm q) = true → b (pmf pm q) = true) {Q : Exit → Act → World → Prop} :
    ∃ o, ops[pmf pm p]? = some o ∧ ∀ K : Act → World → Prop, (∀ a' w' E', JJ P Y ops B pm Ms ns D E0 a0 w0 lm (Go.Proofs.YtkmfmbdgipbaaaaRW.PrintLast.up b (pmf pm p)) a' w' E' → K a' w') → if Region.wanted o (yielded ops a.tmps) = true then Oper.wp P o a w K Q else K (a.put o.dst undef) w := by
  have KS := sk_of S R
  obtain ⟨o, ho, hd, hres, hF, hns, hwat, hcls⟩ := tr_at S R hp
  refine ⟨o, ho, fun K hK => ?_⟩
  have kd : ∀ q, q < ops.size → kind D q ≠ 0 → Kd l q = kind D q := fun q hq h => by
    rcases kind_Kd S R hq with h1 | h1
    · exact absurd h1 h
    · exact h1.symm
  have hslot : ∀ t q sh, t ∈ slotsOf ops (pmf pm p) → layAt Y.sh Y.nc t = some (q, sh) → sR E (gw (Fs p)) q sh (a.tmps.getD t undef) := fun t q sh ht hl => J.slot S R H0 hp hb hdep ht hl
  have hsl : ∀ t, Operand.tmp t ∈ opList o.op → t ∈ slotsOf ops (pmf pm p) := fun t ht => by
    unfold slotsOf
    rw [ho]
    exact List.mem_append_left _ (List.mem_filterMap.2 ⟨_, ht, rfl⟩)
  have hFO : FO E Y (Fs p) a o := ⟨fun t q sh ht hl => hslot t q sh (hsl t ht) hl, Fs_con S R H0.con (by omega)⟩
  have hgs : ∀ g wt, okG Y ops o g wt = true → (gw (Fs p) g = wt → Region.wanted o (yielded ops a.tmps) = true) ∧ (gw (Fs p) g = 54 - wt ∨ gw (Fs p) g = 9 → Region.wanted o (yielded ops a.tmps) = false) := fun g wt hg => guard_says hg (fun j bb t hgu hj q sh hl => hslot t q sh (by
    unfold slotsOf
    rw [ho]
    simp only [hgu]
    refine List.mem_append_right _ ?_
    unfold dstOf
    rw [hj]
    simp) hl) J.size
  have hN : ns (p + 1) ≤ ns ops.size := KS.le (by omega) (Nat.le_refl _)
  have hnew : ∀ q, ns p ≤ q → q < ns (p + 1) → E q = none := fun q h1 h2 => by
    cases hE : E q with
    | none => rfl
    | some g =>
      rcases J.dom q g hE with h5 | ⟨r, h5, h6, h7, h8⟩
      · have := KS.le (p := 0) (q := p) (by omega) (by omega)
        omega
      · have hne : r ≠ p := fun e => by rw [e, hb] at h6; cases h6
        rcases Nat.lt_or_gt_of_ne hne with lt | lt
        · have := KS.le (p := r + 1) (q := p) (by omega) (by omega); omega
        · have := KS.le (p := p + 1) (q := r) (by omega) (by omega); omega
  have hlater : kind D p = 3 ∨ kind D p = 2 → ∀ q, p < q → q < ops.size → kind D q = 3 → b (pmf pm q) = false := fun hkp q h1 h2 h3 => by
    cases hbq : b (pmf pm q) with
    | false => rfl
    | true =>
      have := S.cx p q h1 h2 (by rw [kd q h2 (by omega)]; exact h3) (by rw [kd p hp (by omega)]; omega)
      rw [J.cl q p h2 hp hbq this] at hb
      cases hb
  have hinj : ∀ q, q < ops.size → p < ops.size → pmf pm q = pmf pm p → q = p := fun q h1 h2 h3 => S.inj q p h1 h2 h3
  have hquiet : kind D p < 2 → ∀ fs : Nat → Nat, (∀ q, fs q ≠ 0 → gB Ms ns D pm b ops.size q = fs q) → ∀ q, joinF (gB Ms ns D pm b ops.size) fs fs (ns p) (ns (p + 1)) q = gB Ms ns D pm (Go.Proofs.YtkmfmbdgipbaaaaRW.PrintLast.up b (pmf pm p)) ops.size q := fun hk fs hfs q => by
    rw [gB_quiet rfl hk hinj hp (Nat.le_refl _)]
    unfold joinF
    have := (KS.quiet p hp hk).2
    split
    · rename_i hc
      rcases hc with hc | hc
      · exact (hfs q hc).symm
      · omega
    · rfl
  have hlow : kind D p = 3 → ∀ q, (Ms p).get q ≠ 0 → q < ns p := fun hk => low_of S R J h0 (by omega) fun q hq h3 => hdep q (by omega) (S.cx q p hq hp (by rw [kd p hp (by omega)]; exact hk) (by rw [kd q (by omega) (by omega)]; omega))
  have hfull : kind D p = 3 → ∀ q, gB Ms ns D pm b p q = (Ms p).get q := fun hk q => gB_full KS (by omega) (fun r hr h2 => hdep r (by omega) (S.cx r p hr hp (by rw [kd p hp (by omega)]; exact hk) (by rw [kd r (by omega) (by omega)]; exact h2))) q
  have hlat : kind D p = 3 → ∀ q, (Ms p).get q ≠ 0 → gB Ms ns D pm b ops.size q = (Ms p).get q := fun hk q hq => by
    rw [gB_later KS (p := p) (by omega) (Nat.le_refl _) (hlow hk q hq) fun r h1 h2 h3 => ?_, hfull hk q]
    by_cases e : r = p
    · rw [e]; exact hb
    · exact hlater (.inl hk) r (by omega) h2 h3
  have hk3 : ∀ i, (D p).i = some i → kind D p = cls i := fun i hi => by unfold kind; rw [hi]
  generalize hgg : (D p).g = gg at *
  generalize hii : (D p).i = ii at *
  generalize hRR : (D p).R = RR at *
  generalize hMp : Ms (p + 1) = M' at *
  generalize hnp : ns (p + 1) = n' at *
  cases hres with
  | no g wt hg hw =>
    rw [if_neg (by simp [(hgs g wt hg).2 hw])]
    have hk : kind D p < 2 := by unfold kind; rw [hii]; decide
    have C := J.mr.comb (n := ns p) (n' := ns p) (lm' := ns p) (fs := fun _ => 0) (fs' := fun _ => 0) (w' := w) hN (fun q h => absurd rfl h) (fun q h1 h2 => by omega) Go1.refl (J.mr.zero fun q h1 h2 => by omega)
    refine hK _ w _ (J.next S R hp ho hd hdep (v := undef) (by rw [hnp]; exact C) (hquiet hk _ fun q h => absurd rfl h) (fun sh hs => ?_) (fun h => by omega))
    rw [hRR, (okD_spec hd).1 sh hs]
    exact noR_sR
  | run g i R' M'' nx' hg hr =>
    have hw : Region.wanted o (yielded ops a.tmps) = true := by
      cases gg with
      | none => unfold Region.wanted; rw [hg]
      | some pw => exact (hgs _ _ hg.1).1 hg.2
    rw [if_pos hw]
    have hkc := hk3 i rfl
    generalize hc : cls i = c at *
    obtain _ | _ | _ | c := c
    · obtain ⟨e1, e2, hr⟩ := hr
      subst e2
      refine (hr (fun _ => 0) (ns p)).run E a w (ns p) (Nat.le_refl _) hFO (J.mr.zero fun q h1 h2 => by omega) K Q fun E1 v w' G1 M1 hv => ?_
      have C := J.mr.comb (fs := fun _ => 0) (fs' := fun _ => 0) hN (fun q h => absurd rfl h) (fun q h1 h2 => by omega) G1 M1
      exact hK _ w' _ (J.next S R hp ho hd hdep (v := v) (by rw [hnp]; exact C) (hquiet (by omega) _ fun q h => absurd rfl h) (fun sh hs => by rw [hRR]; exact hv sh hs) (fun h => by omega))
    · obtain ⟨e1, e2, ⟨h13, hlt⟩, ⟨x, hx1, hx2⟩, hr⟩ := hr
      subst e2
      have hti : ∃ t, x = .tmp t := by
        cases x with
        | tmp t => exact ⟨t, rfl⟩
        | const v =>
          exfalso
          simp only [okO, Bool.and_eq_true] at hx2
          have hp0 : ldAt i < Y.nc := by have := ble_of hx2.1; simp only [csz] at this; omega
          have hw13 : gw Y.con (ldAt i) % 32 = 13 := by rw [← Fs_con S R H0.con (p := p) (by omega) _ hp0]; exact h13
          have hcon := hx2.2
          unfold conOk at hcon
          simp only at hcon
          unfold con1 at hcon
          split at hcon
          · rename_i k n
            rw [Bool.and_eq_true] at hcon
            have := Nat.eq_of_beq_eq_true hcon.1
            rw [this, wi_eq] at hw13
            have := tg_pos k
            omega
          · rename_i bb
            have := Nat.eq_of_beq_eq_true hcon
            rw [this] at hw13
            cases bb <;> simp at hw13
          all_goals first | (have := Nat.eq_of_beq_eq_true hcon; rw [this] at hw13; simp at hw13; done) | (rw [Bool.and_eq_true] at hcon; have := Nat.eq_of_beq_eq_true hcon.1; rw [this] at hw13; simp at hw13; done) | cases hcon
        | func f =>
          exfalso
          simp only [okO, Bool.and_eq_true] at hx2
          have hp0 : ldAt i < Y.nc := blt_of hx2.1.2
          have hw13 : gw Y.con (ldAt i) % 32 = 13 := by rw [← Fs_con S R H0.con (p := p) (by omega) _ hp0]; exact h13
          have := Nat.eq_of_beq_eq_true hx2.2
          rw [this, (fword f).1] at hw13
          omega
        | global g => cases hx2
      obtain ⟨t, rfl⟩ := hti
      obtain ⟨g1, T1, c1, h5, h6⟩ := rdPtr hFO hx1 hx2 h13
      have hl : layAt Y.sh Y.nc t = some (ldAt i, .val 0) := by
        simp only [okO] at hx2
        split at hx2
        · rename_i q c' hl
          rw [Bool.and_eq_true] at hx2
          rw [hl, Nat.eq_of_beq_eq_true hx2.1, Nat.eq_of_beq_eq_true hx2.2]
        · cases hx2
      by_cases hz : gB Ms ns D pm b ops.size (lb (gw (Fs p) (ldAt i))) = (Ms p).get (lb (gw (Fs p) (ldAt i)))
      · generalize hlb : lb (gw (Fs p) (ldAt i)) = lbl at *
        have hfs : ∀ q, (if q = lbl then gB Ms ns D pm b ops.size q else 0) ≠ 0 → gB Ms ns D pm b ops.size q = if q = lbl then gB Ms ns D pm b ops.size q else 0 := fun q hq => by
          split at hq
          · rename_i e; rw [if_pos e]
          · exact absurd rfl hq
        have hM : MR P E (fun q => if q = lbl then gB Ms ns D pm b ops.size q else 0) (ns p) (ns p) w := by
          refine ⟨fun q hq => ?_, fun q q' k hq hq' h1 h2 => ?_, fun q h1 h2 => by omega, J.mr.blt, fun q hq => by split at hq <;> first | (rename_i e; rw [e]; exact hlt) | exact absurd rfl hq⟩
          · have := hfs q hq
            rw [← this] at hq ⊢
            exact J.mr.obj q hq
          · rw [← hfs q hq] at hq
            rw [← hfs q' hq'] at hq'
            exact J.mr.inj q q' k hq hq' h1 h2
        refine (hr _ (ns p) (by simp only [if_true]; exact hz)).run E a w (ns p) (Nat.le_refl _) hFO hM K Q fun E1 v w' G1 M1 hv => ?_
        have C := J.mr.comb hN hfs (fun q h1 h2 => by omega) G1 M1
        exact hK _ w' _ (J.next S R hp ho hd hdep (v := v) (by rw [hnp]; exact C) (hquiet (by omega) _ hfs) (fun sh hs => by rw [hRR]; exact hv sh hs) (fun h => by omega))
      · exfalso
        exact hz (load_same S R J hp hb hdep (by omega) (by rw [← (hcls i rfl).2.2]; exact rdI_one hc) (hsl t hx1) hl (hcls i rfl).2.1.symm rfl (fun _ => h13) h5 hlt)
    · obtain ⟨e1, X, h1, hr⟩ := hr
      subst e1
      have hdone : ∀ fs : Nat → Nat, (∀ q, fs q ≠ 0 → gB Ms ns D pm b ops.size q = fs q) → ∀ q, joinF (gB Ms ns D pm b ops.size) fs (upd fs (ns p) X) (ns p) (ns p + 1) q = gB Ms ns D pm (Go.Proofs.YtkmfmbdgipbaaaaRW.PrintLast.up b (pmf pm p)) ops.size q := fun fs hfs q => by
        rw [gB_fresh KS rfl (by omega) hinj hp hb (hlater (.inr (by omega))) (by omega) (Nat.le_refl _), hMp]
        unfold joinF upd
        by_cases e : q = ns p
        · rw [if_pos (.inr ⟨by omega, by omega⟩), if_pos e, h1 q]
          simp only [e, if_true]
        · rw [if_neg e, if_neg e]
          split
          · rename_i hc'
            rcases hc' with h | h
            · exact (hfs q h).symm
            · omega
          · rfl
      rcases hr with hr | ⟨hrd, h13, hlt, ⟨x, hx1, hx2⟩, hr⟩
      · refine (hr fun _ => 0).run E a w (ns p + 1) (Nat.le_refl _) hFO (J.mr.zero hnew) K Q fun E1 v w' G1 M1 hv => ?_
        have C := J.mr.comb hN (fun q h => absurd rfl h) hnew G1 M1
        exact hK _ w' _ (J.next S R hp ho hd hdep (v := v) (by rw [hnp]; exact C) (fun q => hdone _ (fun q h => absurd rfl h) q) (fun sh hs => by rw [hRR]; exact hv sh hs) (fun h => by omega))
      · have hti : ∃ t, x = .tmp t := by
          cases x with
          | tmp t => exact ⟨t, rfl⟩
          | const v =>
            exfalso
            simp only [okO, Bool.and_eq_true] at hx2
            have hp0 : ldAt i < Y.nc := by have := ble_of hx2.1; simp only [csz] at this; omega
            have hw13 : gw Y.con (ldAt i) % 32 = 15 ∨ gw Y.con (ldAt i) % 32 = 16 := by rw [← Fs_con S R H0.con (p := p) (by omega) _ hp0]; exact h13
            have hcon := hx2.2
            unfold conOk at hcon
            simp only at hcon
            unfold con1 at hcon
            split at hcon
            · rename_i k n
              rw [Bool.and_eq_true] at hcon
              have := Nat.eq_of_beq_eq_true hcon.1
              rw [this, wi_eq] at hw13
              have := tg_pos k
              omega
            · rename_i bb
              have := Nat.eq_of_beq_eq_true hcon
              rw [this] at hw13
              cases bb <;> simp at hw13
            all_goals first | (have := Nat.eq_of_beq_eq_true hcon; rw [this] at hw13; simp at hw13; done) | (rw [Bool.and_eq_true] at hcon; have := Nat.eq_of_beq_eq_true hcon.1; rw [this] at hw13; simp at hw13; done) | cases hcon
          | func f =>
            exfalso
            simp only [okO, Bool.and_eq_true] at hx2
            have hp0 : ldAt i < Y.nc := blt_of hx2.1.2
            have hw13 : gw Y.con (ldAt i) % 32 = 15 ∨ gw Y.con (ldAt i) % 32 = 16 := by rw [← Fs_con S R H0.con (p := p) (by omega) _ hp0]; exact h13
            have := Nat.eq_of_beq_eq_true hx2.2
            rw [this, (fword f).1] at hw13
            omega
          | global g => cases hx2
        obtain ⟨t, rfl⟩ := hti
        obtain ⟨g1, T1, c1, C1, h5, h6, _⟩ := rdS hFO hx1 hx2 h13
        have hl : layAt Y.sh Y.nc t = some (ldAt i, .val 0) := by
          simp only [okO] at hx2
          split at hx2
          · rename_i q c' hl
            rw [Bool.and_eq_true] at hx2
            rw [hl, Nat.eq_of_beq_eq_true hx2.1, Nat.eq_of_beq_eq_true hx2.2]
          · cases hx2
        by_cases hz : gB Ms ns D pm b ops.size (lb (gw (Fs p) (ldAt i))) = (Ms p).get (lb (gw (Fs p) (ldAt i)))
        · generalize hlb : lb (gw (Fs p) (ldAt i)) = lbl at *
          have hfs : ∀ q, (if q = lbl then gB Ms ns D pm b ops.size q else 0) ≠ 0 → gB Ms ns D pm b ops.size q = if q = lbl then gB Ms ns D pm b ops.size q else 0 := fun q hq => by
            split at hq
            · rename_i e; rw [if_pos e]
            · exact absurd rfl hq
          have hM : MR P E (fun q => if q = lbl then gB Ms ns D pm b ops.size q else 0) (ns p) (ns p + 1) w := by
            refine ⟨fun q hq => ?_, fun q q' k hq hq' h1 h2 => ?_, fun q h1 h2 => hnew q h1 h2, J.mr.blt, fun q hq => by split at hq <;> first | (rename_i e; rw [e]; exact hlt) | exact absurd rfl hq⟩
            · have := hfs q hq
              rw [← this] at hq ⊢
              exact J.mr.obj q hq
            · rw [← hfs q hq] at hq
              rw [← hfs q' hq'] at hq'
              exact J.mr.inj q q' k hq hq' h1 h2
          refine (hr _ (by simp only [if_true]; exact hz)).run E a w (ns p + 1) (Nat.le_refl _) hFO hM K Q fun E1 v w' G1 M1 hv => ?_
          have C := J.mr.comb hN hfs hnew G1 M1
          exact hK _ w' _ (J.next S R hp ho hd hdep (v := v) (by rw [hnp]; exact C) (fun q => hdone _ hfs q) (fun sh hs => by rw [hRR]; exact hv sh hs) (fun h => by omega))
        · exfalso
          exact hz (load_same S R J hp hb hdep (by omega) (by rw [← (hcls i rfl).2.2]; exact hrd) (hsl t hx1) hl (hcls i rfl).2.1.symm rfl (fun h => by rw [← (hcls i rfl).1] at h; omega) h5 hlt)
    · have hk : kind D p = 3 := by
        have := KS.bound p
        omega
      have hr : Runs P Y o (D p).s (Fs p) (Ms p).get (ns p) RR M'.get n' := hr
      have hM : MR P E (Ms p).get (ns p) n' w := by
        refine ⟨fun q hq => ?_, fun q q' k hq hq' h1 h2 => ?_, hnew, J.mr.blt, hlow hk⟩
        · have e := hlat hk q hq
          rw [← e] at hq ⊢
          exact J.mr.obj q hq
        · have e := hlat hk q hq
          have e' := hlat hk q' hq'
          rw [← e] at hq
          rw [← e'] at hq'
          exact J.mr.inj q q' k hq hq' h1 h2
      refine hr.run E a w n' (Nat.le_refl _) hFO hM K Q fun E1 v w' G1 M1 hv => ?_
      have C := J.mr.comb hN (hlat hk) hnew G1 M1
      refine hK _ w' _ (J.next S R hp ho hd hdep (v := v) (by rw [hnp]; exact C) (fun q => ?_) (fun sh hs => by rw [hRR]; exact hv sh hs) (fun _ => by rw [hMp, hnp]; exact C.st))
      rw [gB_other KS rfl hk hinj hp hb (hlater (.inl hk)) (hfull hk) (hlow hk) (by rw [hMp, hnp]; exact C.st) (by omega) (Nat.le_refl _), hMp, hnp]
      rfl
end
section
variable {P : Program} {T : FT}
open Go.Proofs.YtkmfmbdgipbaaaaRW.PrintLast
theorem dr_ok (hm : P.follows .mixedOrders = true) (HT' : TabOk P T (okDrOf P T)) : DrOk P T (okDrOf P T) := by
  intro run HR Y id ops l pm hok F M nx k h
  have hok : (okDl P T Y ops pm l && drChk ops l pm) = true := hok
  rw [Bool.and_eq_true] at hok
  obtain ⟨hlen, Fs, Ms, ns, D, f0, m0, n0, R, hk⟩ := evD_trace HR HT' hok.1 h
  have S := stat_of hok.2
  have KS := sk_of S R
  rw [S.len'] at hk
  refine ⟨Fs ops.size, Ms ops.size, ns ops.size, hk, by rw [← n0]; exact KS.le (Nat.zero_le _) (Nat.le_refl _), fun E0 a0 w0 lm hlm H0 MM0 Q hQ => ?_⟩
  show (Code.region id ops true).wp P Q a0 w0
  subst f0 m0 n0
  have hw : waitsOk (rtab .any ops).2 (Region.before ops).toList = true ∧ baseOk (rtab .any ops).2 (List.range ops.size) = true := by
    have := hok.2
    simp only [drChk, Bool.and_eq_true] at this
    exact ⟨this.1.1.2, this.1.2⟩
  have hn : ns 0 ≤ ns ops.size := KS.le (Nat.zero_le _) (Nat.le_refl _)
  have hlen2 : (rtab .any ops).2.length = ops.size := by simp [rtab]
  generalize (Region.before ops).toList = B at *
  refine wp_region_last (S := fun _ => True) (ds := []) hm ?_
  show wpAnyLast P .any ops Q (fun _ => True) [] ops.size (Array.replicate ops.size false) a0 w0.drew
  have key : ∀ b a w', (∀ j, j < ops.size → b j = true) → (∃ E, JJ P Y ops B pm Ms ns D E0 a0 w0.drew lm b a w' E) → Q .normal a w' := by
    rintro b a w' hall ⟨E, J⟩
    have hg : gB Ms ns D pm b ops.size = (Ms ops.size).get := funext fun q => gB_full KS (Nat.le_refl _) (fun r hr _ => hall _ (S.lt r hr)) q
    have hmr := J.mr
    have hgo := J.go
    rw [hg] at hmr hgo
    refine hQ E a w' ⟨hgo.le, hgo.nxle, hgo.os, hgo.tape, hgo.output, hgo.size, hgo.frame, hgo.new, hgo.live⟩ ⟨fun t q sh hl => ?_, Fs_con S R H0.con (Nat.le_refl _), J.size, J.defers⟩ hmr
    by_cases hwr : ∃ r, r < ops.size ∧ dstOf ops (pmf pm r) = some t
    · obtain ⟨r, h1, h2⟩ := hwr
      obtain ⟨h3, h4⟩ := Fs_new S R hl h1 (Nat.le_refl _) h2
      refine sR_move (J.done r t sh h1 (hall _ (S.lt r h1)) h2 h3) fun i hi => ?_
      rw [Nat.zero_add]
      exact h4 i hi
    · rw [J.old t fun r h1 h2 => absurd ⟨r, h1, h2⟩ hwr]
      exact sR_move (sR_mono J.go.le (H0.tm t q sh hl)) fun i hi => Fs_old S R hl (r := 0) (Nat.zero_le _) (Nat.le_refl _) (fun u _ h2 h3 => hwr ⟨u, h2, h3⟩) i hi
  refine inv_ (List.range ops.size) (fun b a w' => ∃ E, JJ P Y ops B pm Ms ns D E0 a0 w0.drew lm b a w' E) rfl hw.1 hw.2 ?_ ?_ ?_ ?_
  · rw [hlen2]
    simp only [List.length_range, beq_self_eq_true, Bool.and_true, beq_iff_eq]
    apply List.ext_getElem
    · simp [lof]
    · intro j h1 h2
      simp [lof] at h1 h2 ⊢
      exact h1
  · have hg : gB Ms ns D pm (fun _ => false) ops.size = (Ms 0).get := funext fun q => gB_none (ns := ns) (D := D) (pm := pm) ops.size q
    refine ⟨E0, fun p q hp hq h => (by cases h), H0.size, H0.defers, fun p t sh hp h => (by cases h), fun t _ => rfl, ?_, fun q g hq => ?_, fun p hp _ h => (by cases h), ?_⟩
    · rw [hg]
      exact ⟨MM0.obj, MM0.inj, fun q h1 h2 => MM0.free q (by omega) h2, MM0.blt, fun q hq => by have := MM0.low q hq; omega⟩
    · by_cases h1 : q < ns 0
      · exact .inl (.inl h1)
      · refine .inl (.inr ?_)
        rcases Nat.lt_or_ge q (ns ops.size) with h2 | h2
        · rw [MM0.free q (by omega) (by omega)] at hq; cases hq
        · exact h2
    · rw [hg]
      exact ⟨GE.le_refl _, hn, rfl, rfl, rfl, Nat.le_refl _, fun _ _ _ => rfl, fun q g h h' => (by rw [h] at h'; cases h'), fun q hq => .inl hq⟩
  · intro i hi b a w' I hbi hpre hsuc
    have hi' : i < ops.size := List.mem_range.1 hi
    obtain ⟨E, J⟩ := I
    obtain ⟨p, hp, hpi⟩ := S.sur i hi'
    subst hpi
    obtain ⟨o, ho, hstep⟩ := J.step S R H0 MM0.low hp hbi (fun q hq hwq => hpre _ (by simp [S.lt q hq]; exact hwq)) (Q := Q)
    exact ⟨o, ho, fun K hKs => hstep K fun a' w'' E' J' => hKs.out _ _ ⟨E', J'⟩⟩
  · intro b a w' hall I
    exact key b a w' (fun j hj => hall j (by simp [hj])) I
end
end
end Go.Rill.VM
end
section
namespace Go.Rill.VM
set_option linter.unusedVariables false
set_option linter.unusedSimpArgs false
open Go.RowKit
def FT.allAt : FT → Nat → Nat → (Nat → Ent → Prop) → Prop
  | .lf, _, _, _ => True
  | .nd l v r, d, s, Q => (∀ e, v = some e → Q (d + s) e) ∧ allAt l (2 * d) s Q ∧ allAt r (2 * d) (s + d) Q
theorem FT.get_nd (l r : FT) (v : Option Ent) (p : Nat) : (FT.nd l v r).get p = if p = 1 then v else if p % 2 = 1 then r.get (p / 2) else l.get (p / 2) := by
  show Bool.rec (motive := fun _ => Option Ent) (Bool.rec (motive := fun _ => Option Ent) (l.get (Nat.shiftRight p 1)) (r.get (Nat.shiftRight p 1)) (Nat.beq (Nat.land p 1) 1)) v (Nat.beq p 1) = _
  have e1 : Nat.shiftRight p 1 = p / 2 := Nat.shiftRight_eq_div_pow _ _
  have e2 : Nat.land p 1 = p % 2 := Nat.and_two_pow_sub_one_eq_mod p 1
  rw [e1, e2, beq_dec, beq_dec]
  by_cases h : p = 1
  · simp [h]
  · by_cases h2 : p % 2 = 1 <;> simp [h, h2]
theorem FT.all_get {Q : Nat → Ent → Prop} : ∀ {t : FT} {d s : Nat}, t.allAt d s Q → ∀ p e, t.get p = some e → Q (p * d + s) e
  | .lf, d, s, _, p, e, h => by cases h
  | .nd l v r, d, s, ⟨h1, h2, h3⟩, p, e, h => by
    rw [FT.get_nd] at h
    split at h
    · rename_i hp
      subst hp
      rw [Nat.one_mul]
      exact h1 e h
    · split at h
      · rename_i hp
        have := FT.all_get h3 _ _ h
        rw [show p * d + s = p / 2 * (2 * d) + (s + d) by
          have : p = 2 * (p / 2) + 1 := by omega
          generalize p / 2 = m at *
          subst this
          rw [Nat.add_mul, Nat.mul_assoc, Nat.mul_left_comm]; omega]
        exact this
      · rename_i hp
        have := FT.all_get h2 _ _ h
        rw [show p * d + s = p / 2 * (2 * d) + s by
          have : p = 2 * (p / 2) := by omega
          generalize p / 2 = m at *
          subst this
          rw [Nat.mul_assoc, Nat.mul_left_comm]]
        exact this
theorem all_lf {d s : Nat} {Q : Nat → Ent → Prop} : FT.lf.allAt d s Q := trivial
theorem all_no {l r : FT} {d s : Nat} {Q : Nat → Ent → Prop} (h2 : l.allAt (2 * d) s Q) (h3 : r.allAt (2 * d) (s + d) Q) : (FT.nd l none r).allAt d s Q := ⟨fun e h => (by cases h), h2, h3⟩
theorem all_so {l r : FT} {e : Ent} {d s : Nat} {Q : Nat → Ent → Prop} (h : Q (d + s) e) (h2 : l.allAt (2 * d) s Q) (h3 : r.allAt (2 * d) (s + d) Q) : (FT.nd l (some e) r).allAt d s Q := ⟨fun e' h' => by injection h' with h'; subst h'; exact h, h2, h3⟩
theorem tabOk_of {P : Program} {T : FT} {okDr : OkDr} (h : T.allAt 1 0 fun f e => EntOk P T okDr f e) : TabOk P T okDr := fun f e hf => by
  have := FT.all_get h f e hf
  rwa [Nat.mul_one, Nat.add_zero] at this
/-- A law without arguments that the kernel has run. -/
theorem runs_true {P : Program} {T : FT} {c : CFn} {f n lv : Nat} (hm : P.follows .mixedOrders = true) (HT' : TabOk P T (okDrOf P T)) (hok : okFn P T (okDrOf P T) f c = true) (hs : resSh c.res = .val 0)
    (h : ev T n c.code c.Y.con (HT.full lv) 1 (fun G M nx => eRes c.res G M fun r => Nat.beq r 43) (fun e G M nx => need (Nat.beq e 0) (eRes c.res G M fun r => Nat.beq r 43)) = true) (w : World) :
    Calls P f #[] w fun e w' => e = .returned (.bool true) ∧ Ext w w' := by
  refine (closed_calls HT' (dr_ok hm HT') hok h w).mono fun e w' ⟨v, E', he, h1, h2⟩ => ?_
  subst he
  rw [hs] at h2
  have h2 : vR E' (wd 43) 0 0 v := h2
  have h3 : cv E' (wd 43 0) = some v := h2 (by decide)
  have h4 : cv E' (wd 43 0) = some (.bool true) := rfl
  rw [h4] at h3
  injection h3 with h3
  exact ⟨by rw [h3], h1⟩
end Go.Rill.VM
end
