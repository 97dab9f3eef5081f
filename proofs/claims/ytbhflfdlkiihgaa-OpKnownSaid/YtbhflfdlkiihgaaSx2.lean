/- Values as names: integers by their numbers, blocks by their places; what the pure steps of a walk make of them, reckoned as closed data. No condition. -/
import Derived.Test.YtbhflfdlkiihgaaBase3
import Derived.Test.YtbhflfdlkiihgaaEq
import Derived.Test.YtbhflfdlkiihgaaSx1
import Derived.Test.YtbhflfdlkiihgaaPlainB
namespace Go.Sx
open Go Go.RowKit Go.Bx

def lo : IntKind → Int
  | .i8 => -128 | .i16 => -32768 | .i32 => -2147483648 | .i64 => -9223372036854775808
  | _ => 0
def hi : IntKind → Int
  | .i8 => 127 | .i16 => 32767 | .i32 => 2147483647 | .i64 => 9223372036854775807
  | .u8 => 255 | .u16 => 65535 | .u32 => 4294967295 | .u64 => 18446744073709551615
structure InR (k : IntKind) (x : Int) : Prop where
  lo : lo k ≤ x
  hi : x ≤ hi k
/-- In range, reckoned. -/
def inB (k : IntKind) : Int → Bool
  | .ofNat n => Nat.ble n (match k with | .i8 => 127 | .i16 => 32767 | .i32 => 2147483647 | .i64 => 9223372036854775807 | .u8 => 255 | .u16 => 65535 | .u32 => 4294967295 | .u64 => 18446744073709551615)
  | .negSucc n => Nat.blt n (match k with | .i8 => 128 | .i16 => 32768 | .i32 => 2147483648 | .i64 => 9223372036854775808 | _ => 0)
theorem inB_ok {k : IntKind} {x : Int} (h : inB k x = true) : InR k x := by
  cases x with
  | ofNat n =>
    have h1 := Nat.le_of_ble_eq_true h
    rw [Int.ofNat_eq_natCast]
    cases k <;> dsimp only at h1 <;> constructor <;> simp only [lo, hi] <;> omega
  | negSucc n =>
    unfold inB at h
    simp only [Nat.blt] at h
    have h1 := Nat.le_of_ble_eq_true h
    rw [Int.negSucc_eq]
    cases k <;> dsimp only at h1 <;> constructor <;> simp only [lo, hi] <;> omega
theorem wrap_in {k : IntKind} {x : Int} (h : InR k x) : k.wrap x = x := by
  obtain ⟨h1, h2⟩ := h
  cases k <;> simp only [lo, hi] at h1 h2
  · exact IntWalk.i8_in _ ⟨h1, h2⟩
  · exact IntWalk.i16_in _ ⟨h1, h2⟩
  · exact IntWalk.i32_in _ ⟨h1, h2⟩
  · exact IntWalk.i64_in _ ⟨h1, h2⟩
  · exact IntWalk.u8_in _ ⟨h1, h2⟩
  · exact IntWalk.u16_in _ ⟨h1, h2⟩
  · exact IntWalk.u32_in _ ⟨h1, h2⟩
  · exact IntWalk.u64_in _ ⟨h1, h2⟩
theorem inR_wrap (k : IntKind) (x : Int) : InR k (k.wrap x) := by
  constructor <;> cases k <;> simp only [lo, hi, IntKind.wrap, IntKind.signed, IntKind.bits, Bool.true_and, Bool.false_and, Bool.false_eq_true, if_false, Int.reducePow, Nat.reduceSub, ge_iff_le, decide_eq_true_eq] <;> (try split) <;> omega
/-- The number, wrapped; quick where it is in range. -/
def wrapB (k : IntKind) (x : Int) : Int := if inB k x then x else k.wrap x
theorem wrapB_eq (k : IntKind) (x : Int) : wrapB k x = k.wrap x := by
  unfold wrapB; split
  · rename_i h; exact (wrap_in (inB_ok h)).symm
  · rfl

/-- An integer: by its number, or a literal. -/
inductive Ref where
  | v (i : Nat)
  | l (n : Int)
/-- One cell. -/
inductive C where
  | int (k : IntKind) (r : Ref)
  | bool (r : Ref)
  | ptr (b off : Nat)
  | ptrx (b off len : Nat) (i : Nat)
  | slc (b off len cap : Nat)
  | nilp
  | nils
  | str (l : List UInt8)
  | strv (r : Ref)
  | opq (b : Nat) (r : Ref)
  | undef
inductive SV where
  | c (c : C)
  | agg (l : List C)
  | tup (l : List (C ⊕ List C))
  | any
structure Env where
  ρ : Nat → Int
  blk : Nat → Option Nat
  val : Nat → Option (Value × List UInt8)
def Ref.den (ρ : Nat → Int) : Ref → Int
  | .v i => ρ i
  | .l n => n
def C.den (E : Env) : C → Value
  | .int k r => .int k (r.den E.ρ)
  | .bool r => .bool (decide (r.den E.ρ ≠ 0))
  | .ptr b off => match E.blk b with | some g => .pointer (some ⟨g, off, none⟩) | none => Go.undef
  | .ptrx b off _ i => match E.blk b with | some g => .pointer (some ⟨g, off + (E.ρ i).toNat, none⟩) | none => Go.undef
  | .slc b off len cap => match E.blk b with | some g => .slice (some ⟨g, off, none⟩) len cap | none => Go.undef
  | .nilp => .pointer none
  | .nils => .slice none 0 0
  | .str l => .string ⟨l.toArray⟩
  | .strv r => .string ⟨(decZ (r.den E.ρ)).toArray⟩
  | .opq b _ => match E.val b with | some p => p.1 | none => Go.undef
  | .undef => Go.undef
def C.ok (E : Env) : C → Prop
  | .int k r => InR k (r.den E.ρ)
  | .ptr b _ => (E.blk b).isSome = true
  | .ptrx b _ len i => (E.blk b).isSome = true ∧ 0 ≤ E.ρ i ∧ E.ρ i < len
  | .slc b _ _ _ => (E.blk b).isSome = true
  | .strv r => Str (r.den E.ρ)
  | .opq b r => Str (r.den E.ρ) ∧ ∃ v, E.val b = some (v, decZ (r.den E.ρ)) ∧ ∃ a c, v = .slice a (decZ (r.den E.ρ)).length c
  | _ => True
def oks (E : Env) (l : List C) : Prop := ∀ c ∈ l, c.ok E
def dens (E : Env) (l : List C) : List Value := l.map (C.den E)
def sumDen (E : Env) : C ⊕ List C → Value
  | .inl c => c.den E
  | .inr l => .agg (dens E l).toArray
def sumOk (E : Env) : C ⊕ List C → Prop
  | .inl c => c.ok E
  | .inr l => oks E l
/-- What a name stands for. -/
def SV.Rel (E : Env) : SV → Value → Prop
  | .c x, v => v = x.den E ∧ x.ok E
  | .agg l, v => v = .agg (dens E l).toArray ∧ oks E l
  | .tup l, v => v = .tuple (l.map (sumDen E)).toArray ∧ ∀ x ∈ l, sumOk E x
  | .any, _ => True

/-- What is known of the integers: how they are reckoned; which way a test went. -/
inductive Fact where
  | bin (n : Nat) (op : BinOp) (k : IntKind) (a b : Ref)
  | cmp (n : Nat) (op : BinOp) (a b : Ref)
  | not (n : Nat) (a : Ref)
  | conv (n : Nat) (k : IntKind) (a : Ref)
  | eqs (n : Nat) (l : List (Ref × Ref))
  | call (n j : Nat) (args : List (List Ref)) (m : Nat)
  | cond (r : Nat) (b : Bool)
  | need (j : Nat) (args : List (List Ref))
  | idx (i len : Nat)
  | sel (n : Nat) (l : List Ref) (i : Nat)
  | upd (n : Nat) (l : List Ref) (i : Nat) (x : Ref)
  | shv (n : Nat) (left : Bool) (k : IntKind) (a : Ref) (i : Nat)
  | beq (n : Nat) (neg : Bool) (a b : Ref)
  | prim (n p : Nat) (l : List Ref)
  | must (p : Nat) (l : List Ref)
/-- What the called functions make of integers; what they ask. -/
structure Fns where
  g : Nat → List (List Int) → List Int
  pre : Nat → List (List Int) → Prop
def binZ (op : BinOp) (k : IntKind) (x y : Int) : Option Int :=
  match op with
  | .add => some (wrapB k (x + y))
  | .sub => some (wrapB k (x - y))
  | .mul => some (wrapB k (x * y))
  | .quo => if y = 0 then none else some (wrapB k (x.tdiv y))
  | .rem => if y = 0 then none else some (x.tmod y)
  | .and => some (k.wrap (BitVec.ofInt k.bits x &&& BitVec.ofInt k.bits y).toNat)
  | .or => some (k.wrap (BitVec.ofInt k.bits x ||| BitVec.ofInt k.bits y).toNat)
  | .xor => some (k.wrap (BitVec.ofInt k.bits x ^^^ BitVec.ofInt k.bits y).toNat)
  | .andNot => some (k.wrap (BitVec.ofInt k.bits x &&& ~~~BitVec.ofInt k.bits y).toNat)
  | .shl => if y < 0 then none else some (wrapB k (x * 2 ^ (min y.toNat k.bits)))
  | .shr => if y < 0 then none else some (x.fdiv (2 ^ (min y.toNat k.bits)))
  | _ => none
/-- A shift by so many places. -/
def shvZ (left : Bool) (k : IntKind) (x y : Int) : Int :=
  if left then wrapB k (x * 2 ^ (min y.toNat k.bits)) else x.fdiv (2 ^ (min y.toNat k.bits))
def shOp (left : Bool) : BinOp := if left then .shl else .shr
theorem shvZ_bin {left : Bool} {k : IntKind} {x y : Int} (h : 0 ≤ y) : binZ (shOp left) k x y = some (shvZ left k x y) := by
  have h' : ¬ y < 0 := by omega
  cases left <;> simp [shOp, binZ, shvZ, h']
def cmpZ (op : BinOp) (x y : Int) : Option Bool :=
  match op with
  | .eql => some (decide (x = y))
  | .neq => some (decide (x ≠ y))
  | .lss => some (decide (x < y))
  | .leq => some (decide (x ≤ y))
  | .gtr => some (decide (y < x))
  | .geq => some (decide (y ≤ x))
  | _ => none
def b2i (b : Bool) : Int := if b then 1 else 0
def Fact.ok (fns : Fns) (ρ : Nat → Int) : Fact → Prop
  | .bin n op k a b => binZ op k (a.den ρ) (b.den ρ) = some (ρ n)
  | .cmp n op a b => cmpZ op (a.den ρ) (b.den ρ) = some (decide (ρ n ≠ 0))
  | .not n a => decide (ρ n ≠ 0) = !decide (a.den ρ ≠ 0)
  | .conv n k a => ρ n = k.wrap (a.den ρ)
  | .eqs n l => decide (ρ n ≠ 0) = l.all fun p => decide (p.1.den ρ = p.2.den ρ)
  | .call n j args m => ∀ i, i < m → ρ (n + i) = (fns.g j (args.map fun l => l.map (Ref.den ρ))).getD i 0
  | .cond r b => decide (ρ r ≠ 0) = b
  | .need j args => fns.pre j (args.map fun l => l.map (Ref.den ρ))
  | .idx i len => 0 ≤ ρ i ∧ ρ i < len
  | .sel n l i => ρ n = (l.map (Ref.den ρ)).getD (ρ i).toNat 0
  | .upd n l i x => ∀ j, j < l.length → ρ (n + j) = if j = (ρ i).toNat then x.den ρ else (l.map (Ref.den ρ)).getD j 0
  | .shv n left k a i => ρ n = shvZ left k (a.den ρ) (ρ i)
  | .beq n neg a b => decide (ρ n ≠ 0) = ((decide (a.den ρ ≠ 0) == decide (b.den ρ ≠ 0)) != neg)
  | .prim n p l => ρ n = primZ p (l.map (Ref.den ρ))
  | .must p l => mustP p (l.map (Ref.den ρ))

theorem inR_binZ {op : BinOp} {k : IntKind} {x y z : Int} (hx : InR k x) (h : binZ op k x y = some z) : InR k z := by
  unfold binZ at h
  split at h <;> (try cases h) <;> (try (rw [wrapB_eq])) <;> (try exact inR_wrap _ _)
  · split at h
    · cases h
    · cases h; rw [wrapB_eq]; exact inR_wrap _ _
  · split at h
    · cases h
    · cases h
      obtain ⟨h1, h2⟩ := hx
      by_cases h0 : 0 ≤ x
      · have e1 : 0 ≤ x.tmod y := Int.tmod_nonneg _ h0
        have e2 : x.tmod y ≤ x := by have h := Int.natAbs_tmod x y; have := Nat.mod_le x.natAbs y.natAbs; omega
        constructor
        · have : lo k ≤ 0 := by cases k <;> simp [lo]
          omega
        · omega
      · have e1 : x.tmod y ≤ 0 := by
          have := Int.tmod_nonneg y (show 0 ≤ -x by omega)
          rw [Int.neg_tmod] at this; omega
        have e2 : x ≤ x.tmod y := by have h := Int.natAbs_tmod x y; have := Nat.mod_le x.natAbs y.natAbs; omega
        constructor
        · omega
        · have : 0 ≤ hi k := by cases k <;> simp [hi]
          omega
  · split at h
    · cases h
    · cases h; rw [wrapB_eq]; exact inR_wrap _ _
  · split at h
    · cases h
    · cases h
      obtain ⟨h1, h2⟩ := hx
      have hp : (0 : Int) < 2 ^ (min y.toNat k.bits) := Int.pow_pos (by omega)
      generalize (2 : Int) ^ (min y.toNat k.bits) = p at hp
      rw [Int.fdiv_eq_ediv_of_nonneg _ (by omega)]
      by_cases h0 : 0 ≤ x
      · have e1 : 0 ≤ x / p := Int.ediv_nonneg h0 (by omega)
        have e2 : x / p ≤ x := Int.ediv_le_self _ h0
        constructor
        · have : lo k ≤ 0 := by cases k <;> simp [lo]
          omega
        · omega
      · have e1 : x / p < 0 := Int.ediv_neg_of_neg_of_pos (by omega) hp
        have e2 : x ≤ x / p := by
          rw [Int.le_ediv_iff_mul_le hp]
          have : x * p ≤ x * 1 := Int.mul_le_mul_of_nonpos_left (by omega) (by omega)
          omega
        constructor
        · omega
        · have : 0 ≤ hi k := by cases k <;> simp [hi]
          omega
theorem run_binZ {P : Program} {op : BinOp} {k k' : IntKind} {x y z : Int} (t : TypeId) (hk : k' = k ∨ op = .shl ∨ op = .shr) (h : binZ op k x y = some z) (w : World) : (binOp op t (.int k x) (.int k' y)).run P w = .ok (.int k z) w := by
  unfold binZ at h
  split at h
  · cases h; rw [wrapB_eq]; rcases hk with rfl | h | h <;> first | cases h | simp [binOp, Op.intArith]
  · cases h; rw [wrapB_eq]; rcases hk with rfl | h | h <;> first | cases h | simp [binOp, Op.intArith]
  · cases h; rw [wrapB_eq]; rcases hk with rfl | h | h <;> first | cases h | simp [binOp, Op.intArith]
  · split at h
    · cases h
    · rename_i hy; cases h; rw [wrapB_eq]; rcases hk with rfl | h | h <;> first | cases h | simp [binOp, Op.intDiv, hy]
  · split at h
    · cases h
    · rename_i hy; cases h; rcases hk with rfl | h | h <;> first | cases h | simp [binOp, Op.intDiv, hy]
  · cases h; rcases hk with rfl | h | h <;> first | cases h | simp [binOp, Op.intBits]
  · cases h; rcases hk with rfl | h | h <;> first | cases h | simp [binOp, Op.intBits]
  · cases h; rcases hk with rfl | h | h <;> first | cases h | simp [binOp, Op.intBits]
  · cases h; rcases hk with rfl | h | h <;> first | cases h | simp [binOp, Op.intBits]
  · split at h
    · cases h
    · rename_i hy; cases h; rw [wrapB_eq]; simp [binOp, Op.shift, hy]
  · split at h
    · cases h
    · rename_i hy; cases h; simp [binOp, Op.shift, hy]
  · cases h
theorem run_cmpZ {P : Program} {op : BinOp} {k : IntKind} {x y : Int} {z : Bool} (t : TypeId) (h : cmpZ op x y = some z) (w : World) : (binOp op t (.int k x) (.int k y)).run P w = .ok (.bool z) w := by
  unfold cmpZ at h
  split at h <;> cases h <;> simp [binOp, Op.intCmp]
  · rw [Bool.eq_iff_iff]; simp
  · rw [Bool.eq_iff_iff]; simp
/-- No test of two nil values: not of an array, a struct. -/
theorem run_guard {P : Program} (op : BinOp) (t : TypeId) (x y : Operand) (u v : Value) (h1 : ∀ c, u ≠ .agg c) (h2 : u ≠ .nilIface) (w : World) : (eqGuard op t x y u v).run P w = .ok () w := by
  unfold eqGuard
  cases op <;> simp
  all_goals
    cases u <;> simp_all
end Go.Sx
