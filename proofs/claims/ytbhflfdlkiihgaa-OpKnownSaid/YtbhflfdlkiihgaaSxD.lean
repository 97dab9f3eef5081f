/- The facts of a reckoning, one law for each kind. No condition. -/
import Derived.Test.YtbhflfdlkiihgaaSxU
namespace Go.Sx
open Go Go.RowKit Go.Bx
section
variable {fns : Fns} {ρ : Nat → Int} {l : List Fact}
theorem D_nil : Defs fns ρ [] = True := rfl
theorem D_add {n : Nat} {a b : Ref} : Defs fns ρ (.bin n .add .u64 a b :: l) = (ρ n = (a.den ρ + b.den ρ) % 18446744073709551616 ∧ Defs fns ρ l) :=
  propext ⟨fun h => ⟨u_add h.1, h.2⟩, fun h => ⟨by show binZ .add .u64 _ _ = some (ρ n); simp only [binZ, wrapB_eq, IntKind.wrap_u64, h.1], h.2⟩⟩
theorem D_sub {n : Nat} {a b : Ref} : Defs fns ρ (.bin n .sub .u64 a b :: l) = (ρ n = (a.den ρ - b.den ρ) % 18446744073709551616 ∧ Defs fns ρ l) :=
  propext ⟨fun h => ⟨u_sub h.1, h.2⟩, fun h => ⟨by show binZ .sub .u64 _ _ = some (ρ n); simp only [binZ, wrapB_eq, IntKind.wrap_u64, h.1], h.2⟩⟩
theorem D_mul {n : Nat} {a b : Ref} : Defs fns ρ (.bin n .mul .u64 a b :: l) = (ρ n = (a.den ρ * b.den ρ) % 18446744073709551616 ∧ Defs fns ρ l) :=
  propext ⟨fun h => ⟨u_mul h.1, h.2⟩, fun h => ⟨by show binZ .mul .u64 _ _ = some (ρ n); simp only [binZ, wrapB_eq, IntKind.wrap_u64, h.1], h.2⟩⟩
theorem D_and {n : Nat} {k : IntKind} {a b : Ref} : Defs fns ρ (.bin n .and k a b :: l) = (binZ .and k (a.den ρ) (b.den ρ) = some (ρ n) ∧ Defs fns ρ l) := rfl
theorem D_or {n : Nat} {k : IntKind} {a b : Ref} : Defs fns ρ (.bin n .or k a b :: l) = (binZ .or k (a.den ρ) (b.den ρ) = some (ρ n) ∧ Defs fns ρ l) := rfl
theorem D_xor {n : Nat} {k : IntKind} {a b : Ref} : Defs fns ρ (.bin n .xor k a b :: l) = (binZ .xor k (a.den ρ) (b.den ρ) = some (ρ n) ∧ Defs fns ρ l) := rfl
theorem D_shl {n : Nat} {k : IntKind} {a b : Ref} : Defs fns ρ (.bin n .shl k a b :: l) = (binZ .shl k (a.den ρ) (b.den ρ) = some (ρ n) ∧ Defs fns ρ l) := rfl
theorem D_shr {n : Nat} {k : IntKind} {a b : Ref} : Defs fns ρ (.bin n .shr k a b :: l) = (binZ .shr k (a.den ρ) (b.den ρ) = some (ρ n) ∧ Defs fns ρ l) := rfl
theorem D_andNot {n : Nat} {k : IntKind} {a b : Ref} : Defs fns ρ (.bin n .andNot k a b :: l) = (binZ .andNot k (a.den ρ) (b.den ρ) = some (ρ n) ∧ Defs fns ρ l) := rfl
theorem D_quo {n : Nat} {k : IntKind} {a b : Ref} : Defs fns ρ (.bin n .quo k a b :: l) = (binZ .quo k (a.den ρ) (b.den ρ) = some (ρ n) ∧ Defs fns ρ l) := rfl
theorem D_rem {n : Nat} {k : IntKind} {a b : Ref} : Defs fns ρ (.bin n .rem k a b :: l) = (binZ .rem k (a.den ρ) (b.den ρ) = some (ρ n) ∧ Defs fns ρ l) := rfl
theorem D_add_i64 {n : Nat} {a b : Ref} : Defs fns ρ (.bin n .add .i64 a b :: l) = (ρ n = IntKind.i64.wrap (a.den ρ + b.den ρ) ∧ Defs fns ρ l) :=
  propext ⟨fun h => ⟨by have h1 : binZ .add .i64 _ _ = some (ρ n) := h.1; simp only [binZ, wrapB_eq, Option.some.injEq] at h1; exact h1.symm, h.2⟩, fun h => ⟨by show binZ .add .i64 _ _ = some (ρ n); simp only [binZ, wrapB_eq, h.1], h.2⟩⟩
theorem D_sub_i64 {n : Nat} {a b : Ref} : Defs fns ρ (.bin n .sub .i64 a b :: l) = (ρ n = IntKind.i64.wrap (a.den ρ - b.den ρ) ∧ Defs fns ρ l) :=
  propext ⟨fun h => ⟨by have h1 : binZ .sub .i64 _ _ = some (ρ n) := h.1; simp only [binZ, wrapB_eq, Option.some.injEq] at h1; exact h1.symm, h.2⟩, fun h => ⟨by show binZ .sub .i64 _ _ = some (ρ n); simp only [binZ, wrapB_eq, h.1], h.2⟩⟩
theorem D_mul_i64 {n : Nat} {a b : Ref} : Defs fns ρ (.bin n .mul .i64 a b :: l) = (ρ n = IntKind.i64.wrap (a.den ρ * b.den ρ) ∧ Defs fns ρ l) :=
  propext ⟨fun h => ⟨by have h1 : binZ .mul .i64 _ _ = some (ρ n) := h.1; simp only [binZ, wrapB_eq, Option.some.injEq] at h1; exact h1.symm, h.2⟩, fun h => ⟨by show binZ .mul .i64 _ _ = some (ρ n); simp only [binZ, wrapB_eq, h.1], h.2⟩⟩
theorem D_add_u32 {n : Nat} {a b : Ref} : Defs fns ρ (.bin n .add .u32 a b :: l) = (ρ n = IntKind.u32.wrap (a.den ρ + b.den ρ) ∧ Defs fns ρ l) :=
  propext ⟨fun h => ⟨by have h1 : binZ .add .u32 _ _ = some (ρ n) := h.1; simp only [binZ, wrapB_eq, Option.some.injEq] at h1; exact h1.symm, h.2⟩, fun h => ⟨by show binZ .add .u32 _ _ = some (ρ n); simp only [binZ, wrapB_eq, h.1], h.2⟩⟩
theorem D_sub_u32 {n : Nat} {a b : Ref} : Defs fns ρ (.bin n .sub .u32 a b :: l) = (ρ n = IntKind.u32.wrap (a.den ρ - b.den ρ) ∧ Defs fns ρ l) :=
  propext ⟨fun h => ⟨by have h1 : binZ .sub .u32 _ _ = some (ρ n) := h.1; simp only [binZ, wrapB_eq, Option.some.injEq] at h1; exact h1.symm, h.2⟩, fun h => ⟨by show binZ .sub .u32 _ _ = some (ρ n); simp only [binZ, wrapB_eq, h.1], h.2⟩⟩
theorem D_mul_u32 {n : Nat} {a b : Ref} : Defs fns ρ (.bin n .mul .u32 a b :: l) = (ρ n = IntKind.u32.wrap (a.den ρ * b.den ρ) ∧ Defs fns ρ l) :=
  propext ⟨fun h => ⟨by have h1 : binZ .mul .u32 _ _ = some (ρ n) := h.1; simp only [binZ, wrapB_eq, Option.some.injEq] at h1; exact h1.symm, h.2⟩, fun h => ⟨by show binZ .mul .u32 _ _ = some (ρ n); simp only [binZ, wrapB_eq, h.1], h.2⟩⟩
theorem D_add_u8 {n : Nat} {a b : Ref} : Defs fns ρ (.bin n .add .u8 a b :: l) = (ρ n = IntKind.u8.wrap (a.den ρ + b.den ρ) ∧ Defs fns ρ l) :=
  propext ⟨fun h => ⟨by have h1 : binZ .add .u8 _ _ = some (ρ n) := h.1; simp only [binZ, wrapB_eq, Option.some.injEq] at h1; exact h1.symm, h.2⟩, fun h => ⟨by show binZ .add .u8 _ _ = some (ρ n); simp only [binZ, wrapB_eq, h.1], h.2⟩⟩
theorem D_sub_u8 {n : Nat} {a b : Ref} : Defs fns ρ (.bin n .sub .u8 a b :: l) = (ρ n = IntKind.u8.wrap (a.den ρ - b.den ρ) ∧ Defs fns ρ l) :=
  propext ⟨fun h => ⟨by have h1 : binZ .sub .u8 _ _ = some (ρ n) := h.1; simp only [binZ, wrapB_eq, Option.some.injEq] at h1; exact h1.symm, h.2⟩, fun h => ⟨by show binZ .sub .u8 _ _ = some (ρ n); simp only [binZ, wrapB_eq, h.1], h.2⟩⟩
theorem D_mul_u8 {n : Nat} {a b : Ref} : Defs fns ρ (.bin n .mul .u8 a b :: l) = (ρ n = IntKind.u8.wrap (a.den ρ * b.den ρ) ∧ Defs fns ρ l) :=
  propext ⟨fun h => ⟨by have h1 : binZ .mul .u8 _ _ = some (ρ n) := h.1; simp only [binZ, wrapB_eq, Option.some.injEq] at h1; exact h1.symm, h.2⟩, fun h => ⟨by show binZ .mul .u8 _ _ = some (ρ n); simp only [binZ, wrapB_eq, h.1], h.2⟩⟩
theorem bit_iff {b : Bool} {x : Int} : (some b = some (decide (x ≠ 0)) ∧ (x = 0 ∨ x = 1)) = (x = b2i b) := by
  cases b <;> simp only [b2i, Option.some.injEq, if_true, if_false, Bool.false_eq_true] <;> apply propext <;> constructor
  · rintro ⟨h, rfl | rfl⟩
    · rfl
    · cases h
  · rintro rfl; exact ⟨rfl, .inl rfl⟩
  · rintro ⟨h, rfl | rfl⟩
    · cases h
    · rfl
  · rintro rfl; exact ⟨rfl, .inr rfl⟩
theorem bit_iff' {b : Bool} {x : Int} : (decide (x ≠ 0) = b ∧ (x = 0 ∨ x = 1)) = (x = b2i b) := by
  rw [← bit_iff]; simp only [Option.some.injEq, eq_comm]
theorem D_eql {n : Nat} {a b : Ref} : Defs fns ρ (.cmp n .eql a b :: l) = (ρ n = b2i (decide (a.den ρ = b.den ρ)) ∧ Defs fns ρ l) := by
  show ((some (decide (a.den ρ = b.den ρ)) = some (decide (ρ n ≠ 0)) ∧ (ρ n = 0 ∨ ρ n = 1)) ∧ Defs fns ρ l) = _
  rw [bit_iff]
theorem D_neq {n : Nat} {a b : Ref} : Defs fns ρ (.cmp n .neq a b :: l) = (ρ n = b2i (decide (a.den ρ ≠ b.den ρ)) ∧ Defs fns ρ l) := by
  show ((some (decide (a.den ρ ≠ b.den ρ)) = some (decide (ρ n ≠ 0)) ∧ (ρ n = 0 ∨ ρ n = 1)) ∧ Defs fns ρ l) = _
  rw [bit_iff]
theorem D_lss {n : Nat} {a b : Ref} : Defs fns ρ (.cmp n .lss a b :: l) = (ρ n = b2i (decide (a.den ρ < b.den ρ)) ∧ Defs fns ρ l) := by
  show ((some (decide (a.den ρ < b.den ρ)) = some (decide (ρ n ≠ 0)) ∧ (ρ n = 0 ∨ ρ n = 1)) ∧ Defs fns ρ l) = _
  rw [bit_iff]
theorem D_leq {n : Nat} {a b : Ref} : Defs fns ρ (.cmp n .leq a b :: l) = (ρ n = b2i (decide (a.den ρ ≤ b.den ρ)) ∧ Defs fns ρ l) := by
  show ((some (decide (a.den ρ ≤ b.den ρ)) = some (decide (ρ n ≠ 0)) ∧ (ρ n = 0 ∨ ρ n = 1)) ∧ Defs fns ρ l) = _
  rw [bit_iff]
theorem D_gtr {n : Nat} {a b : Ref} : Defs fns ρ (.cmp n .gtr a b :: l) = (ρ n = b2i (decide (b.den ρ < a.den ρ)) ∧ Defs fns ρ l) := by
  show ((some (decide (b.den ρ < a.den ρ)) = some (decide (ρ n ≠ 0)) ∧ (ρ n = 0 ∨ ρ n = 1)) ∧ Defs fns ρ l) = _
  rw [bit_iff]
theorem D_geq {n : Nat} {a b : Ref} : Defs fns ρ (.cmp n .geq a b :: l) = (ρ n = b2i (decide (b.den ρ ≤ a.den ρ)) ∧ Defs fns ρ l) := by
  show ((some (decide (b.den ρ ≤ a.den ρ)) = some (decide (ρ n ≠ 0)) ∧ (ρ n = 0 ∨ ρ n = 1)) ∧ Defs fns ρ l) = _
  rw [bit_iff]
theorem D_not {n : Nat} {a : Ref} : Defs fns ρ (.not n a :: l) = (ρ n = b2i (!decide (a.den ρ ≠ 0)) ∧ Defs fns ρ l) := by
  show ((decide (ρ n ≠ 0) = (!decide (a.den ρ ≠ 0)) ∧ (ρ n = 0 ∨ ρ n = 1)) ∧ Defs fns ρ l) = _
  rw [bit_iff']
theorem D_eqs {n : Nat} {q : List (Ref × Ref)} : Defs fns ρ (.eqs n q :: l) = (ρ n = b2i (q.all fun p => decide (p.1.den ρ = p.2.den ρ)) ∧ Defs fns ρ l) := by
  show ((decide (ρ n ≠ 0) = (q.all fun p => decide (p.1.den ρ = p.2.den ρ)) ∧ (ρ n = 0 ∨ ρ n = 1)) ∧ Defs fns ρ l) = _
  rw [bit_iff']
theorem D_conv {n : Nat} {k : IntKind} {a : Ref} : Defs fns ρ (.conv n k a :: l) = (ρ n = k.wrap (a.den ρ) ∧ Defs fns ρ l) := rfl
theorem D_call {n j : Nat} {q : List (List Ref)} {m : Nat} : Defs fns ρ (.call n j q m :: l) = ((∀ i, i < m → ρ (n + i) = (fns.g j (q.map fun l => l.map (Ref.den ρ))).getD i 0) ∧ Defs fns ρ l) := rfl
theorem D_cond {r : Nat} {b : Bool} : Defs fns ρ (.cond r b :: l) = Defs fns ρ l := rfl
theorem D_need {j : Nat} {q : List (List Ref)} : Defs fns ρ (.need j q :: l) = Defs fns ρ l := rfl
theorem D_idx {i len : Nat} : Defs fns ρ (.idx i len :: l) = Defs fns ρ l := rfl
theorem D_sel {n : Nat} {q : List Ref} {i : Nat} : Defs fns ρ (.sel n q i :: l) = (ρ n = (q.map (Ref.den ρ)).getD (ρ i).toNat 0 ∧ Defs fns ρ l) := rfl
theorem D_upd {n : Nat} {q : List Ref} {i : Nat} {x : Ref} : Defs fns ρ (.upd n q i x :: l) = ((∀ j, j < q.length → ρ (n + j) = if j = (ρ i).toNat then x.den ρ else (q.map (Ref.den ρ)).getD j 0) ∧ Defs fns ρ l) := rfl
theorem D_shv {n : Nat} {b : Bool} {k : IntKind} {a : Ref} {i : Nat} : Defs fns ρ (.shv n b k a i :: l) = (ρ n = shvZ b k (a.den ρ) (ρ i) ∧ Defs fns ρ l) := rfl
theorem G_shv {n : Nat} {b : Bool} {k : IntKind} {a : Ref} {i : Nat} : Todo fns ρ (.shv n b k a i :: l) = Todo fns ρ l := rfl
theorem D_beq {n : Nat} {g : Bool} {a b : Ref} : Defs fns ρ (.beq n g a b :: l) = (ρ n = b2i ((decide (a.den ρ ≠ 0) == decide (b.den ρ ≠ 0)) != g) ∧ Defs fns ρ l) := by
  show ((decide (ρ n ≠ 0) = ((decide (a.den ρ ≠ 0) == decide (b.den ρ ≠ 0)) != g) ∧ (ρ n = 0 ∨ ρ n = 1)) ∧ Defs fns ρ l) = _
  rw [bit_iff']
theorem G_beq {n : Nat} {g : Bool} {a b : Ref} : Todo fns ρ (.beq n g a b :: l) = Todo fns ρ l := rfl
theorem eqs_lists {ρ : Nat → Int} : ∀ {q : List (Ref × Ref)}, (q.all fun p => decide (p.1.den ρ = p.2.den ρ)) = decide (q.map (fun p => p.1.den ρ) = q.map fun p => p.2.den ρ)
  | [] => rfl
  | p :: q => by
    rw [List.all_cons, eqs_lists (q := q), List.map_cons, List.map_cons, Bool.eq_iff_iff]
    simp only [Bool.and_eq_true, decide_eq_true_eq, List.cons.injEq]
theorem bit_true {x : Int} {b : Bool} (h : x = b2i b) (hb : b = true) : decide (x ≠ 0) = true := by subst h; subst hb; rfl
theorem bit_false {x : Int} {b : Bool} (h : x = b2i b) (hb : b = false) : decide (x ≠ 0) = false := by subst h; subst hb; rfl
theorem not_bit {x : Int} {y : Int} (h : x = b2i !decide (y ≠ 0)) (hy : y = 1) : decide (x ≠ 0) = false := by subst h; subst hy; rfl
theorem G_nil : Todo fns ρ [] = True := rfl
theorem G_bin {n : Nat} {op : BinOp} {k : IntKind} {a b : Ref} : Todo fns ρ (.bin n op k a b :: l) = Todo fns ρ l := rfl
theorem G_cmp {n : Nat} {op : BinOp} {a b : Ref} : Todo fns ρ (.cmp n op a b :: l) = Todo fns ρ l := rfl
theorem G_not {n : Nat} {a : Ref} : Todo fns ρ (.not n a :: l) = Todo fns ρ l := rfl
theorem G_conv {n : Nat} {k : IntKind} {a : Ref} : Todo fns ρ (.conv n k a :: l) = Todo fns ρ l := rfl
theorem G_eqs {n : Nat} {q : List (Ref × Ref)} : Todo fns ρ (.eqs n q :: l) = Todo fns ρ l := rfl
theorem G_call {n j : Nat} {q : List (List Ref)} {m : Nat} : Todo fns ρ (.call n j q m :: l) = Todo fns ρ l := rfl
theorem G_cond {r : Nat} {b : Bool} : Todo fns ρ (.cond r b :: l) = (decide (ρ r ≠ 0) = b ∧ Todo fns ρ l) := rfl
theorem G_need {j : Nat} {q : List (List Ref)} : Todo fns ρ (.need j q :: l) = (fns.pre j (q.map fun l => l.map (Ref.den ρ)) ∧ Todo fns ρ l) := rfl
theorem G_idx {i len : Nat} : Todo fns ρ (.idx i len :: l) = ((0 ≤ ρ i ∧ ρ i < len) ∧ Todo fns ρ l) := rfl
theorem G_sel {n : Nat} {q : List Ref} {i : Nat} : Todo fns ρ (.sel n q i :: l) = Todo fns ρ l := rfl
theorem G_upd {n : Nat} {q : List Ref} {i : Nat} {x : Ref} : Todo fns ρ (.upd n q i x :: l) = Todo fns ρ l := rfl
theorem D_len {n : Nat} {a : Ref} : Defs fns ρ (.prim n 0 [a] :: l) = (ρ n = ((decZ (a.den ρ)).length : Int) ∧ Defs fns ρ l) := rfl
theorem D_byte {n : Nat} {a b : Ref} : Defs fns ρ (.prim n 1 [a, b] :: l) = (ρ n = (((decZ (a.den ρ)).getD (b.den ρ).toNat 0).toNat : Int) ∧ Defs fns ρ l) := rfl
theorem D_cut {n : Nat} {a b c : Ref} : Defs fns ρ (.prim n 2 [a, b, c] :: l) = (ρ n = codZ (((decZ (a.den ρ)).drop (b.den ρ).toNat).take ((c.den ρ).toNat - (b.den ρ).toNat)) ∧ Defs fns ρ l) := rfl
theorem D_cat {n : Nat} {a b : Ref} : Defs fns ρ (.prim n 3 [a, b] :: l) = (ρ n = codZ (decZ (a.den ρ) ++ decZ (b.den ρ)) ∧ Defs fns ρ l) := rfl
theorem D_must {p : Nat} {q : List Ref} : Defs fns ρ (.must p q :: l) = Defs fns ρ l := rfl
theorem G_prim {n p : Nat} {q : List Ref} : Todo fns ρ (.prim n p q :: l) = Todo fns ρ l := rfl
theorem G_byte {a b : Ref} : Todo fns ρ (.must 0 [a, b] :: l) = ((0 ≤ b.den ρ ∧ b.den ρ < ((decZ (a.den ρ)).length : Int)) ∧ Todo fns ρ l) := rfl
theorem G_cut {a b c : Ref} : Todo fns ρ (.must 1 [a, b, c] :: l) = ((0 ≤ b.den ρ ∧ b.den ρ ≤ c.den ρ ∧ c.den ρ ≤ ((decZ (a.den ρ)).length : Int)) ∧ Todo fns ρ l) := rfl
theorem G_cat {a b : Ref} : Todo fns ρ (.must 2 [a, b] :: l) = ((decZ (a.den ρ)).length + (decZ (b.den ρ)).length ≤ 1000000000 ∧ Todo fns ρ l) := rfl
end
end Go.Sx
