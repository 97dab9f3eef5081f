/- A way through a function as one closed check; its facts as a row of propositions. No condition. -/
import Derived.Test.YtbhflfdlkiihgaaSx14
namespace Go.Sx
open Go Go.RowKit Go.Bx

def refsEqb : List Ref → List Ref → Bool
  | [], [] => true
  | a :: l, b :: m => Ref.eqb a b && refsEqb l m
  | _, _ => false
theorem refsEqb_eq : ∀ {l m : List Ref}, refsEqb l m = true → l = m
  | [], [], _ => rfl
  | a :: l, b :: m, h => by
    simp only [refsEqb, Bool.and_eq_true] at h
    rw [Ref.eqb_eq h.1, refsEqb_eq h.2]
  | [], _ :: _, h => by simp [refsEqb] at h
  | _ :: _, [], h => by simp [refsEqb] at h
def refssEqb : List (List Ref) → List (List Ref) → Bool
  | [], [] => true
  | a :: l, b :: m => refsEqb a b && refssEqb l m
  | _, _ => false
theorem refssEqb_eq : ∀ {l m : List (List Ref)}, refssEqb l m = true → l = m
  | [], [], _ => rfl
  | a :: l, b :: m, h => by
    simp only [refssEqb, Bool.and_eq_true] at h
    rw [refsEqb_eq h.1, refssEqb_eq h.2]
  | [], _ :: _, h => by simp [refssEqb] at h
  | _ :: _, [], h => by simp [refssEqb] at h
def pairsEqb : List (Ref × Ref) → List (Ref × Ref) → Bool
  | [], [] => true
  | a :: l, b :: m => Ref.eqb a.1 b.1 && Ref.eqb a.2 b.2 && pairsEqb l m
  | _, _ => false
theorem pairsEqb_eq : ∀ {l m : List (Ref × Ref)}, pairsEqb l m = true → l = m
  | [], [], _ => rfl
  | a :: l, b :: m, h => by
    simp only [pairsEqb, Bool.and_eq_true] at h
    obtain ⟨a1, a2⟩ := a; obtain ⟨b1, b2⟩ := b
    have h1 := Ref.eqb_eq h.1.1
    have h2 := Ref.eqb_eq h.1.2
    simp only at h1 h2
    rw [h1, h2, pairsEqb_eq h.2]
  | [], _ :: _, h => by simp [pairsEqb] at h
  | _ :: _, [], h => by simp [pairsEqb] at h
def Fact.eqb : Fact → Fact → Bool
  | .bin n op k a b, .bin n' op' k' a' b' => Nat.beq n n' && decide (op = op') && decide (k = k') && Ref.eqb a a' && Ref.eqb b b'
  | .cmp n op a b, .cmp n' op' a' b' => Nat.beq n n' && decide (op = op') && Ref.eqb a a' && Ref.eqb b b'
  | .not n a, .not n' a' => Nat.beq n n' && Ref.eqb a a'
  | .conv n k a, .conv n' k' a' => Nat.beq n n' && decide (k = k') && Ref.eqb a a'
  | .eqs n l, .eqs n' l' => Nat.beq n n' && pairsEqb l l'
  | .call n j a m, .call n' j' a' m' => Nat.beq n n' && Nat.beq j j' && refssEqb a a' && Nat.beq m m'
  | .cond r b, .cond r' b' => Nat.beq r r' && (b == b')
  | .need j a, .need j' a' => Nat.beq j j' && refssEqb a a'
  | .idx i l, .idx i' l' => Nat.beq i i' && Nat.beq l l'
  | .sel n l i, .sel n' l' i' => Nat.beq n n' && refsEqb l l' && Nat.beq i i'
  | .upd n l i x, .upd n' l' i' x' => Nat.beq n n' && refsEqb l l' && Nat.beq i i' && Ref.eqb x x'
  | .shv n b k a i, .shv n' b' k' a' i' => Nat.beq n n' && (b == b') && decide (k = k') && Ref.eqb a a' && Nat.beq i i'
  | .prim n p l, .prim n' p' l' => Nat.beq n n' && Nat.beq p p' && refsEqb l l'
  | .must p l, .must p' l' => Nat.beq p p' && refsEqb l l'
  | .beq n g a b, .beq n' g' a' b' => Nat.beq n n' && (g == g') && Ref.eqb a a' && Ref.eqb b b'
  | _, _ => false
theorem Fact.eqb_eq {a b : Fact} (h : Fact.eqb a b = true) : a = b := by
  cases a <;> cases b <;> simp only [Fact.eqb, Bool.and_eq_true, decide_eq_true_eq, beq_iff_eq] at h <;> (try (exact absurd h (by decide)))
  · obtain ⟨⟨⟨⟨h1, h2⟩, h3⟩, h4⟩, h5⟩ := h; rw [Nat.eq_of_beq_eq_true h1, h2, h3, Ref.eqb_eq h4, Ref.eqb_eq h5]
  · obtain ⟨⟨⟨h1, h2⟩, h3⟩, h4⟩ := h; rw [Nat.eq_of_beq_eq_true h1, h2, Ref.eqb_eq h3, Ref.eqb_eq h4]
  · obtain ⟨h1, h2⟩ := h; rw [Nat.eq_of_beq_eq_true h1, Ref.eqb_eq h2]
  · obtain ⟨⟨h1, h2⟩, h3⟩ := h; rw [Nat.eq_of_beq_eq_true h1, h2, Ref.eqb_eq h3]
  · obtain ⟨h1, h2⟩ := h; rw [Nat.eq_of_beq_eq_true h1, pairsEqb_eq h2]
  · obtain ⟨⟨⟨h1, h2⟩, h3⟩, h4⟩ := h; rw [Nat.eq_of_beq_eq_true h1, Nat.eq_of_beq_eq_true h2, refssEqb_eq h3, Nat.eq_of_beq_eq_true h4]
  · obtain ⟨h1, h2⟩ := h; rw [Nat.eq_of_beq_eq_true h1, h2]
  · obtain ⟨h1, h2⟩ := h; rw [Nat.eq_of_beq_eq_true h1, refssEqb_eq h2]
  · obtain ⟨h1, h2⟩ := h; rw [Nat.eq_of_beq_eq_true h1, Nat.eq_of_beq_eq_true h2]
  · obtain ⟨⟨h1, h2⟩, h3⟩ := h; rw [Nat.eq_of_beq_eq_true h1, refsEqb_eq h2, Nat.eq_of_beq_eq_true h3]
  · obtain ⟨⟨⟨h1, h2⟩, h3⟩, h4⟩ := h; rw [Nat.eq_of_beq_eq_true h1, refsEqb_eq h2, Nat.eq_of_beq_eq_true h3, Ref.eqb_eq h4]
  · obtain ⟨⟨⟨⟨h1, h2⟩, h3⟩, h4⟩, h5⟩ := h; rw [Nat.eq_of_beq_eq_true h1, h2, h3, Ref.eqb_eq h4, Nat.eq_of_beq_eq_true h5]
  · obtain ⟨⟨⟨h1, h2⟩, h3⟩, h4⟩ := h; rw [Nat.eq_of_beq_eq_true h1, h2, Ref.eqb_eq h3, Ref.eqb_eq h4]
  · obtain ⟨⟨h1, h2⟩, h3⟩ := h; rw [Nat.eq_of_beq_eq_true h1, Nat.eq_of_beq_eq_true h2, refsEqb_eq h3]
  · obtain ⟨h1, h2⟩ := h; rw [Nat.eq_of_beq_eq_true h1, refsEqb_eq h2]
def factsEqb : List Fact → List Fact → Bool
  | [], [] => true
  | a :: l, b :: m => Fact.eqb a b && factsEqb l m
  | _, _ => false
theorem factsEqb_eq : ∀ {l m : List Fact}, factsEqb l m = true → l = m
  | [], [], _ => rfl
  | a :: l, b :: m, h => by
    simp only [factsEqb, Bool.and_eq_true] at h
    rw [Fact.eqb_eq h.1, factsEqb_eq h.2]
  | [], _ :: _, h => by simp [factsEqb] at h
  | _ :: _, [], h => by simp [factsEqb] at h
/-- A way: the facts along it, and what is answered. -/
def wayB (P : Program) (T : List Ctr) (lf d : Nat) (c : Ctr) (dec : List Bool) (fs : List Fact) (refs : List Ref) : Bool :=
  match inlineX P (callN P T lf d) lf c.f (argsS 0 0 c.ps) (startS c.ps dec) with
  | some (s, fs', st') => factsEqb fs' fs && wfF (total c.ps) fs && sameM (argsM 0 c.ps) st'.mem && (match resRefsM (argsM 0 c.ps).length st'.mem c.rs s with | some r => refsEqb r refs | none => false)
  | none => false
/-- What a fact tells. -/
def Fact.tells (fns : Fns) (ρ : Nat → Int) (f : Fact) : Prop :=
  match f with
  | .cmp n .. => f.ok fns ρ ∧ (ρ n = 0 ∨ ρ n = 1)
  | .not n .. => f.ok fns ρ ∧ (ρ n = 0 ∨ ρ n = 1)
  | .eqs n .. => f.ok fns ρ ∧ (ρ n = 0 ∨ ρ n = 1)
  | .beq n .. => f.ok fns ρ ∧ (ρ n = 0 ∨ ρ n = 1)
  | f => f.ok fns ρ
theorem Fact.tells_of {fns : Fns} {ρ : Nat → Int} {f : Fact} (h : f.ok fns ρ) (hs : f.sharp ρ) : f.tells fns ρ := by
  cases f <;> first | exact ⟨h, hs⟩ | exact h
/-- What is known along it; what is to be shown. -/
def Defs (fns : Fns) (ρ : Nat → Int) : List Fact → Prop
  | [] => True
  | f :: l => if f.isDef then f.tells fns ρ ∧ Defs fns ρ l else Defs fns ρ l
def Todo (fns : Fns) (ρ : Nat → Int) : List Fact → Prop
  | [] => True
  | f :: l => if f.isDef then Todo fns ρ l else f.ok fns ρ ∧ Todo fns ρ l
theorem defs_of {fns : Fns} {ρ : Nat → Int} : ∀ {l : List Fact}, (∀ f ∈ l, f.isDef = true → f.ok fns ρ) → (∀ f ∈ l, f.sharp ρ) → Defs fns ρ l
  | [], _, _ => trivial
  | f :: l, h, hs => by
    have ih := defs_of (l := l) (fun g hg => h g (by simp [hg])) (fun g hg => hs g (by simp [hg]))
    unfold Defs
    split
    · rename_i hd; exact ⟨Fact.tells_of (h f (by simp) hd) (hs f (by simp)), ih⟩
    · exact ih
theorem of_todo {fns : Fns} {ρ : Nat → Int} : ∀ {l : List Fact}, Todo fns ρ l → ∀ f ∈ l, f.isDef = false → f.ok fns ρ
  | [], _, f, hf, _ => by cases hf
  | g :: l, h, f, hf, hd => by
    unfold Todo at h
    split at h
    · rename_i hg
      rcases List.mem_cons.1 hf with rfl | hf
      · rw [hd] at hg; cases hg
      · exact of_todo h f hf hd
    · rcases List.mem_cons.1 hf with rfl | hf
      · exact h.1
      · exact of_todo h.2 f hf hd
theorem Way.of {P : Program} {fns : Fns} {T : List Ctr} {lf d : Nat} {c : Ctr} {xs : List (List Int)} {out : List Int} {dec : List Bool} {fs : List Fact} {refs : List Ref} (h : wayB P T lf d c dec fs refs = true)
    (hρ : ∀ ρ, (∀ i, i < total c.ps → ρ i = flat xs i) → Defs fns ρ fs → Todo fns ρ fs ∧ refs.map (Ref.den ρ) = out) : Way P fns T lf d c xs out := by
  unfold wayB at h
  split at h
  · rename_i s fs' st' hrun
    simp only [Bool.and_eq_true] at h
    obtain ⟨⟨⟨h1, h2⟩, h3⟩, h4⟩ := h
    have := factsEqb_eq h1
    subst this
    split at h4
    · rename_i r hr
      have := refsEqb_eq h4
      subst this
      exact ⟨dec, s, fs', st', r, hrun, h2, hr, h3, fun ρ h1 h2 h3 => ⟨of_todo (hρ ρ h1 (defs_of h2 h3)).1, (hρ ρ h1 (defs_of h2 h3)).2⟩⟩
    · cases h4
  · cases h
end Go.Sx
