/- A function reckoned over names: what it answers; the integers that the reckoning names. No condition. -/
import Derived.Test.YtbhflfdlkiihgaaSx11
namespace Go.Sx
open Go Go.RowKit Go.Bx

/-- A call with arguments of integers: its end. -/
def startX (n : Nat) (dec : List Bool) : St := ⟨[], n, [], dec⟩
def argsOf (n : Nat) (ps : List Sh) : List SV := (svs n ps).map ofSum
theorem argsOf_rel {E : Env} {ps : List Sh} {n : Nat} (hg : goods E.ρ n ps) : RelL E (argsOf n ps) (vals E.ρ n ps) := by
  induction ps generalizing n with
  | nil => trivial
  | cons s l ih =>
    obtain ⟨a, b⟩ := sh_sv (E := E) (g := E.ρ) (n := n) (o := n) (s := s) (fun _ _ => rfl) hg.1
    exact ⟨by rw [a]; exact ofSum_rel b, ih hg.2⟩
theorem goes_body {P : Program} {f : FuncId} {fn : Func} {c : Code} {vs : Array Value} {w : World} {R : Value → World → Prop} (hf : P.funcs[f]? = some fn) (hn : (fn.name == "runtime.NumGoroutine") = false) (hc : fn.body = some c) (h : Goes P f vs w R) :
    Calls P f vs w fun e w' => ∃ v, e = .returned v ∧ R v w' := by
  rcases h with ⟨_, _, _, _, _, h⟩ | ⟨v, h, _⟩
  · exact h
  · have hn' : fn.name ≠ "runtime.NumGoroutine" := by simpa using hn
    simp [callFunc, hf, hn', hc, mark] at h
/-- **What a function answers**, by its reckoning. -/
theorem sx_goes {P : Program} {fns : Fns} {T : List Ctr} (hT : ∀ c ∈ T, CtrOK P fns c) (hm : P.follows .mixedOrders = true) {lf d : Nat} {f : FuncId} {ps : List Sh} {n : Nat} {dec : List Bool} {s : SV} {fs : List Fact} {st' : St}
    (h : inlineX P (callN P T lf d) lf f (argsOf 0 ps) (startX n dec) = some (s, fs, st')) {ρ : Nat → Int} (hg : goods ρ 0 ps) (hf : ∀ x ∈ fs, Fact.ok fns ρ x) (w : World) :
    Goes P f (vals ρ 0 ps).toArray w fun v w' => (∃ blk val, s.Rel ⟨ρ, blk, val⟩ v) ∧ Below w.heap.size w w' := by
  obtain ⟨_, r⟩ := inlineX_ok (callN_ok hT hm lf d) hm lf f _ _ _ _ _ h
  have := (r ρ hf (fun _ h => by cases h)).2 ⟨ρ, fun _ => none, fun _ => none⟩ w (vals ρ 0 ps) rfl ⟨fun _ _ => rfl, (fun _ _ _ h => by cases h), (fun _ _ h => by cases h), (fun b B h => by simp [startX] at h), ⟨(fun _ _ _ h => nomatch h), (fun _ _ _ h => nomatch h)⟩, fun _ _ => rfl⟩ (argsOf_rel (E := ⟨ρ, fun _ => none, fun _ => none⟩) hg)
  refine this.mono fun v w' ⟨E', x1, x2, _, x4⟩ => ⟨⟨E'.blk, E'.val, ?_⟩, x4.below (Nat.le_refl _) fun k _ hv => ?_⟩
  · have e : E' = ⟨ρ, E'.blk, E'.val⟩ := by obtain ⟨a, b, c⟩ := E'; have h1 := x1.ρ; simp only at h1; rw [h1]
    rw [e] at x2; exact x2
  · obtain ⟨b, B, hb, _⟩ := hv
    simp [startX] at hb

/-- A fact's own number; those it reads. -/
def Ref.below (n : Nat) : Ref → Bool
  | .v i => Nat.blt i n
  | .l _ => true
def goodOp (op : BinOp) (b : Ref) : Bool :=
  match op with
  | .add => true | .sub => true | .mul => true | .and => true | .or => true | .xor => true | .andNot => true
  | .quo => match b with
    | .l z => !isZ z
    | _ => false
  | .rem => match b with
    | .l z => !isZ z
    | _ => false
  | .shl => match b with
    | .l (.ofNat _) => true
    | _ => false
  | .shr => match b with
    | .l (.ofNat _) => true
    | _ => false
  | _ => false
theorem isZ_ne {z : Int} (h : isZ z = false) : z ≠ 0 := fun e => by rw [e] at h; cases h
theorem goodOp_ok {op : BinOp} {b : Ref} (h : goodOp op b = true) (k : IntKind) (x : Int) (ρ : Nat → Int) : binZ op k x (b.den ρ) ≠ none := by
  unfold goodOp at h
  split at h <;> (try (intro e; cases e)) <;> (try cases h)
  all_goals (split at h <;> (try cases h))
  · rename_i z
    have : isZ z = false := by simpa using h
    simp [binZ, Ref.den, isZ_ne this]
  · rename_i z
    have : isZ z = false := by simpa using h
    simp [binZ, Ref.den, isZ_ne this]
  · rename_i z
    show binZ .shl k x ((z : Nat) : Int) ≠ none
    have hz : ¬ ((z : Nat) : Int) < 0 := by omega
    simp [binZ, hz]
  · rename_i z
    show binZ .shr k x ((z : Nat) : Int) ≠ none
    have hz : ¬ ((z : Nat) : Int) < 0 := by omega
    simp [binZ, hz]
def Fact.next (n : Nat) : Fact → Option Nat
  | .bin m op _ a b => if Nat.beq m n && a.below n && b.below n && goodOp op b then some (n + 1) else none
  | .cmp m op a b => if Nat.beq m n && a.below n && b.below n && isCmp op then some (n + 1) else none
  | .not m a => if Nat.beq m n && a.below n then some (n + 1) else none
  | .conv m _ a => if Nat.beq m n && a.below n then some (n + 1) else none
  | .eqs m l => if Nat.beq m n && l.all (fun p => p.1.below n && p.2.below n) then some (n + 1) else none
  | .call m _ args k => if Nat.beq m n && args.all (fun l => l.all (Ref.below n)) then some (n + k) else none
  | .cond r _ => if Nat.blt r n then some n else none
  | .need _ args => if args.all (fun l => l.all (Ref.below n)) then some n else none
  | .idx i _ => if Nat.blt i n then some n else none
  | .sel m l i => if Nat.beq m n && l.all (Ref.below n) && Nat.blt i n then some (n + 1) else none
  | .upd m l i x => if Nat.beq m n && l.all (Ref.below n) && Nat.blt i n && x.below n then some (n + l.length) else none
  | .shv m _ _ a i => if Nat.beq m n && a.below n && Nat.blt i n then some (n + 1) else none
  | .beq m _ a b => if Nat.beq m n && a.below n && b.below n then some (n + 1) else none
  | .prim m _ l => if Nat.beq m n && l.all (Ref.below n) then some (n + 1) else none
  | .must _ l => if l.all (Ref.below n) then some n else none
def Fact.isDef : Fact → Bool
  | .cond .. => false
  | .need .. => false
  | .idx .. => false
  | .must .. => false
  | _ => true
def setAt (ρ : Nat → Int) (n : Nat) (z : Int) : Nat → Int := fun i => if i = n then z else ρ i
def setRange (ρ : Nat → Int) (n m : Nat) (g : Nat → Int) : Nat → Int := fun i => if n ≤ i ∧ i < n + m then g (i - n) else ρ i
/-- The integers, one fact behind the other. -/
def Fact.eval (fns : Fns) (ρ : Nat → Int) : Fact → Nat → Int
  | .bin n op k a b => setAt ρ n ((binZ op k (a.den ρ) (b.den ρ)).getD 0)
  | .cmp n op a b => setAt ρ n (b2i ((cmpZ op (a.den ρ) (b.den ρ)).getD false))
  | .not n a => setAt ρ n (b2i !decide (a.den ρ ≠ 0))
  | .conv n k a => setAt ρ n (k.wrap (a.den ρ))
  | .eqs n l => setAt ρ n (b2i (l.all fun p => decide (p.1.den ρ = p.2.den ρ)))
  | .call n j args m => setRange ρ n m fun i => (fns.g j (args.map fun l => l.map (Ref.den ρ))).getD i 0
  | .cond .. => ρ
  | .need .. => ρ
  | .idx .. => ρ
  | .sel n l i => setAt ρ n ((l.map (Ref.den ρ)).getD (ρ i).toNat 0)
  | .upd n l i x => setRange ρ n l.length fun j => if j = (ρ i).toNat then x.den ρ else (l.map (Ref.den ρ)).getD j 0
  | .shv n left k a i => setAt ρ n (shvZ left k (a.den ρ) (ρ i))
  | .beq n neg a b => setAt ρ n (b2i ((decide (a.den ρ ≠ 0) == decide (b.den ρ ≠ 0)) != neg))
  | .prim n p l => setAt ρ n (primZ p (l.map (Ref.den ρ)))
  | .must .. => ρ
def evalF (fns : Fns) (ρ : Nat → Int) : List Fact → Nat → Int
  | [] => ρ
  | f :: l => evalF fns (f.eval fns ρ) l
def wfF : Nat → List Fact → Bool
  | _, [] => true
  | n, f :: l => match f.next n with
    | some n' => wfF n' l
    | none => false
theorem Ref.den_eq {n : Nat} {r : Ref} (h : r.below n = true) {ρ ρ' : Nat → Int} (he : ∀ i, i < n → ρ' i = ρ i) : r.den ρ' = r.den ρ := by
  cases r with
  | v i => exact he i (blt_lt h)
  | l z => rfl
theorem dens_eq {n : Nat} {l : List Ref} (h : l.all (Ref.below n) = true) {ρ ρ' : Nat → Int} (he : ∀ i, i < n → ρ' i = ρ i) : l.map (Ref.den ρ') = l.map (Ref.den ρ) :=
  List.map_congr_left fun r hr => Ref.den_eq (by rw [List.all_eq_true] at h; exact h r hr) he
theorem denss_eq {n : Nat} {l : List (List Ref)} (h : (l.all fun l => l.all (Ref.below n)) = true) {ρ ρ' : Nat → Int} (he : ∀ i, i < n → ρ' i = ρ i) : (l.map fun l => l.map (Ref.den ρ')) = l.map fun l => l.map (Ref.den ρ) :=
  List.map_congr_left fun r hr => dens_eq (by rw [List.all_eq_true] at h; exact h r hr) he
theorem setAt_low {ρ : Nat → Int} {n : Nat} {z : Int} {i : Nat} (h : i < n) : setAt ρ n z i = ρ i := by unfold setAt; rw [if_neg (by omega)]
theorem eqs_eq {n : Nat} {l : List (Ref × Ref)} (h : (l.all fun p => p.1.below n && p.2.below n) = true) {ρ ρ' : Nat → Int} (he : ∀ i, i < n → ρ' i = ρ i) : (l.all fun p => decide (p.1.den ρ' = p.2.den ρ')) = l.all fun p => decide (p.1.den ρ = p.2.den ρ) := by
  induction l with
  | nil => rfl
  | cons p l ih =>
    simp only [List.all_cons, Bool.and_eq_true] at h ⊢
    rw [ih h.2, Ref.den_eq h.1.1 he, Ref.den_eq h.1.2 he]
theorem next_ok {fns : Fns} {n n' : Nat} {f : Fact} (h : f.next n = some n') (ρ : Nat → Int) : n ≤ n' ∧ (∀ i, i < n → f.eval fns ρ i = ρ i) ∧ ∀ ρ', (∀ i, i < n' → ρ' i = f.eval fns ρ i) → f.isDef = true → f.ok fns ρ' := by
  cases f with
  | bin m op k a b =>
    simp only [Fact.next] at h
    split at h
    · rename_i hc
      cases h
      simp only [Bool.and_eq_true] at hc
      obtain ⟨⟨⟨c1, c2⟩, c3⟩, c4⟩ := hc
      obtain rfl := Nat.eq_of_beq_eq_true c1
      refine ⟨Nat.le_succ _, fun i hi => setAt_low hi, fun ρ' he _ => ?_⟩
      have hlow : ∀ i, i < m → ρ' i = ρ i := fun i hi => (he i (by omega)).trans (setAt_low hi)
      have hm := he m (by omega)
      simp only [Fact.eval, setAt, if_true] at hm
      simp only [Fact.ok, Ref.den_eq c2 hlow, Ref.den_eq c3 hlow]
      rw [hm]
      cases hb : binZ op k (a.den ρ) (b.den ρ) with
      | some z => rfl
      | none => exact absurd hb (goodOp_ok c4 k _ ρ)
    · cases h
  | cmp m op a b =>
    simp only [Fact.next] at h
    split at h
    · rename_i hc
      cases h
      simp only [Bool.and_eq_true] at hc
      obtain ⟨⟨⟨c1, c2⟩, c3⟩, c4⟩ := hc
      obtain rfl := Nat.eq_of_beq_eq_true c1
      refine ⟨Nat.le_succ _, fun i hi => setAt_low hi, fun ρ' he _ => ?_⟩
      have hlow : ∀ i, i < m → ρ' i = ρ i := fun i hi => (he i (by omega)).trans (setAt_low hi)
      have hm := he m (by omega)
      simp only [Fact.eval, setAt, if_true] at hm
      simp only [Fact.ok, Ref.den_eq c2 hlow, Ref.den_eq c3 hlow]
      rw [hm, b2i_ne]
      cases op <;> simp_all [isCmp, cmpZ]
    · cases h
  | not m a =>
    simp only [Fact.next] at h
    split at h
    · rename_i hc
      cases h
      simp only [Bool.and_eq_true] at hc
      obtain rfl := Nat.eq_of_beq_eq_true hc.1
      refine ⟨Nat.le_succ _, fun i hi => setAt_low hi, fun ρ' he _ => ?_⟩
      have hlow : ∀ i, i < m → ρ' i = ρ i := fun i hi => (he i (by omega)).trans (setAt_low hi)
      have hm := he m (by omega)
      simp only [Fact.eval, setAt, if_true] at hm
      simp only [Fact.ok, Ref.den_eq hc.2 hlow]
      rw [hm, b2i_ne]
    · cases h
  | conv m k a =>
    simp only [Fact.next] at h
    split at h
    · rename_i hc
      cases h
      simp only [Bool.and_eq_true] at hc
      obtain rfl := Nat.eq_of_beq_eq_true hc.1
      refine ⟨Nat.le_succ _, fun i hi => setAt_low hi, fun ρ' he _ => ?_⟩
      have hlow : ∀ i, i < m → ρ' i = ρ i := fun i hi => (he i (by omega)).trans (setAt_low hi)
      have hm := he m (by omega)
      simp only [Fact.eval, setAt, if_true] at hm
      simp only [Fact.ok, Ref.den_eq hc.2 hlow]
      exact hm
    · cases h
  | eqs m l =>
    simp only [Fact.next] at h
    split at h
    · rename_i hc
      cases h
      simp only [Bool.and_eq_true] at hc
      obtain rfl := Nat.eq_of_beq_eq_true hc.1
      refine ⟨Nat.le_succ _, fun i hi => setAt_low hi, fun ρ' he _ => ?_⟩
      have hlow : ∀ i, i < m → ρ' i = ρ i := fun i hi => (he i (by omega)).trans (setAt_low hi)
      have hm := he m (by omega)
      simp only [Fact.eval, setAt, if_true] at hm
      have h2 := hc.2
      simp only [Fact.ok]
      rw [hm, b2i_ne, eqs_eq (n := m) (by simpa using h2) hlow]
    · cases h
  | call m j args k =>
    simp only [Fact.next] at h
    split at h
    · rename_i hc
      cases h
      simp only [Bool.and_eq_true] at hc
      obtain rfl := Nat.eq_of_beq_eq_true hc.1
      have hlow0 : ∀ i, i < m → (Fact.call m j args k).eval fns ρ i = ρ i := fun i hi => by simp only [Fact.eval, setRange]; rw [if_neg (by omega)]
      refine ⟨Nat.le_add_right _ _, hlow0, fun ρ' he _ => ?_⟩
      have hlow : ∀ i, i < m → ρ' i = ρ i := fun i hi => (he i (by omega)).trans (hlow0 i hi)
      intro i hi
      have hm := he (m + i) (by omega)
      simp only [Fact.eval, setRange] at hm
      rw [if_pos (by omega), Nat.add_sub_cancel_left] at hm
      rw [hm, denss_eq (n := m) (by simpa using hc.2) hlow]
    · cases h
  | cond r b =>
    simp only [Fact.next] at h
    split at h
    · cases h; exact ⟨Nat.le_refl _, fun _ _ => rfl, fun _ _ h => by cases h⟩
    · cases h
  | need j args =>
    simp only [Fact.next] at h
    split at h
    · cases h; exact ⟨Nat.le_refl _, fun _ _ => rfl, fun _ _ h => by cases h⟩
    · cases h
  | prim m p l =>
    simp only [Fact.next] at h
    split at h
    · rename_i hc
      cases h
      simp only [Bool.and_eq_true] at hc
      obtain ⟨c1, c2⟩ := hc
      obtain rfl := Nat.eq_of_beq_eq_true c1
      refine ⟨Nat.le_succ _, fun i hi => setAt_low hi, fun ρ' he _ => ?_⟩
      have hlow : ∀ i, i < m → ρ' i = ρ i := fun i hi => (he i (by omega)).trans (setAt_low hi)
      have hm := he m (by omega)
      simp only [Fact.eval, setAt, if_true] at hm
      simp only [Fact.ok, dens_eq c2 hlow]
      exact hm
    · cases h
  | must p l =>
    simp only [Fact.next] at h
    split at h
    · cases h; exact ⟨Nat.le_refl _, fun _ _ => rfl, fun _ _ h => by cases h⟩
    · cases h
  | idx i len =>
    simp only [Fact.next] at h
    split at h
    · cases h; exact ⟨Nat.le_refl _, fun _ _ => rfl, fun _ _ h => by cases h⟩
    · cases h
  | beq m neg a b =>
    simp only [Fact.next] at h
    split at h
    · rename_i hc
      cases h
      simp only [Bool.and_eq_true] at hc
      obtain ⟨⟨c1, c2⟩, c3⟩ := hc
      obtain rfl := Nat.eq_of_beq_eq_true c1
      refine ⟨Nat.le_succ _, fun i hi => setAt_low hi, fun ρ' he _ => ?_⟩
      have hlow : ∀ i, i < m → ρ' i = ρ i := fun i hi => (he i (by omega)).trans (setAt_low hi)
      have hm := he m (by omega)
      simp only [Fact.eval, setAt, if_true] at hm
      simp only [Fact.ok, Ref.den_eq c2 hlow, Ref.den_eq c3 hlow]
      rw [hm, b2i_ne]
    · cases h
  | shv m left k a i =>
    simp only [Fact.next] at h
    split at h
    · rename_i hc
      cases h
      simp only [Bool.and_eq_true] at hc
      obtain ⟨⟨c1, c2⟩, c3⟩ := hc
      obtain rfl := Nat.eq_of_beq_eq_true c1
      refine ⟨Nat.le_succ _, fun i hi => setAt_low hi, fun ρ' he _ => ?_⟩
      have hlow : ∀ i, i < m → ρ' i = ρ i := fun i hi => (he i (by omega)).trans (setAt_low hi)
      have hm := he m (by omega)
      simp only [Fact.eval, setAt, if_true] at hm
      simp only [Fact.ok, Ref.den_eq c2 hlow, hlow i (blt_lt c3)]
      exact hm
    · cases h
  | sel m l i =>
    simp only [Fact.next] at h
    split at h
    · rename_i hc
      cases h
      simp only [Bool.and_eq_true] at hc
      obtain ⟨⟨c1, c2⟩, c3⟩ := hc
      obtain rfl := Nat.eq_of_beq_eq_true c1
      refine ⟨Nat.le_succ _, fun i hi => setAt_low hi, fun ρ' he _ => ?_⟩
      have hlow : ∀ i, i < m → ρ' i = ρ i := fun i hi => (he i (by omega)).trans (setAt_low hi)
      have hm := he m (by omega)
      simp only [Fact.eval, setAt, if_true] at hm
      simp only [Fact.ok, dens_eq c2 hlow, hlow i (blt_lt c3)]
      exact hm
    · cases h
  | upd m l i x =>
    simp only [Fact.next] at h
    split at h
    · rename_i hc
      cases h
      simp only [Bool.and_eq_true] at hc
      obtain ⟨⟨⟨c1, c2⟩, c3⟩, c4⟩ := hc
      obtain rfl := Nat.eq_of_beq_eq_true c1
      have hlow0 : ∀ q, q < m → (Fact.upd m l i x).eval fns ρ q = ρ q := fun q hq => by simp only [Fact.eval, setRange]; rw [if_neg (by omega)]
      refine ⟨Nat.le_add_right _ _, hlow0, fun ρ' he _ => ?_⟩
      have hlow : ∀ i, i < m → ρ' i = ρ i := fun i hi => (he i (by omega)).trans (hlow0 i hi)
      intro j hj
      have hm := he (m + j) (by omega)
      simp only [Fact.eval, setRange] at hm
      rw [if_pos (by omega), Nat.add_sub_cancel_left] at hm
      rw [hm, dens_eq c2 hlow, hlow i (blt_lt c3), Ref.den_eq c4 hlow]
    · cases h
/-- A truth is 1 or 0. -/
def Fact.sharp (ρ : Nat → Int) : Fact → Prop
  | .cmp n .. => ρ n = 0 ∨ ρ n = 1
  | .not n .. => ρ n = 0 ∨ ρ n = 1
  | .eqs n .. => ρ n = 0 ∨ ρ n = 1
  | .beq n .. => ρ n = 0 ∨ ρ n = 1
  | _ => True
theorem b2i_sharp (b : Bool) : b2i b = 0 ∨ b2i b = 1 := by cases b <;> simp [b2i]
theorem next_sharp {fns : Fns} {n n' : Nat} {f : Fact} (h : f.next n = some n') (ρ : Nat → Int) : ∀ ρ', (∀ i, i < n' → ρ' i = f.eval fns ρ i) → f.sharp ρ' := by
  cases f with
  | cmp m op a b =>
    simp only [Fact.next] at h
    split at h
    · rename_i hc
      cases h
      simp only [Bool.and_eq_true] at hc
      obtain ⟨⟨⟨c1, c2⟩, c3⟩, c4⟩ := hc
      obtain rfl := Nat.eq_of_beq_eq_true c1
      intro ρ' he
      have hm := he m (by omega)
      simp only [Fact.eval, setAt, if_true] at hm
      show ρ' m = 0 ∨ ρ' m = 1
      rw [hm]; exact b2i_sharp _
    · cases h
  | not m a =>
    simp only [Fact.next] at h
    split at h
    · rename_i hc
      cases h
      simp only [Bool.and_eq_true] at hc
      obtain rfl := Nat.eq_of_beq_eq_true hc.1
      intro ρ' he
      have hm := he m (by omega)
      simp only [Fact.eval, setAt, if_true] at hm
      show ρ' m = 0 ∨ ρ' m = 1
      rw [hm]; exact b2i_sharp _
    · cases h
  | eqs m l =>
    simp only [Fact.next] at h
    split at h
    · rename_i hc
      cases h
      simp only [Bool.and_eq_true] at hc
      obtain rfl := Nat.eq_of_beq_eq_true hc.1
      intro ρ' he
      have hm := he m (by omega)
      simp only [Fact.eval, setAt, if_true] at hm
      show ρ' m = 0 ∨ ρ' m = 1
      rw [hm]; exact b2i_sharp _
    · cases h
  | beq m neg a b =>
    simp only [Fact.next] at h
    split at h
    · rename_i hc
      cases h
      simp only [Bool.and_eq_true] at hc
      obtain rfl := Nat.eq_of_beq_eq_true hc.1.1
      intro ρ' he
      have hm := he m (by omega)
      simp only [Fact.eval, setAt, if_true] at hm
      show ρ' m = 0 ∨ ρ' m = 1
      rw [hm]; exact b2i_sharp _
    · cases h
  | _ => intro _ _; trivial
theorem evalF_sharp {fns : Fns} : ∀ {fs : List Fact} {n : Nat} (ρ : Nat → Int), wfF n fs = true → (∀ i, i < n → evalF fns ρ fs i = ρ i) → ∀ f ∈ fs, f.sharp (evalF fns ρ fs)
  | [], _, _, _, _ => fun _ h => by cases h
  | f :: l, n, ρ, h, _ => by
    unfold wfF at h
    split at h
    · rename_i n' hn
      have low : ∀ (l : List Fact) (n : Nat) (ρ : Nat → Int), wfF n l = true → ∀ i, i < n → evalF fns ρ l i = ρ i := fun l => by
        induction l with
        | nil => intro n ρ _ i _; rfl
        | cons f l ih =>
          intro n ρ h i hi
          unfold wfF at h
          split at h
          · rename_i n' hn
            obtain ⟨h1, h2, h3⟩ := next_ok (fns := fns) hn ρ
            exact (ih n' _ h i (by omega)).trans (h2 i hi)
          · cases h
      have i1 := low l n' (f.eval fns ρ) h
      intro g hg
      rcases List.mem_cons.1 hg with rfl | hg
      · exact next_sharp hn ρ _ i1
      · exact evalF_sharp (fns := fns) (f.eval fns ρ) h i1 g hg
    · cases h
/-- The integers are as the facts have them. -/
theorem evalF_ok {fns : Fns} : ∀ {fs : List Fact} {n : Nat} (ρ : Nat → Int), wfF n fs = true → (∀ i, i < n → evalF fns ρ fs i = ρ i) ∧ ∀ f ∈ fs, f.isDef = true → f.ok fns (evalF fns ρ fs)
  | [], _, _, _ => ⟨fun _ _ => rfl, fun _ h => by cases h⟩
  | f :: l, n, ρ, h => by
    unfold wfF at h
    split at h
    · rename_i n' hn
      obtain ⟨h1, h2, h3⟩ := next_ok (fns := fns) hn ρ
      obtain ⟨i1, i2⟩ := evalF_ok (fns := fns) (f.eval fns ρ) h
      refine ⟨fun i hi => (i1 i (by omega)).trans (h2 i hi), fun g hg hd => ?_⟩
      rcases List.mem_cons.1 hg with rfl | hg
      · exact h3 _ i1 hd
      · exact i2 g hg hd
    · cases h
end Go.Sx
