/- Loops, over names: a state of integers that each round makes anew. No condition. -/
import Derived.Test.YtbhflfdlkiihgaaSx12
namespace Go.Sx
open Go Go.RowKit Go.Bx

section
variable {P : Program} {fns : Fns} {call : CallH}
theorem Runs.seq {x y : Code} {sl sl1 sl2 : List SV} {st st1 st2 : St} {e : Ex} {f1 f2 : List Fact} (h1 : Runs fns (x.wp P) sl st .normal sl1 f1 st1) (h2 : Runs fns (y.wp P) sl1 st1 e sl2 f2 st2) : Runs fns ((x.seq y).wp P) sl st e sl2 (f1 ++ f2) st2 :=
  h1.then h2 fun _ _ _ _ _ _ hk => wp_seq (hk _ fun _ _ h => h)
theorem Runs.seqOut {x y : Code} {sl sl1 : List SV} {st st1 : St} {e : Ex} {f1 : List Fact} (h1 : Runs fns (x.wp P) sl st e sl1 f1 st1) (he : e ≠ .normal) : Runs fns ((x.seq y).wp P) sl st e sl1 f1 st1 :=
  h1.map fun Q a w hk => wp_seq (hk _ fun a w hq => by cases e with | normal => exact absurd rfl he | exit id => exact hq | ret => exact hq)
theorem Runs.block {c : Code} {id : Nat} {sl sl1 : List SV} {st st1 : St} {f1 : List Fact} (h : Runs fns (c.wp P) sl st (.exit id) sl1 f1 st1) : Runs fns ((Code.block id c).wp P) sl st .normal sl1 f1 st1 :=
  h.map fun Q a w hk => wp_block (hk _ fun a w hq => by simp only [Ex.out, Exit.inBlock, if_true]; exact hq)
theorem Runs.blockThrough {c : Code} {id : Nat} {e : Ex} {sl sl1 : List SV} {st st1 : St} {f1 : List Fact} (h : Runs fns (c.wp P) sl st e sl1 f1 st1) (he : e = .normal ∨ e = .ret) : Runs fns ((Code.block id c).wp P) sl st e sl1 f1 st1 :=
  h.map fun Q a w hk => wp_block (hk _ fun a w hq => by rcases he with rfl | rfl <;> exact hq)
end
def instR (σ : List Ref) : Ref → Ref
  | .v i => σ.getD i (.v i)
  | .l z => .l z
def instC (σ : List Ref) : C → C
  | .int k r => .int k (instR σ r)
  | .bool r => .bool (instR σ r)
  | .strv r => .strv (instR σ r)
  | c => c
def instS (σ : List Ref) : SV → SV
  | .c c => .c (instC σ c)
  | .agg l => .agg (l.map (instC σ))
  | _ => .any
def instB (σ : List Ref) : Option Blk → Option Blk
  | some B => some ⟨B.t, B.cs.map (instC σ)⟩
  | none => none
/-- The integers of a state, by where they stand. -/
def stρ (σ : List Ref) (ρ : Nat → Int) : Nat → Int := fun i => (instR σ (.v i)).den ρ
def withρ (E : Env) (ρ : Nat → Int) : Env := { E with ρ := ρ }
theorem instR_den (σ : List Ref) (ρ : Nat → Int) (r : Ref) : (instR σ r).den ρ = r.den (stρ σ ρ) := by cases r <;> rfl
/-- No place that is a number, nothing handed in whole. -/
def C.tm (m n : Nat) : C → Bool
  | .int _ r => r.below m
  | .bool r => r.below m
  | .ptr b _ => Nat.blt b n
  | .slc b _ _ _ => Nat.blt b n
  | .ptrx .. => false
  | .strv r => r.below m
  | .opq .. => false
  | _ => true
def SV.tm (m n : Nat) : SV → Bool
  | .c x => C.tm m n x
  | .agg l => l.all (C.tm m n)
  | .tup _ => false
  | .any => true
def memTm (m n : Nat) (mem : Mem) : Bool := mem.all fun x => match x with | some B => B.cs.all (C.tm m n) | none => true
theorem instC_rel {E E' : Env} {σ : List Ref} {m n : Nat} (hρ : ∀ i, i < m → E'.ρ i = stρ σ E.ρ i) (hb : ∀ b g, b < n → E.blk b = some g → E'.blk b = some g) {c : C} (hc : c.tm m n = true) (ho : (instC σ c).ok E) : c.ok E' ∧ c.den E' = (instC σ c).den E := by
  have hd : ∀ r : Ref, r.below m = true → r.den E'.ρ = (instR σ r).den E.ρ := fun r hr => by rw [instR_den]; exact Ref.den_eq hr hρ
  cases c with
  | int k r => exact ⟨by rw [C.ok, hd r hc]; exact ho, by rw [C.den, hd r hc]; rfl⟩
  | bool r => exact ⟨trivial, by rw [C.den, hd r hc]; rfl⟩
  | ptr b off =>
    obtain ⟨g, hg⟩ := Option.isSome_iff_exists.1 ho
    have := hb b g (blt_lt hc) hg
    exact ⟨by rw [C.ok, this]; rfl, by show _ = (C.ptr b off).den E; rw [C.den, C.den, this, hg]⟩
  | slc b off l k =>
    obtain ⟨g, hg⟩ := Option.isSome_iff_exists.1 ho
    have := hb b g (blt_lt hc) hg
    exact ⟨by rw [C.ok, this]; rfl, by show _ = (C.slc b off l k).den E; rw [C.den, C.den, this, hg]⟩
  | ptrx b off l i => cases hc
  | strv r => exact ⟨by rw [C.ok, hd r hc]; exact ho, by rw [C.den, hd r hc]; rfl⟩
  | opq b r => cases hc
  | nilp => exact ⟨trivial, rfl⟩
  | nils => exact ⟨trivial, rfl⟩
  | str l => exact ⟨trivial, rfl⟩
  | undef => exact ⟨trivial, rfl⟩
theorem instL_rel {E E' : Env} {σ : List Ref} {m n : Nat} (hρ : ∀ i, i < m → E'.ρ i = stρ σ E.ρ i) (hb : ∀ b g, b < n → E.blk b = some g → E'.blk b = some g) {l : List C} (hc : l.all (C.tm m n) = true) (ho : oks E (l.map (instC σ))) : oks E' l ∧ dens E' l = dens E (l.map (instC σ)) := by
  rw [List.all_eq_true] at hc
  refine ⟨fun c h => (instC_rel hρ hb (hc c h) (ho _ (List.mem_map_of_mem h))).1, ?_⟩
  unfold dens
  rw [List.map_map]
  exact List.map_congr_left fun c h => (instC_rel hρ hb (hc c h) (ho _ (List.mem_map_of_mem h))).2
theorem instS_rel {E E' : Env} {σ : List Ref} {m n : Nat} (hρ : ∀ i, i < m → E'.ρ i = stρ σ E.ρ i) (hb : ∀ b g, b < n → E.blk b = some g → E'.blk b = some g) {s : SV} (hc : s.tm m n = true) {v : Value} (hv : (instS σ s).Rel E v) : s.Rel E' v := by
  cases s with
  | c c => obtain ⟨h1, h2⟩ := hv; obtain ⟨a, b⟩ := instC_rel hρ hb hc h2; exact ⟨by rw [h1, b], a⟩
  | agg l => obtain ⟨h1, h2⟩ := hv; obtain ⟨a, b⟩ := instL_rel hρ hb hc h2; exact ⟨by rw [h1, b], a⟩
  | tup l => cases hc
  | any => trivial
/-- The other way: the state's names stand for what the list tells. -/
theorem instC_rel' {E E' : Env} {σ : List Ref} {m n : Nat} (hρ : ∀ i, i < m → E'.ρ i = stρ σ E.ρ i) (hb : ∀ b g, b < n → E'.blk b = some g → E.blk b = some g) {c : C} (hc : c.tm m n = true) (ho : c.ok E') : (instC σ c).ok E ∧ (instC σ c).den E = c.den E' := by
  have hd : ∀ r : Ref, r.below m = true → r.den E'.ρ = (instR σ r).den E.ρ := fun r hr => by rw [instR_den]; exact Ref.den_eq hr hρ
  cases c with
  | int k r => exact ⟨by rw [C.ok, hd r hc] at ho; exact ho, by rw [C.den, hd r hc]; rfl⟩
  | bool r => exact ⟨trivial, by rw [C.den, hd r hc]; rfl⟩
  | ptr b off =>
    obtain ⟨g, hg⟩ := Option.isSome_iff_exists.1 ho
    have := hb b g (blt_lt hc) hg
    exact ⟨by show (C.ptr b off).ok E; rw [C.ok, this]; rfl, by show (C.ptr b off).den E = _; rw [C.den, C.den, this, hg]⟩
  | slc b off l k =>
    obtain ⟨g, hg⟩ := Option.isSome_iff_exists.1 ho
    have := hb b g (blt_lt hc) hg
    exact ⟨by show (C.slc b off l k).ok E; rw [C.ok, this]; rfl, by show (C.slc b off l k).den E = _; rw [C.den, C.den, this, hg]⟩
  | ptrx b off l i => cases hc
  | strv r => exact ⟨by rw [C.ok, hd r hc] at ho; exact ho, by rw [C.den, hd r hc]; rfl⟩
  | opq b r => cases hc
  | nilp => exact ⟨trivial, rfl⟩
  | nils => exact ⟨trivial, rfl⟩
  | str l => exact ⟨trivial, rfl⟩
  | undef => exact ⟨trivial, rfl⟩
theorem instS_rel' {E E' : Env} {σ : List Ref} {m n : Nat} (hρ : ∀ i, i < m → E'.ρ i = stρ σ E.ρ i) (hb : ∀ b g, b < n → E'.blk b = some g → E.blk b = some g) {s : SV} (hc : s.tm m n = true) {v : Value} (hv : s.Rel E' v) : (instS σ s).Rel E v := by
  cases s with
  | c c => obtain ⟨h1, h2⟩ := hv; obtain ⟨a, b⟩ := instC_rel' hρ hb hc h2; exact ⟨by rw [h1, b], a⟩
  | agg l =>
    obtain ⟨h1, h2⟩ := hv
    simp only [SV.tm, List.all_eq_true] at hc
    refine ⟨?_, fun c h => ?_⟩
    · rw [h1]; congr 2; unfold dens; rw [List.map_map]
      exact (List.map_congr_left fun c h => (instC_rel' hρ hb (hc c h) (h2 c h)).2).symm
    · obtain ⟨c', h', rfl⟩ := List.mem_map.1 h
      exact (instC_rel' hρ hb (hc c' h') (h2 c' h')).1
  | tup l => cases hc
  | any => trivial
/-- What is at hand is the state's shape, with these integers. -/
def eqS : SV → SV → Bool
  | .any, _ => true
  | .c a, .c b => C.eqb a b
  | .agg l, .agg m => cellsEqb l m
  | _, _ => false
theorem eqS_rel {a b : SV} (h : eqS a b = true) {E : Env} {v : Value} (hv : b.Rel E v) : a.Rel E v := by
  cases a <;> cases b <;> simp only [eqS] at h <;> first | trivial | cases h | skip
  · rw [C.eqb_eq h]; exact hv
  · rw [cellsEqb_eq h]; exact hv
def eqSlots (σ : List Ref) : List SV → List SV → Bool
  | [], [] => true
  | a :: l, b :: m => eqS (instS σ a) b && eqSlots σ l m
  | _, _ => false
theorem eqSlots_spec {σ : List Ref} : ∀ {l m : List SV}, eqSlots σ l m = true → l.length = m.length ∧ ∀ (t : Nat) (a : SV), l[t]? = some a → ∃ b, m[t]? = some b ∧ eqS (instS σ a) b = true
  | [], [], _ => ⟨rfl, fun t a h => by simp at h⟩
  | a :: l, b :: m, h => by
    simp only [eqSlots, Bool.and_eq_true] at h
    obtain ⟨i1, i2⟩ := eqSlots_spec h.2
    refine ⟨by simp [i1], fun t a' ht => ?_⟩
    cases t with
    | zero => simp at ht; subst ht; exact ⟨b, rfl, h.1⟩
    | succ t => simpa using i2 t a' (by simpa using ht)
  | [], _ :: _, h => by simp [eqSlots] at h
  | _ :: _, [], h => by simp [eqSlots] at h
def eqMem (σ : List Ref) : Mem → Mem → Bool
  | [], _ => true
  | none :: l, _ :: m => eqMem σ l m
  | some a :: l, b :: m => blkEqb (instB σ (some a)) b && eqMem σ l m
  | _ :: _, [] => false
theorem eqMem_spec {σ : List Ref} : ∀ {l m : Mem}, eqMem σ l m = true → l.length ≤ m.length ∧ ∀ (t : Nat) (B : Blk), l[t]? = some (some B) → m[t]? = some (instB σ (some B))
  | [], _, _ => ⟨Nat.zero_le _, fun t a h => by simp at h⟩
  | none :: l, b :: m, h => by
    obtain ⟨i1, i2⟩ := eqMem_spec (l := l) (m := m) (by simpa [eqMem] using h)
    refine ⟨by simp [i1], fun t B ht => ?_⟩
    cases t with
    | zero => simp at ht
    | succ t => simpa using i2 t B (by simpa using ht)
  | some a :: l, b :: m, h => by
    simp only [eqMem, Bool.and_eq_true] at h
    obtain ⟨i1, i2⟩ := eqMem_spec h.2
    refine ⟨by simp [i1], fun t B ht => ?_⟩
    cases t with
    | zero => simp at ht; subst ht; simp [blkEqb_eq h.1]
    | succ t => simpa using i2 t B (by simpa using ht)
  | none :: _, [], h => by simp [eqMem] at h
  | some _ :: _, [], h => by simp [eqMem] at h
/-- Each integer of the state is in its range. -/
def C.inr (ρ : Nat → Int) : C → Prop
  | .int k r => InR k (r.den ρ)
  | .strv r => Str (r.den ρ)
  | _ => True
def SV.inr (ρ : Nat → Int) : SV → Prop
  | .c x => x.inr ρ
  | .agg l => ∀ c ∈ l, C.inr ρ c
  | _ => True
def blkInr (ρ : Nat → Int) : Option Blk → Prop
  | some B => ∀ c ∈ B.cs, C.inr ρ c
  | none => True
structure TOk (slT : List SV) (memT : Mem) (ρ : Nat → Int) : Prop where
  s : ∀ s ∈ slT, SV.inr ρ s
  m : ∀ x ∈ memT, blkInr ρ x
theorem inr_of {E : Env} {c : C} (h : c.ok E) : c.inr E.ρ := by
  cases c <;> first | exact h | trivial
theorem tok_of {E : Env} {slT : List SV} {memT : Mem} {a : Act} {w : World} (hs : Slots E slT a) (hg : Good E memT w) : TOk slT memT E.ρ := by
  refine ⟨fun s hm => ?_, fun x hm => ?_⟩
  · obtain ⟨t, ht, rfl⟩ := List.mem_iff_getElem.1 hm
    have hr := hs.at_ t _ (List.getElem?_eq_getElem ht)
    generalize slT[t] = s at hr
    cases s with
    | c c => exact inr_of hr.2
    | agg l => exact fun c hc => inr_of (hr.2 c hc)
    | tup l => trivial
    | any => trivial
  · cases x with
    | none => trivial
    | some B =>
      obtain ⟨t, ht, he⟩ := List.mem_iff_getElem.1 hm
      obtain ⟨_, _, _, ho⟩ := hg.at_ t B (by rw [List.getElem?_eq_getElem ht, he])
      exact fun c hc => inr_of (ho c hc)
def xs (m : Nat) (ρ : Nat → Int) : List Int := (List.range m).map ρ
/-- The memory with the state's blocks as they are now. -/
def putM (σ : List Ref) : Mem → Mem → Mem
  | [], m => m
  | none :: l, b :: m => b :: putM σ l m
  | some a :: l, _ :: m => instB σ (some a) :: putM σ l m
  | _ :: _, [] => []
theorem putM_get {σ : List Ref} : ∀ {l m : Mem} {t : Nat} {B : Blk}, (putM σ l m)[t]? = some (some B) → (∃ A : Blk, l[t]? = some (some A) ∧ some B = instB σ (some A)) ∨ (m[t]? = some (some B) ∧ ∀ A : Blk, l[t]? ≠ some (some A))
  | [], m, t, B, h => .inr ⟨h, fun A hA => by simp at hA⟩
  | none :: l, b :: m, 0, B, h => .inr ⟨by simpa [putM] using h, fun A hA => by simp at hA⟩
  | none :: l, b :: m, t + 1, B, h => by simpa using putM_get (l := l) (m := m) (t := t) (by simpa [putM] using h)
  | some a :: l, b :: m, 0, B, h => .inl ⟨a, rfl, by have := h; simp [putM] at this; exact this.symm⟩
  | some a :: l, b :: m, t + 1, B, h => by simpa using putM_get (l := l) (m := m) (t := t) (by simpa [putM] using h)
  | none :: _, [], t, B, h => by simp [putM] at h
  | some _ :: _, [], t, B, h => by simp [putM] at h
theorem putM_len {σ : List Ref} : ∀ {l m : Mem}, l.length ≤ m.length → (putM σ l m).length = m.length
  | [], _, _ => rfl
  | none :: l, b :: m, h => by simp [putM, putM_len (l := l) (m := m) (by simpa using h)]
  | some a :: l, b :: m, h => by simp [putM, putM_len (l := l) (m := m) (by simpa using h)]
  | _ :: _, [], h => by simp at h
def outRefs (n m : Nat) : List Ref := (List.range m).map fun i => .v (n + i)
theorem outRefs_ρ {n m : Nat} (ρ : Nat → Int) {i : Nat} (hi : i < m) : stρ (outRefs n m) ρ i = ρ (n + i) := by
  unfold stρ instR outRefs
  simp [List.getD_eq_getElem?_getD, hi, Ref.den]
/-- One round from a state: its way, how it ends, the integers behind it. -/
structure RoundEnd (P : Program) (fns : Fns) (call : CallH) (lf : Nat) (c : Code) (slT : List SV) (memT : Mem) (m : Nat) (ρT : Nat → Int) (e : Ex) (x' : Nat → Int) : Prop where
  ex : ∃ (dec : List Bool) (slP : List SV) (fs : List Fact) (stP : St) (nx : List Ref) (ρ : Nat → Int), run P call lf c slT ⟨memT, m, [], dec⟩ = some (e, slP, fs, stP) ∧ eqSlots nx slT slP = true ∧ eqMem nx memT stP.mem = true ∧
    (∀ i, i < m → ρ i = ρT i) ∧ (∀ x ∈ fs, Fact.ok fns ρ x) ∧ ∀ i, i < m → stρ nx ρ i = x' i
/-- The same, of whatever tells what the round does. -/
structure RoundEndW (P : Program) (fns : Fns) (c : Code) (slT : List SV) (memT : Mem) (m : Nat) (ρT : Nat → Int) (e : Ex) (x' : Nat → Int) : Prop where
  ex : ∃ (dec : List Bool) (slP : List SV) (fs : List Fact) (stP : St) (nx : List Ref) (ρ : Nat → Int), Runs fns (c.wp P) slT ⟨memT, m, [], dec⟩ e slP fs stP ∧ eqSlots nx slT slP = true ∧ eqMem nx memT stP.mem = true ∧
    (∀ i, i < m → ρ i = ρT i) ∧ (∀ x ∈ fs, Fact.ok fns ρ x) ∧ ∀ i, i < m → stρ nx ρ i = x' i
theorem RoundEnd.toW {P : Program} {fns : Fns} {call : CallH} (hcall : CallOK P fns call) (hm : P.follows .mixedOrders = true) {lf : Nat} {c : Code} {slT : List SV} {memT : Mem} {m : Nat} {ρT : Nat → Int} {e : Ex} {x' : Nat → Int} (h : RoundEnd P fns call lf c slT memT m ρT e x') : RoundEndW P fns c slT memT m ρT e x' := by
  obtain ⟨dec, slP, fs, stP, nx, ρ, r1, r⟩ := h.ex
  exact ⟨dec, slP, fs, stP, nx, ρ, run_ok hcall hm lf _ _ _ _ _ _ _ r1, r⟩
/-- **A loop whose state is integers**: it ends with what the function j makes of them. -/
theorem Runs.loop {P : Program} {fns : Fns} {c : Code} {slT : List SV} {memT : Mem} {m j : Nat} {σ : List Ref} {sl : List SV} {st : St} {xid : Nat}
    (hTs : slT.all (SV.tm m memT.length) = true) (hTm : memTm m memT.length memT = true) (hσ : σ.length = m) (hin : eqSlots σ slT sl = true) (hinM : eqMem σ memT st.mem = true)
    (Inv : (Nat → Int) → (Nat → Int) → Prop) (μ : (Nat → Int) → Nat)
    (h0 : ∀ ρ0, TOk slT memT ρ0 → fns.pre j [xs m ρ0] → Inv ρ0 ρ0)
    (hround : ∀ ρ0 ρT, TOk slT memT ρT → Inv ρ0 ρT → ∃ e x', RoundEndW P fns c slT memT m ρT e x' ∧ ((e = .normal ∧ Inv ρ0 x' ∧ μ x' < μ ρT) ∨ (e = .exit xid ∧ ∀ i, i < m → x' i = (fns.g j [xs m ρ0]).getD i 0))) :
    Runs fns ((Code.loop c).wp P) sl st (.exit xid) (slT.map (instS (outRefs st.n m))) [.need j [σ], .call st.n j [σ] m] { st with mem := putM (outRefs st.n m) memT st.mem, n := st.n + m } := by
  obtain ⟨hlenS, hspecS⟩ := eqSlots_spec hin
  obtain ⟨hlenM, hspecM⟩ := eqMem_spec hinM
  have hTs' : ∀ (t : Nat) (s : SV), slT[t]? = some s → s.tm m memT.length = true := fun t s h => by rw [List.all_eq_true] at hTs; exact hTs s (List.mem_of_getElem? h)
  have hTm' : ∀ (t : Nat) (B : Blk), memT[t]? = some (some B) → B.cs.all (C.tm m memT.length) = true := fun t B h => by
    unfold memTm at hTm; rw [List.all_eq_true] at hTm; exact hTm (some B) (List.mem_of_getElem? h)
  refine ⟨⟨by simp only [putM_len hlenM]; exact Nat.le_refl _, fun b B hb _ => ?_⟩, fun ρ hf hk => ⟨hk, fun E a w hρ hg hs Q hQ => ?_⟩⟩
  · rcases putM_get hb with ⟨A, hA, _⟩ | ⟨h, _⟩
    · exact ⟨_, hspecM b A hA⟩
    · exact ⟨B, h⟩
  subst hρ
  have hneed := hf (.need j [σ]) (by simp)
  have hcalled := hf (.call st.n j [σ] m) (by simp)
  simp only [Fact.ok, List.map_cons, List.map_nil] at hneed hcalled
  -- the state at the loop's head
  obtain ⟨ρ0, hρ0⟩ : ∃ ρ0, ρ0 = stρ σ E.ρ := ⟨_, rfl⟩
  have hxs : σ.map (Ref.den E.ρ) = xs m ρ0 := by
    rw [hρ0]; unfold xs
    apply List.ext_getElem
    · simp [hσ]
    · intro i h1 h2
      simp only [List.getElem_map, List.getElem_range, stρ, instR]
      simp at h1
      simp [List.getD_eq_getElem?_getD, h1]
  rw [hxs] at hneed hcalled
  obtain ⟨n, hn⟩ : ∃ n, n = memT.length := ⟨_, rfl⟩
  -- blocks of the state only
  let EB : (Nat → Int) → Env := fun x => cutE (withρ E x) n
  have blkEB : ∀ x b g, b < n → (E.blk b = some g ↔ (EB x).blk b = some g) := fun x b g hb => by
    show _ ↔ (if b < n then E.blk b else none) = some g
    rw [if_pos hb]
  let T : Nat → Prop := fun g => ∃ (b : Nat) (A : Blk), memT[b]? = some (some A) ∧ E.blk b = some g
  have hI0 : Inv ρ0 ρ0 ∧ Slots (EB ρ0) slT a ∧ Good (EB ρ0) memT w := by
    have hs0 : Slots (EB ρ0) slT a := ⟨hs.sz.trans hlenS.symm, hs.df, fun t s ht => by
      obtain ⟨b, hb, he⟩ := hspecS t s ht
      exact instS_rel (E := E) (σ := σ) (m := m) (n := n) (fun i _ => by rw [show (EB ρ0).ρ = ρ0 from rfl, hρ0]) (fun b g hb h => (blkEB ρ0 b g hb).1 h) (by rw [hn]; exact hTs' t s ht) (eqS_rel he (hs.at_ t b hb))⟩
    have hg0 : Good (EB ρ0) memT w := by
      refine ⟨fun b hb => ?_, fun b c g h1 h2 => hg.nd b c g (cutE_some h1).2 (cutE_some h2).2, fun b g h => hg.lt b g (cutE_some h).2, fun b B hB => ?_, cutE_vals (E := withρ E ρ0) ⟨hg.vl.rd, hg.vl.ap⟩ n, fun b hb => by show (if b < n then E.val b else none) = none; rw [if_neg (by omega)]⟩
      · show (if b < n then E.blk b else none) = none
        rw [if_neg (by omega)]
      · obtain ⟨g, g1, g2, g3⟩ := hg.at_ b _ (hspecM b B hB)
        obtain ⟨o1, o2⟩ := instL_rel (E := E) (E' := EB ρ0) (σ := σ) (m := m) (n := n) (fun i _ => by rw [show (EB ρ0).ρ = ρ0 from rfl, hρ0]) (fun b g hb h => (blkEB ρ0 b g hb).1 h) (by rw [hn]; exact hTm' b B hB) g3
        have hbn : b < n := by rw [hn]; exact (List.getElem?_eq_some_iff.1 hB).1
        exact ⟨g, (blkEB ρ0 b g hbn).1 g1, by rw [o2]; exact g2, o1⟩
    exact ⟨h0 ρ0 (tok_of hs0 hg0) hneed, hs0, hg0⟩
  -- from the end of a round to the state
  have back : ∀ (slP : List SV) (stP : St) (nx : List Ref) (x' : Nat → Int) (x : Nat → Int) (ρ : Nat → Int) (E2 : Env) (a2 : Act) (w1 w2 : World), eqSlots nx slT slP = true → eqMem nx memT stP.mem = true → (∀ i, i < m → stρ nx ρ i = x' i) → E2.ρ = ρ →
      Ext (withρ (EB x) ρ) E2 memT.length w1 → Slots E2 slP a2 → Good E2 stP.mem w2 → w1.heap.size ≤ w2.heap.size → (∀ b g, E.blk b = some g → g < w1.heap.size) → Slots (EB x') slT a2 ∧ Good (EB x') memT w2 := by
    intro slP stP nx x' x ρ E2 a2 w1 w2 q1 q2 q3 q4 hx hs2 hg2 hsz hlt
    obtain ⟨l1, l2⟩ := eqSlots_spec q1
    obtain ⟨m1, m2⟩ := eqMem_spec q2
    have hb2 : ∀ b g, b < n → E2.blk b = some g → (EB x').blk b = some g := fun b g hb h => by
      rcases hx.new b g h with h | ⟨h, _⟩
      · exact (blkEB x' b g hb).1 ((blkEB x b g hb).2 h)
      · omega
    have hv2 : Vals (EB x') w2 := ⟨fun b v l hb => hg2.vl.rd b v l (hx.vat b _ hb), fun b v l hb hl c g hc => hg2.vl.ap b v l (hx.vat b _ hb) hl c g (hx.at_ c g hc)⟩
    have hρ2 : ∀ i, i < m → (EB x').ρ i = stρ nx E2.ρ i := fun i hi => by rw [q4]; exact (q3 i hi).symm
    refine ⟨⟨hs2.sz.trans l1.symm, hs2.df, fun t s ht => ?_⟩, ⟨fun b hb => ?_, fun b c g h1 h2 => hg.nd b c g (cutE_some h1).2 (cutE_some h2).2, fun b g h => Nat.lt_of_lt_of_le (hlt b g (cutE_some h).2) hsz, fun b B hB => ?_, hv2, fun b hb => by show (if b < n then E.val b else none) = none; rw [if_neg (by omega)]⟩⟩
    · obtain ⟨b, hb, he⟩ := l2 t s ht
      exact instS_rel hρ2 hb2 (by rw [hn]; exact hTs' t s ht) (eqS_rel he (hs2.at_ t b hb))
    · show (if b < n then E.blk b else none) = none
      rw [if_neg (by omega)]
    · obtain ⟨g, g1, g2, g3⟩ := hg2.at_ b _ (m2 b B hB)
      obtain ⟨o1, o2⟩ := instL_rel (E' := EB x') hρ2 hb2 (by rw [hn]; exact hTm' b B hB) g3
      have hbn : b < n := by rw [hn]; exact (List.getElem?_eq_some_iff.1 hB).1
      exact ⟨g, hb2 b g hbn g1, by rw [o2]; exact g2, o1⟩
  have hT : ∀ g, T g → Vis E st.mem g := fun g ⟨b, A, h1, h2⟩ => ⟨b, _, hspecM b A h1, h2⟩
  -- the end
  have fin : ∀ (x' : Nat → Int) (a2 : Act) (w2 : World), (∀ i, i < m → x' i = (fns.g j [xs m ρ0]).getD i 0) → Slots (EB x') slT a2 → Good (EB x') memT w2 → Fr T w w2 → Q (.exit xid) a2 w2 := by
    intro x' a2 w2 hx hs2 hg2 hfr
    have hρ3 : ∀ i, i < m → (EB x').ρ i = stρ (outRefs st.n m) E.ρ i := fun i hi => by
      rw [outRefs_ρ E.ρ hi, hcalled i hi]; exact hx i hi
    have hb3 : ∀ b g, b < n → (EB x').blk b = some g → E.blk b = some g := fun b g hb h => (blkEB x' b g hb).2 h
    refine hQ E a2 w2 (Ext.refl _ _ _) ⟨by rw [List.length_map]; exact hs2.sz, hs2.df, fun t s ht => ?_⟩ ⟨fun b hb => ?_, hg.nd, fun b g h => Nat.lt_of_lt_of_le (hg.lt b g h) hfr.size, fun b B hB => ?_, hg.vl.fr hfr (fun k ⟨b, _, _, h⟩ => ⟨b, h⟩), fun b hb => hg.vlen b (by simpa only [putM_len hlenM] using hb)⟩ (hfr.mono fun g _ h => hT g h)
    · rw [List.getElem?_map] at ht
      obtain ⟨s0, hs0, rfl⟩ := Option.map_eq_some_iff.1 ht
      exact instS_rel' hρ3 hb3 (by rw [hn]; exact hTs' t s0 hs0) (hs2.at_ t s0 hs0)
    · simp only [putM_len hlenM] at hb; exact hg.len b hb
    · rcases putM_get hB with ⟨A, hA, hBA⟩ | ⟨hB', hno⟩
      · cases hBA
        obtain ⟨g, g1, g2, g3⟩ := hg2.at_ b A hA
        have hbn : b < n := by rw [hn]; exact (List.getElem?_eq_some_iff.1 hA).1
        have hA' := hTm' b A hA
        rw [List.all_eq_true] at hA'
        have key : ∀ c ∈ A.cs, (instC (outRefs st.n m) c).ok E ∧ (instC (outRefs st.n m) c).den E = c.den (EB x') := fun c hc => instC_rel' hρ3 hb3 (by rw [hn]; exact hA' c hc) (g3 c hc)
        refine ⟨g, hb3 b g hbn g1, ?_, fun c hc => ?_⟩
        · rw [g2]; congr 3; unfold dens; rw [List.map_map]
          exact (List.map_congr_left fun c hc => (key c hc).2).symm
        · obtain ⟨c', hc', rfl⟩ := List.mem_map.1 hc
          exact (key c' hc').1
      · obtain ⟨g, g1, g2, g3⟩ := hg.at_ b B hB'
        refine ⟨g, g1, ?_, g3⟩
        rw [hfr.block g (Array.getElem?_eq_some_iff.1 g2).1 fun ⟨b', A, h1, h2⟩ => ?_]
        · exact g2
        · have := hg.nd b b' g g1 h2
          subst this
          exact hno A h1
  have key : ∀ (k : Nat) (x : Nat → Int) (a1 : Act) (w1 : World), μ x < k → Inv ρ0 x → Slots (EB x) slT a1 → Good (EB x) memT w1 → Fr T w w1 → Code.rounds P c Q k a1 w1 := by
    intro k
    induction k with
    | zero => intro x a1 w1 h; omega
    | succ k ih =>
      intro x a1 w1 hμ hI hs1 hg1 hfr
      rw [rounds_succ]
      obtain ⟨e, x', ⟨⟨dec, slP, fs, stP, nx, ρ, r1, r2, r3, r4, r5, r6⟩⟩, hend⟩ := hround ρ0 x (tok_of hs1 hg1) hI
      have hle : ∀ i, i < m → (withρ (EB x) ρ).ρ i = stρ [] (EB x).ρ i := fun i hi => by
        show ρ i = (instR [] (.v i)).den x
        exact r4 i hi
      have inst0 : ∀ s : SV, s.tm m n = true → instS [] s = s := fun s hs => by
        have hc : ∀ c, instC [] c = c := fun c => by
          have hr : ∀ r, instR [] r = r := fun r => by cases r <;> rfl
          cases c <;> simp only [instC, hr]
        cases s with
        | c c => simp only [instS, hc]
        | agg l => simp only [instS]; congr 1; exact List.map_id'' hc l
        | tup l => cases hs
        | any => rfl
      have hcells : ∀ l : List C, l.map (instC []) = l := fun l => by
        have hc : ∀ c, instC [] c = c := fun c => by
          have hr : ∀ r, instR [] r = r := fun r => by cases r <;> rfl
          cases c <;> simp only [instC, hr]
        exact List.map_id'' hc l
      have hs1' : Slots (withρ (EB x) ρ) slT a1 := ⟨hs1.sz, hs1.df, fun t s ht => by
        have htm : s.tm m n = true := by rw [hn]; exact hTs' t s ht
        refine instS_rel (E := EB x) (σ := []) hle (fun b g _ h => h) htm ?_
        rw [inst0 s htm]; exact hs1.at_ t s ht⟩
      have hg1' : Good (withρ (EB x) ρ) memT w1 := ⟨hg1.len, hg1.nd, hg1.lt, fun b B hB => by
        obtain ⟨g, g1, g2, g3⟩ := hg1.at_ b B hB
        obtain ⟨o1, o2⟩ := instL_rel (E := EB x) (E' := withρ (EB x) ρ) (σ := []) (m := m) (n := n) hle (fun b g _ h => h) (by rw [hn]; exact hTm' b B hB) (by rw [hcells]; exact g3)
        rw [hcells] at o2
        exact ⟨g, g1, by rw [o2]; exact g2, o1⟩, ⟨hg1.vl.rd, hg1.vl.ap⟩, hg1.vlen⟩
      obtain ⟨_, rr⟩ := r1
      refine (rr ρ r5 (fun _ h => by cases h)).2 (withρ (EB x) ρ) a1 w1 rfl hg1' hs1' _ fun E2 a2 w2 y1 y2 y3 y4 => ?_
      have hlt1 : ∀ b g, E.blk b = some g → g < w1.heap.size := fun b g h => Nat.lt_of_lt_of_le (hg.lt b g h) hfr.size
      obtain ⟨b1, b2⟩ := back slP stP nx x' x ρ E2 a2 w1 w2 r2 r3 r6 y1.ρ y1 y2 y3 y4.size hlt1
      have hfr2 : Fr T w w2 := hfr.trans' y4 fun g _ hv => by
        obtain ⟨b, A, h1, h2⟩ := hv
        have hbn : b < n := by rw [hn]; exact (List.getElem?_eq_some_iff.1 h1).1
        exact ⟨b, A, h1, (blkEB x b g hbn).2 h2⟩
      rcases hend with ⟨rfl, hI', hμ'⟩ | ⟨rfl, hx⟩
      · exact ih x' a2 w2 (by omega) hI' b1 b2 hfr2
      · exact fin x' a2 w2 hx b1 b2 hfr2
  exact wp_loop_rounds (μ ρ0 + 1) (key _ ρ0 a w (Nat.lt_succ_self _) hI0.1 hI0.2.1 hI0.2.2 (Fr.refl _ _))
end Go.Sx
