/- Steps of a region in whatever order: each touches the slots and the blocks that its masks name; steps that clash stand in one order; so what each finds is what it finds in the order of the text. No condition. -/
import Derived.Test.YtbhflfdlkiihgaaBase
import Derived.Orders
namespace Go.Sx
open Go Go.RowKit Go.Bx

section cur
variable {α : Type} {V : Nat → α} {wr ls : Nat → Bool}
/-- What a place holds when the steps of ls are done. -/
def cur (V : Nat → α) (wr ls : Nat → Bool) : Nat → α
  | 0 => V 0
  | i + 1 => if ls i && wr i then V (i + 1) else cur V wr ls i
theorem cur_low : ∀ (i : Nat), (∀ j, j < i → wr j = false → V (j + 1) = V j) → (∀ j, j < i → wr j = true → ls j = true) → cur V wr ls i = V i
  | 0, _, _ => rfl
  | i + 1, hV, hl => by
    have ih := cur_low i (fun j hj => hV j (by omega)) (fun j hj => hl j (by omega))
    unfold cur
    cases hw : wr i with
    | true => rw [hl i (by omega) hw]; rfl
    | false => rw [Bool.and_false, if_neg (by simp), ih, hV i (by omega) hw]
theorem cur_high {i : Nat} : ∀ (n : Nat), i ≤ n → (∀ j, i ≤ j → j < n → wr j = true → ls j = false) → cur V wr ls n = cur V wr ls i
  | 0, hin, _ => by obtain rfl : i = 0 := by omega
                    rfl
  | n + 1, hin, h => by
    by_cases e : i = n + 1
    · rw [e]
    · have ih := cur_high n (by omega) (fun j h1 h2 => h j h1 (by omega))
      conv => lhs; unfold cur
      cases hw : wr n with
      | true => rw [h n (by omega) (by omega) hw]; exact ih
      | false => rw [Bool.and_false, if_neg (by simp)]; exact ih
theorem cur_congr {ls' : Nat → Bool} : ∀ (n : Nat), (∀ j, j < n → wr j = true → ls' j = ls j) → cur V wr ls' n = cur V wr ls n
  | 0, _ => rfl
  | n + 1, h => by
    have ih := cur_congr n (fun j hj => h j (by omega))
    unfold cur
    cases hw : wr n with
    | true => rw [h n (by omega) hw, ih]
    | false => rw [Bool.and_false, Bool.and_false, ih]
end cur

/-- What a step touches: slots and blocks, as bits; of them what it writes; the steps ahead of it. -/
structure Row where
  tS : Nat
  wS : Nat
  tB : Nat
  wB : Nat
  an : Nat
def Row.clash (s r : Row) : Nat := (s.wS &&& r.tS) ||| (s.tS &&& r.wS) ||| (s.wB &&& r.tB) ||| (s.tB &&& r.wB)
def okAgainst (r : Row) : List Row → Nat → Bool
  | [], _ => true
  | s :: l, i => (Nat.beq (s.clash r) 0 || Nat.testBit r.an i) && okAgainst r l (i + 1)
def okRows : List Row → List Row → Bool
  | _, [] => true
  | prev, r :: rest => okAgainst r prev 0 && (Nat.beq (r.tS ||| r.wS) r.tS && Nat.beq (r.tB ||| r.wB) r.tB) && okRows (prev ++ [r]) rest
theorem okAgainst_spec {r : Row} : ∀ {l : List Row} {i : Nat}, okAgainst r l i = true → ∀ k s, l[k]? = some s → s.clash r = 0 ∨ r.an.testBit (i + k) = true
  | [], _, _, k, s, hs => by simp at hs
  | s0 :: l, i, h, k, s, hs => by
    simp only [okAgainst, Bool.and_eq_true, Bool.or_eq_true] at h
    cases k with
    | zero =>
      obtain rfl : s0 = s := by simpa using hs
      rcases h.1 with h | h
      · exact .inl (Nat.eq_of_beq_eq_true h)
      · exact .inr h
    | succ k =>
      have := okAgainst_spec h.2 k s (by simpa using hs)
      rwa [show i + 1 + k = i + (k + 1) by omega] at this
theorem okRows_spec : ∀ {rest prev : List Row}, okRows prev rest = true →
    ∀ j r, rest[j]? = some r → (∀ i s, i < prev.length + j → (prev ++ rest)[i]? = some s → s.clash r = 0 ∨ r.an.testBit i = true) ∧ r.tS ||| r.wS = r.tS ∧ r.tB ||| r.wB = r.tB
  | [], _, _, j, r, hr => by simp at hr
  | r0 :: rest, prev, h, j, r, hr => by
    simp only [okRows, Bool.and_eq_true] at h
    cases j with
    | zero =>
      obtain rfl : r0 = r := by simpa using hr
      refine ⟨fun i s hi hs => ?_, Nat.eq_of_beq_eq_true h.1.2.1, Nat.eq_of_beq_eq_true h.1.2.2⟩
      rw [List.getElem?_append_left (by omega)] at hs
      have := okAgainst_spec h.1.1 i s hs
      rwa [Nat.zero_add] at this
    | succ j =>
      have ih := okRows_spec h.2 j r (by simpa using hr)
      refine ⟨fun i s hi hs => ih.1 i s (by simp; omega) (by simpa using hs), ih.2⟩

def ancOf (acc : List Nat) (o : Oper) : Nat := o.after.toList.foldl (fun s e => if Region.binds .any e then s ||| (1 <<< e.on) ||| acc.getD e.on 0 else s) 0
theorem anc_fold {acc : List Nat} {i : Nat} : ∀ (l : List Edge) (s : Nat), (l.foldl (fun s e => if Region.binds .any e then s ||| (1 <<< e.on) ||| acc.getD e.on 0 else s) s).testBit i = true →
    s.testBit i = true ∨ ∃ e ∈ l, Region.binds .any e = true ∧ (e.on = i ∨ (acc.getD e.on 0).testBit i = true)
  | [], s, h => .inl h
  | e :: l, s, h => by
    rw [List.foldl_cons] at h
    rcases anc_fold l _ h with h | ⟨e', he, hb, hx⟩
    · split at h
      · rename_i hb
        rw [Nat.testBit_or, Nat.testBit_or, Bool.or_eq_true, Bool.or_eq_true] at h
        rcases h with (h | h) | h
        · exact .inl h
        · refine .inr ⟨e, by simp, hb, .inl ?_⟩
          rw [Nat.one_shiftLeft, Nat.testBit_two_pow] at h
          exact of_decide_eq_true h
        · exact .inr ⟨e, by simp, hb, .inr h⟩
      · exact .inl h
    · exact .inr ⟨e', by simp [he], hb, hx⟩
/-- The steps ahead are as told, and stand ahead in the text. -/
def okAnc : List Nat → List Oper → List Row → Bool
  | acc, o :: ops, r :: rows => Nat.beq r.an (ancOf acc o) && (o.after.all fun e => !Region.binds .any e || Nat.blt e.on acc.length) && okAnc (acc ++ [r.an]) ops rows
  | _, [], [] => true
  | _, _, _ => false
theorem okAnc_spec : ∀ {ops : List Oper} {rows : List Row} {acc : List Nat}, okAnc acc ops rows = true → ops.length = rows.length ∧ ∀ j o r, ops[j]? = some o → rows[j]? = some r →
    (∀ i, r.an.testBit i = true → ∃ e ∈ o.after.toList, Region.binds .any e = true ∧ (e.on = i ∨ ((acc ++ rows.map (·.an)).getD e.on 0).testBit i = true)) ∧ (∀ e ∈ o.after, Region.binds .any e = true → e.on < acc.length + j)
  | [], [], _, _ => ⟨rfl, fun j o r h => by simp at h⟩
  | [], _ :: _, _, h => by simp [okAnc] at h
  | _ :: _, [], _, h => by simp [okAnc] at h
  | o0 :: ops, r0 :: rows, acc, h => by
    simp only [okAnc, Bool.and_eq_true] at h
    obtain ⟨⟨h1, h2⟩, h3⟩ := h
    obtain ⟨ihl, ih⟩ := okAnc_spec h3
    refine ⟨by simp [ihl], fun j o r ho hr => ?_⟩
    cases j with
    | zero =>
      obtain rfl : o0 = o := by simpa using ho
      obtain rfl : r0 = r := by simpa using hr
      have hlow : ∀ e ∈ o0.after, Region.binds .any e = true → e.on < acc.length := fun e he hb => by
        rw [Array.all_eq_true] at h2
        obtain ⟨k, hk, rfl⟩ := Array.mem_iff_getElem.1 he
        have := h2 k hk
        rw [hb] at this
        simp only [Nat.blt, Bool.not_true, Bool.false_or] at this
        exact Nat.le_of_ble_eq_true this
      refine ⟨fun i hi => ?_, hlow⟩
      rw [Nat.eq_of_beq_eq_true h1] at hi
      rcases anc_fold _ _ hi with hz | ⟨e, he, hb, hx⟩
      · simp at hz
      · refine ⟨e, he, hb, hx.imp id fun h => ?_⟩
        have hl := hlow e (by simpa using he) hb
        rw [List.getD_eq_getElem?_getD, List.getElem?_append_left hl, ← List.getD_eq_getElem?_getD]
        exact h
    | succ j =>
      obtain ⟨i1, i2⟩ := ih j o r (by simpa using ho) (by simpa using hr)
      refine ⟨fun i hi => ?_, fun e he hb => by have := i2 e he hb; simp at this; omega⟩
      obtain ⟨e, he, hb, hx⟩ := i1 i hi
      exact ⟨e, he, hb, by simpa using hx⟩

theorem unl {listed : Array Bool} {i : Nat} (h : listed.getD i true = false) : listed.getD i false = false ∧ i < listed.size := by
  rw [Array.getD_eq_getD_getElem?] at *
  by_cases hi : i < listed.size
  · rw [Array.getElem?_eq_getElem hi] at *; exact ⟨h, hi⟩
  · rw [Array.getElem?_eq_none (by omega)] at h; cases h
theorem un2 {listed : Array Bool} {i : Nat} (hi : i < listed.size) (h : ¬ listed.getD i false = true) : listed.getD i true = false := by
  rw [Array.getD_eq_getD_getElem?] at *
  rw [Array.getElem?_eq_getElem hi] at *
  simpa using h
theorem set_get {listed : Array Bool} {i j : Nat} : (listed.setIfInBounds i true).getD j false = if j = i ∧ i < listed.size then true else listed.getD j false := by
  rw [Array.getD_eq_getD_getElem?, Array.getElem?_setIfInBounds, Array.getD_eq_getD_getElem?]
  by_cases h : j = i
  · subst h
    by_cases hj : j < listed.size
    · simp [hj]
    · simp [hj]
  · rw [if_neg (by omega), if_neg (by simp [h])]
theorem mem_ready {md : Region.Mode} {ops : Array Oper} {listed : Array Bool} {i : Nat} :
    i ∈ Region.ready md ops listed ↔ listed.getD i true = false ∧ ∃ o, ops[i]? = some o ∧ ∀ e ∈ o.after, Region.binds md e = true → listed.getD e.on false = true := by
  unfold Region.ready
  rw [List.mem_filter, List.mem_range]
  constructor
  · rintro ⟨hi, h⟩
    simp only [Bool.and_eq_true, Bool.not_eq_true'] at h
    refine ⟨h.1, ops[i], by simp [hi], fun e he hb => ?_⟩
    have h2 := h.2
    rw [Array.getElem?_eq_getElem hi] at h2
    simp only [Option.map_some, Option.getD_some, Array.all_eq_true] at h2
    obtain ⟨k, hk, rfl⟩ := Array.mem_iff_getElem.1 he
    have := h2 k hk
    rw [hb] at this
    simpa using this
  · rintro ⟨h1, o, ho, h2⟩
    refine ⟨(Array.getElem?_eq_some_iff.1 ho).1, ?_⟩
    simp only [Bool.and_eq_true, Bool.not_eq_true']
    refine ⟨h1, ?_⟩
    rw [ho]
    simp only [Option.map_some, Option.getD_some, Array.all_eq_true]
    intro k hk
    cases hb : Region.binds md o.after[k] with
    | true => simpa using h2 _ (Array.getElem_mem hk) hb
    | false => rfl
theorem ready_none {ops : List Oper} {listed : Array Bool} (hls : listed.size = ops.length) (hlow : ∀ i o, ops[i]? = some o → ∀ e ∈ o.after, Region.binds .any e = true → e.on < i)
    (h : Region.ready .any ops.toArray listed = []) : ∀ i, i < ops.length → listed.getD i false = true := by
  intro i
  induction i using Nat.strongRecOn with
  | _ i ih =>
    intro hi
    by_cases hl : listed.getD i false = true
    · exact hl
    · exfalso
      have hm : i ∈ Region.ready .any ops.toArray listed := mem_ready.2 ⟨un2 (by omega) hl, ops[i], by simp [hi], fun e he hb => by
        have := hlow i ops[i] (List.getElem?_eq_getElem hi) e he hb
        exact ih e.on this (by omega)⟩
      rw [h] at hm; cases hm
theorem cnt_set {listed : Array Bool} {i : Nat} (h : listed.getD i true = false) : (listed.setIfInBounds i true).toList.count false + 1 = listed.toList.count false := by
  have hi : i < listed.size := (unl h).2
  have hv : listed.toList[i]'(by simpa using hi) = false := by
    rw [Array.getD_eq_getD_getElem?, Array.getElem?_eq_getElem hi] at h; simpa using h
  rw [Array.toList_setIfInBounds]
  have e : listed.toList = listed.toList.take i ++ false :: listed.toList.drop (i + 1) := by
    conv => lhs; rw [← List.take_append_drop i listed.toList, List.drop_eq_getElem_cons (by simpa using hi), hv]
  have e2 : listed.toList.set i true = listed.toList.take i ++ true :: listed.toList.drop (i + 1) := List.set_eq_take_append_cons_drop.trans (by rw [if_pos (by simpa using hi)])
  rw [e2]
  conv => rhs; rw [e]
  simp only [List.count_append, List.count_cons]
  simp; omega

section
variable {P : Program} {ops : List Oper} {rows : List Row} {Q : Exit → Act → World → Prop} {α β Γ : Type} {HS : Γ → Nat → α → Act → Prop} {HB : Γ → Nat → β → World → Prop} {G : Γ → Act → World → Prop} {VS : Nat → Nat → α} {VB : Nat → Nat → β}
def lsOf (listed : Array Bool) (j : Nat) : Bool := listed.getD j false
/-- Where the steps of listed are done. -/
structure J (ops : List Oper) (rows : List Row) (HS : Γ → Nat → α → Act → Prop) (HB : Γ → Nat → β → World → Prop) (G : Γ → Act → World → Prop) (VS : Nat → Nat → α) (VB : Nat → Nat → β) (γ : Γ) (listed : Array Bool) (a : Act) (w : World) : Prop where
  sz : listed.size = ops.length
  clo : ∀ j o, ops[j]? = some o → listed.getD j false = true → ∀ e ∈ o.after, Region.binds .any e = true → listed.getD e.on false = true
  g : G γ a w
  s : ∀ t, HS γ t (cur (VS · t) (fun i => (rows.getD i ⟨0, 0, 0, 0, 0⟩).wS.testBit t) (lsOf listed) ops.length) a
  b : ∀ t, HB γ t (cur (VB · t) (fun i => (rows.getD i ⟨0, 0, 0, 0, 0⟩).wB.testBit t) (lsOf listed) ops.length) w
theorem clash_bits {s r : Row} (h : s.clash r = 0) (t : Nat) : ¬ (s.wS.testBit t = true ∧ r.tS.testBit t = true) ∧ ¬ (s.tS.testBit t = true ∧ r.wS.testBit t = true) ∧ ¬ (s.wB.testBit t = true ∧ r.tB.testBit t = true) ∧ ¬ (s.tB.testBit t = true ∧ r.wB.testBit t = true) := by
  have h' : (s.clash r).testBit t = false := by rw [h, Nat.zero_testBit]
  unfold Row.clash at h'
  simp only [Nat.testBit_or, Nat.testBit_and, Bool.or_eq_false_iff] at h'
  obtain ⟨⟨⟨h1, h2⟩, h3⟩, h4⟩ := h'
  refine ⟨fun ⟨x, y⟩ => ?_, fun ⟨x, y⟩ => ?_, fun ⟨x, y⟩ => ?_, fun ⟨x, y⟩ => ?_⟩ <;> simp_all
theorem anc_listed (hanc : okAnc [] ops rows = true) {listed : Array Bool} (clo : ∀ j o, ops[j]? = some o → listed.getD j false = true → ∀ e ∈ o.after, Region.binds .any e = true → listed.getD e.on false = true) :
    ∀ (j : Nat) (o : Oper) (r : Row) (i : Nat), ops[j]? = some o → rows[j]? = some r → (∀ e ∈ o.after, Region.binds .any e = true → listed.getD e.on false = true) → r.an.testBit i = true → listed.getD i false = true := by
  intro j
  induction j using Nat.strongRecOn with
  | _ j ih =>
    intro o r i ho hr haf hi
    obtain ⟨_, hspec⟩ := okAnc_spec hanc
    obtain ⟨h1, h2⟩ := hspec j o r ho hr
    obtain ⟨e, he, hb, hx⟩ := h1 i hi
    have hl := haf e (by simpa using he) hb
    rcases hx with rfl | hx
    · exact hl
    · have hlt : e.on < j := by have := h2 e (by simpa using he) hb; simpa using this
      rw [List.nil_append, List.getD_eq_getElem?_getD, List.getElem?_map] at hx
      cases hr2 : rows[e.on]? with
      | none => rw [hr2] at hx; simp at hx
      | some r2 =>
        rw [hr2] at hx
        have hlen := (okAnc_spec hanc).1
        obtain ⟨o2, ho2⟩ : ∃ o2, ops[e.on]? = some o2 := ⟨_, List.getElem?_eq_getElem (by have := (List.getElem?_eq_some_iff.1 hr2).1; omega)⟩
        exact ih e.on hlt o2 r2 i ho2 hr2 (clo _ o2 ho2 hl) (by simpa using hx)
/-- One step more. -/
theorem J.step (hrows : okRows [] rows = true) (hanc : okAnc [] ops rows = true)
    (consS : ∀ j r t, rows[j]? = some r → r.wS.testBit t = false → VS (j + 1) t = VS j t) (consB : ∀ j r t, rows[j]? = some r → r.wB.testBit t = false → VB (j + 1) t = VB j t)
    {γ : Γ} {listed : Array Bool} {a : Act} {w : World} (hJ : J ops rows HS HB G VS VB γ listed a w) {i : Nat} (hi : i ∈ Region.ready .any ops.toArray listed) {K : Act → World → Prop}
    (hop : ∀ o r, ops[i]? = some o → rows[i]? = some r → G γ a w → (∀ t, r.tS.testBit t = true → HS γ t (VS i t) a) → (∀ t, r.tB.testBit t = true → HB γ t (VB i t) w) →
      ∀ K : Act → World → Prop, (∀ γ' a' w', G γ' a' w' → (∀ t, r.wS.testBit t = true → HS γ' t (VS (i + 1) t) a') → (∀ t, r.wB.testBit t = true → HB γ' t (VB (i + 1) t) w') →
        (∀ t x, r.wS.testBit t = false → HS γ t x a → HS γ' t x a') → (∀ t x, r.wB.testBit t = false → HB γ t x w → HB γ' t x w') → K a' w') → wpOp P ops.toArray Q i K a w)
    (hK : ∀ γ' a' w', J ops rows HS HB G VS VB γ' (listed.setIfInBounds i true) a' w' → K a' w') : wpOp P ops.toArray Q i K a w := by
  obtain ⟨hun, o, ho, haf⟩ := mem_ready.1 hi
  have ho' : ops[i]? = some o := by simpa using ho
  have hin : i < ops.length := (List.getElem?_eq_some_iff.1 ho').1
  obtain ⟨hlen, hlow⟩ := okAnc_spec hanc
  obtain ⟨r, hr⟩ : ∃ r, rows[i]? = some r := ⟨_, List.getElem?_eq_getElem (by omega)⟩
  have hrD : ∀ j r', rows[j]? = some r' → rows.getD j ⟨0, 0, 0, 0, 0⟩ = r' := fun j r' h => by rw [List.getD_eq_getElem?_getD, h]; rfl
  have rowAt : ∀ j, j < ops.length → ∃ r', rows[j]? = some r' := fun j hj => ⟨_, List.getElem?_eq_getElem (by omega)⟩
  have hli : lsOf listed i = false := (unl hun).1
  -- steps that clash: those ahead are done, those behind are not
  have ahead : ∀ j s, j < i → rows[j]? = some s → s.clash r ≠ 0 → lsOf listed j = true := fun j s hj hs hc => by
    rcases (okRows_spec hrows i r hr).1 j s (by simpa using hj) (by simpa using hs) with h | h
    · exact absurd h hc
    · exact anc_listed hanc hJ.clo i o r j ho' hr haf h
  have behind : ∀ j s, i < j → rows[j]? = some s → r.clash s ≠ 0 → lsOf listed j = false := fun j s hj hs hc => by
    cases hlj : lsOf listed j with
    | false => rfl
    | true =>
      obtain ⟨oj, hoj⟩ : ∃ oj, ops[j]? = some oj := ⟨_, List.getElem?_eq_getElem (by have := (List.getElem?_eq_some_iff.1 hs).1; omega)⟩
      rcases (okRows_spec hrows j s hs).1 i r (by simpa using hj) (by simpa using hr) with h | h
      · exact absurd h hc
      · have := anc_listed hanc hJ.clo j oj s i hoj hs (hJ.clo j oj hoj hlj) h
        rw [(unl hun).1] at this; cases this
  have subS : ∀ t, r.wS.testBit t = true → r.tS.testBit t = true := fun t ht => by
    have := (okRows_spec hrows i r hr).2.1
    rw [← this, Nat.testBit_or, ht, Bool.or_true]
  have subB : ∀ t, r.wB.testBit t = true → r.tB.testBit t = true := fun t ht => by
    have := (okRows_spec hrows i r hr).2.2
    rw [← this, Nat.testBit_or, ht, Bool.or_true]
  have curS : ∀ t, r.tS.testBit t = true → cur (VS · t) (fun i => (rows.getD i ⟨0, 0, 0, 0, 0⟩).wS.testBit t) (lsOf listed) ops.length = VS i t := fun t ht => by
    rw [cur_high (i := i) ops.length (by omega) (fun j h1 h2 h3 => ?_), cur_low i (fun j hj hw => ?_) (fun j hj hw => ?_)]
    · obtain ⟨s, hs⟩ := rowAt j (by omega)
      exact consS j s t hs (by rw [hrD j s hs] at hw; exact hw)
    · obtain ⟨s, hs⟩ := rowAt j (by omega)
      rw [hrD j s hs] at hw
      exact ahead j s hj hs fun hc => (clash_bits hc t).1 ⟨hw, ht⟩
    · obtain ⟨s, hs⟩ := rowAt j h2
      rw [hrD j s hs] at h3
      by_cases e : j = i
      · rw [e]; exact hli
      · exact behind j s (by omega) hs fun hc => (clash_bits hc t).2.1 ⟨ht, h3⟩
  have curB : ∀ t, r.tB.testBit t = true → cur (VB · t) (fun i => (rows.getD i ⟨0, 0, 0, 0, 0⟩).wB.testBit t) (lsOf listed) ops.length = VB i t := fun t ht => by
    rw [cur_high (i := i) ops.length (by omega) (fun j h1 h2 h3 => ?_), cur_low i (fun j hj hw => ?_) (fun j hj hw => ?_)]
    · obtain ⟨s, hs⟩ := rowAt j (by omega)
      exact consB j s t hs (by rw [hrD j s hs] at hw; exact hw)
    · obtain ⟨s, hs⟩ := rowAt j (by omega)
      rw [hrD j s hs] at hw
      exact ahead j s hj hs fun hc => (clash_bits hc t).2.2.1 ⟨hw, ht⟩
    · obtain ⟨s, hs⟩ := rowAt j h2
      rw [hrD j s hs] at h3
      by_cases e : j = i
      · rw [e]; exact hli
      · exact behind j s (by omega) hs fun hc => (clash_bits hc t).2.2.2 ⟨ht, h3⟩
  have lsSet : ∀ j, lsOf (listed.setIfInBounds i true) j = if j = i then true else lsOf listed j := fun j => by
    unfold lsOf
    rw [set_get]
    by_cases h : j = i
    · rw [if_pos ⟨h, (unl hun).2⟩, if_pos h]
    · rw [if_neg (fun x => h x.1), if_neg h]
  have newS : ∀ t, r.wS.testBit t = true → cur (VS · t) (fun i => (rows.getD i ⟨0, 0, 0, 0, 0⟩).wS.testBit t) (lsOf (listed.setIfInBounds i true)) ops.length = VS (i + 1) t := fun t ht => by
    rw [cur_high (i := i + 1) ops.length (by omega) (fun j h1 h2 h3 => ?_)]
    · conv => lhs; unfold cur
      rw [lsSet, if_pos rfl, hrD i r hr, ht]; rfl
    · obtain ⟨s, hs⟩ := rowAt j h2
      rw [hrD j s hs] at h3
      rw [lsSet, if_neg (by omega)]
      exact behind j s (by omega) hs fun hc => (clash_bits hc t).2.1 ⟨subS t ht, h3⟩
  have newB : ∀ t, r.wB.testBit t = true → cur (VB · t) (fun i => (rows.getD i ⟨0, 0, 0, 0, 0⟩).wB.testBit t) (lsOf (listed.setIfInBounds i true)) ops.length = VB (i + 1) t := fun t ht => by
    rw [cur_high (i := i + 1) ops.length (by omega) (fun j h1 h2 h3 => ?_)]
    · conv => lhs; unfold cur
      rw [lsSet, if_pos rfl, hrD i r hr, ht]; rfl
    · obtain ⟨s, hs⟩ := rowAt j h2
      rw [hrD j s hs] at h3
      rw [lsSet, if_neg (by omega)]
      exact behind j s (by omega) hs fun hc => (clash_bits hc t).2.2.2 ⟨subB t ht, h3⟩
  have sameS : ∀ t, r.wS.testBit t = false → cur (VS · t) (fun i => (rows.getD i ⟨0, 0, 0, 0, 0⟩).wS.testBit t) (lsOf (listed.setIfInBounds i true)) ops.length = cur (VS · t) (fun i => (rows.getD i ⟨0, 0, 0, 0, 0⟩).wS.testBit t) (lsOf listed) ops.length := fun t ht =>
    cur_congr _ fun j hj hw => by
      rw [lsSet, if_neg]
      rintro rfl
      rw [hrD j r hr, ht] at hw; cases hw
  have sameB : ∀ t, r.wB.testBit t = false → cur (VB · t) (fun i => (rows.getD i ⟨0, 0, 0, 0, 0⟩).wB.testBit t) (lsOf (listed.setIfInBounds i true)) ops.length = cur (VB · t) (fun i => (rows.getD i ⟨0, 0, 0, 0, 0⟩).wB.testBit t) (lsOf listed) ops.length := fun t ht =>
    cur_congr _ fun j hj hw => by
      rw [lsSet, if_neg]
      rintro rfl
      rw [hrD j r hr, ht] at hw; cases hw
  refine hop o r ho' hr hJ.g (fun t ht => by have := hJ.s t; rwa [curS t ht] at this) (fun t ht => by have := hJ.b t; rwa [curB t ht] at this) K fun γ' a' w' hG h1 h2 h3 h4 => hK γ' a' w' ⟨?_, ?_, hG, fun t => ?_, fun t => ?_⟩
  · rw [Array.size_setIfInBounds]; exact hJ.sz
  · intro j oj hoj hlj e he hb
    have hl2 := lsSet j
    have hup : ∀ k, listed.getD k false = true → (listed.setIfInBounds i true).getD k false = true := fun k hk => by
      have := lsSet k
      unfold lsOf at this
      rw [this]; split
      · rfl
      · exact hk
    by_cases h : j = i
    · subst h
      rw [ho'] at hoj
      cases hoj
      exact hup _ (haf e he hb)
    · unfold lsOf at hl2
      rw [if_neg h, hlj] at hl2
      exact hup _ (hJ.clo j oj hoj hl2.symm e he hb)
  · cases ht : r.wS.testBit t with
    | true => rw [newS t ht]; exact h1 t ht
    | false => rw [sameS t ht]; exact h3 t _ ht (hJ.s t)
  · cases ht : r.wB.testBit t with
    | true => rw [newB t ht]; exact h2 t ht
    | false => rw [sameB t ht]; exact h4 t _ ht (hJ.b t)
/-- **A region that draws its order is walked in the order of the text**, where what clashes stands in one order. -/
theorem wp_region_rows {id : Nat} {γ : Γ} {a : Act} {w : World} (hm : P.follows .mixedOrders = true) (hrows : okRows [] rows = true) (hanc : okAnc [] ops rows = true)
    (consS : ∀ j r t, rows[j]? = some r → r.wS.testBit t = false → VS (j + 1) t = VS j t) (consB : ∀ j r t, rows[j]? = some r → r.wB.testBit t = false → VB (j + 1) t = VB j t)
    (hop : ∀ i o r, ops[i]? = some o → rows[i]? = some r → ∀ γ a w, G γ a w → (∀ t, r.tS.testBit t = true → HS γ t (VS i t) a) → (∀ t, r.tB.testBit t = true → HB γ t (VB i t) w) →
      ∀ K : Act → World → Prop, (∀ γ' a' w', G γ' a' w' → (∀ t, r.wS.testBit t = true → HS γ' t (VS (i + 1) t) a') → (∀ t, r.wB.testBit t = true → HB γ' t (VB (i + 1) t) w') →
        (∀ t x, r.wS.testBit t = false → HS γ t x a → HS γ' t x a') → (∀ t x, r.wB.testBit t = false → HB γ t x w → HB γ' t x w') → K a' w') → wpOp P ops.toArray Q i K a w)
    (hG : G γ a { w with drawn := w.drawn + 1 }) (h0S : ∀ t, HS γ t (VS 0 t) a) (h0B : ∀ t, HB γ t (VB 0 t) { w with drawn := w.drawn + 1 })
    (hQ : ∀ γ' a' w', G γ' a' w' → (∀ t, HS γ' t (VS ops.length t) a') → (∀ t, HB γ' t (VB ops.length t) w') → Q .normal a' w') : (Code.region id ops.toArray true).wp P Q a w := by
  obtain ⟨hlen, hspec⟩ := okAnc_spec hanc
  have hlow : ∀ i o, ops[i]? = some o → ∀ e ∈ o.after, Region.binds .any e = true → e.on < i := fun i o ho e he hb => by
    obtain ⟨r, hr⟩ : ∃ r, rows[i]? = some r := ⟨_, List.getElem?_eq_getElem (by have := (List.getElem?_eq_some_iff.1 ho).1; omega)⟩
    have := (hspec i o r ho hr).2 e he hb
    simpa using this
  have hend : ∀ γ listed a w, (∀ i, i < ops.length → listed.getD i false = true) → J ops rows HS HB G VS VB γ listed a w → Q .normal a w := fun γ listed a w hall hJ => by
    have hrD : ∀ j r', rows[j]? = some r' → rows.getD j ⟨0, 0, 0, 0, 0⟩ = r' := fun j r' h => by rw [List.getD_eq_getElem?_getD, h]; rfl
    have rowAt : ∀ j, j < ops.length → ∃ r', rows[j]? = some r' := fun j hj => ⟨_, List.getElem?_eq_getElem (by omega)⟩
    refine hQ γ a w hJ.g (fun t => ?_) (fun t => ?_)
    · have := hJ.s t
      rwa [cur_low ops.length (fun j hj hw => ?_) (fun j hj _ => show lsOf listed j = true from hall j hj)] at this
      obtain ⟨s, hs⟩ := rowAt j hj
      exact consS j s t hs (by rw [hrD j s hs] at hw; exact hw)
    · have := hJ.b t
      rwa [cur_low ops.length (fun j hj hw => ?_) (fun j hj _ => show lsOf listed j = true from hall j hj)] at this
      obtain ⟨s, hs⟩ := rowAt j hj
      exact consB j s t hs (by rw [hrD j s hs] at hw; exact hw)
  have key : ∀ (fuel : Nat) (γ : Γ) (listed : Array Bool) (a : Act) (w : World), listed.toList.count false = fuel → J ops rows HS HB G VS VB γ listed a w → wpAny P .any ops.toArray Q fuel listed a w := by
    intro fuel
    induction fuel with
    | zero =>
      intro γ listed a w hc hJ
      have hall : ∀ i, i < ops.length → listed.getD i false = true := fun i hi => by
        by_cases h : listed.getD i false = true
        · exact h
        · have := cnt_set (un2 (by rw [hJ.sz]; exact hi) h); omega
      refine ⟨?_, hend _ _ _ _ hall hJ⟩
      rw [List.eq_nil_iff_forall_not_mem]
      intro i hi
      have h1 := (mem_ready.1 hi).1
      have h2 := cnt_set h1
      omega
    | succ fuel ih =>
      intro γ listed a w hc hJ
      refine ⟨fun h => hend _ _ _ _ (ready_none hJ.sz hlow h) hJ, fun i hi => ?_⟩
      refine J.step hrows hanc consS consB hJ hi (fun o r ho hr => hop i o r ho hr γ a w) fun γ' a' w' hJ' => ih γ' _ a' w' ?_ hJ'
      have := cnt_set (mem_ready.1 hi).1; omega
  have hno : ∀ i, (Array.replicate ops.length false).getD i false = false := fun i => by
    rw [Array.getD_eq_getD_getElem?, Array.getElem?_replicate]; split <;> rfl
  have hz : ∀ {γ : Type} (V : Nat → γ) (wr : Nat → Bool) n, cur V wr (lsOf (Array.replicate ops.length false)) n = V 0 := fun V wr n => by
    induction n with
    | zero => rfl
    | succ n ih => unfold cur; rw [show lsOf (Array.replicate ops.length false) n = false from hno n, Bool.false_and, if_neg (by simp)]; exact ih
  refine wp_region_any hm ?_
  rw [List.size_toArray]
  refine key _ γ _ a _ (by simp) ⟨by simp, (fun j o _ h => by rw [hno] at h; cases h), hG, fun t => ?_, fun t => ?_⟩
  · rw [hz]; exact h0S t
  · rw [hz]; exact h0B t
end
end Go.Sx
