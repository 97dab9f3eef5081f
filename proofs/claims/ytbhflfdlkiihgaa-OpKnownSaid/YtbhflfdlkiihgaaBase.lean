/- Plain words for slices in memory: a slice that reads as a list of cells (Sl), one that the call itself owns and may append to (Own), what a step leaves as it was (Fr); the law of append over them. No condition. -/
import Derived.WalkKit
import Derived.WalkSpells
import Derived.Deep.AppendSrc
import Derived.Deep.QuietTactic
import Derived.BigQuiet
import Derived.Outline
import Derived.Lib.Hide
import Derived.Laws.BitsAllLaws
import Derived.Deep.DeepMust
namespace Go.Bx
open Go Go.RowKit

/-- A number is one of 64 bits. (A structure: the walk's 'contradiction' opens a plain definition, and does not bear the long numerals.) -/
structure I64 (v : Int) : Prop where
  lo : -9223372036854775808 ≤ v
  hi : v ≤ 9223372036854775807
/-- A length lies far below what memory bears. -/
structure Fits (n : Nat) : Prop where
  ok : n ≤ 140737488355328
/-- A fact kept from the walk. -/
structure Held (p : Prop) : Prop where
  out : p
theorem Fits.le {a b : Nat} (h : Fits b) (hab : a ≤ b) : Fits a := ⟨Nat.le_trans hab h.ok⟩
theorem Fits.max {a : Nat} (h : Fits a) : a ≤ maxLen := by have := h.ok; unfold maxLen; omega
theorem Fits.mul {a : Nat} (h : Fits a) : a * 1 ≤ 140737488355328 := by have := h.ok; omega

def bv (b : UInt8) : Value := .int .u8 (b.toNat : Int)
def bvs (l : List UInt8) : List Value := l.map bv
def i64s (l : List Int) : List Value := l.map (Value.int .i64)

theorem bvs_length (l : List UInt8) : (bvs l).length = l.length := by simp [bvs]
theorem bvs_append (a b : List UInt8) : bvs (a ++ b) = bvs a ++ bvs b := by simp [bvs]
theorem bvs_one (l : List UInt8) : ∀ u ∈ bvs l, u.oneCell' = true := by
  intro u hu; obtain ⟨_, _, rfl⟩ := List.mem_map.1 hu; rfl
theorem bvs_get (l : List UInt8) (j : Nat) (h : j < l.length) : (bvs l)[j]? = some (bv l[j]) := by simp [bvs, h]

theorem bv_ofNat (n : Nat) (h : n < 256) : bv (UInt8.ofNat n) = .int .u8 (n : Int) := by
  unfold bv; rw [UInt8.toNat_ofNat', Nat.mod_eq_of_lt h]
theorem bv_ofInt (x : Int) (h0 : 0 ≤ x) (h : x < 256) : Value.int .u8 x = bv (UInt8.ofNat x.toNat) := by
  rw [bv_ofNat _ (by omega), Int.toNat_of_nonneg h0]
theorem bvs_snoc (l : List UInt8) (b : UInt8) : bvs l ++ [bv b] = bvs (l ++ [b]) := by simp [bvs]
/-- What a step leaves as it was: all old blocks but those in S. -/
structure Fr (S : Nat → Prop) (w w' : World) : Prop where
  os : w'.os = w.os
  tape : w'.tape = w.tape
  output : w'.output = w.output
  size : w.heap.size ≤ w'.heap.size
  block : ∀ k, k < w.heap.size → ¬ S k → w'.heap[k]? = w.heap[k]?

theorem Fr.refl (S : Nat → Prop) (w : World) : Fr S w w := ⟨rfl, rfl, rfl, Nat.le_refl _, fun _ _ _ => rfl⟩
theorem Fr.trans {S : Nat → Prop} {a b c : World} (h : Fr S a b) (k : Fr S b c) : Fr S a c :=
  ⟨k.os.trans h.os, k.tape.trans h.tape, k.output.trans h.output, Nat.le_trans h.size k.size,
   fun i hi hs => (k.block i (Nat.lt_of_lt_of_le hi h.size) hs).trans (h.block i hi hs)⟩
/-- Steps behind one another: what each may write beyond a's blocks counts for nothing. -/
theorem Fr.trans' {S T : Nat → Prop} {a b c : World} (h : Fr S a b) (k : Fr T b c) (hT : ∀ i, i < a.heap.size → T i → S i) : Fr S a c :=
  ⟨k.os.trans h.os, k.tape.trans h.tape, k.output.trans h.output, Nat.le_trans h.size k.size,
   fun i hi hs => (k.block i (Nat.lt_of_lt_of_le hi h.size) (fun ht => hs (hT i hi ht))).trans (h.block i hi hs)⟩
theorem Fr.mono {S T : Nat → Prop} {a b : World} (h : Fr S a b) (hT : ∀ i, i < a.heap.size → S i → T i) : Fr T a b :=
  ⟨h.os, h.tape, h.output, h.size, fun i hi hs => h.block i hi fun x => hs (hT i hi x)⟩
theorem Fr.ofBelow {w w' : World} (h : Below w.heap.size w w') (S : Nat → Prop) : Fr S w w' :=
  ⟨h.os, h.tape, h.output, h.size, fun k hk _ => h.block k hk⟩
theorem Fr.below {S : Nat → Prop} {B : Nat} {w w' : World} (h : Fr S w w') (hB : B ≤ w.heap.size) (hS : ∀ k, k < B → ¬ S k) : Below B w w' :=
  ⟨h.os, h.tape, h.output, h.size, fun k hk => h.block k (by omega) (hS k hk)⟩
theorem Fr.own {B : Nat} {Q : Nat → Prop} {a b : World} (h : Fr (fun k => B ≤ k ∧ Q k) a b) (hB : B ≤ a.heap.size) : Below B a b :=
  h.below hB fun _ hk hq => Nat.lt_irrefl _ (Nat.lt_of_lt_of_le hk hq.1)
theorem Fr.drew (S : Nat → Prop) (w : World) : Fr S w w.drew := ⟨rfl, rfl, rfl, Nat.le_refl _, fun _ _ _ => rfl⟩
theorem Fr.drewN (S : Nat → Prop) (w : World) (n : Nat) : Fr S w (w.drewN n) := ⟨rfl, rfl, rfl, Nat.le_refl _, fun _ _ _ => rfl⟩
theorem Fr.alloc (S : Nat → Prop) (w : World) (o : Obj) : Fr S w (w.alloc o) :=
  ⟨rfl, rfl, rfl, by simp, fun k hk _ => Below.heap_alloc _ _ _ hk⟩
theorem Fr.setCell {S : Nat → Prop} (w : World) {p : Addr} (hp : S p.block) (u : Value) : Fr S w (w.setCell p u) :=
  ⟨rfl, rfl, rfl, by simp [World.setCell], fun k _ hs => Below.heap_setCell _ _ _ _ (fun e => hs (e ▸ hp))⟩
theorem heap_setCells (g : Nat) : ∀ (vs : List Value) (o : Nat) (w : World),
    (w.setCells g o vs).os = w.os ∧ (w.setCells g o vs).tape = w.tape ∧ (w.setCells g o vs).output = w.output ∧ (w.setCells g o vs).heap.size = w.heap.size ∧
    ∀ k, k ≠ g → (w.setCells g o vs).heap[k]? = w.heap[k]?
  | [], _, _ => ⟨rfl, rfl, rfl, rfl, fun _ _ => rfl⟩
  | v :: vs, o, w => by
    obtain ⟨h1, h2, h3, h4, h5⟩ := heap_setCells g vs (o + 1) (w.setCell ⟨g, o, none⟩ v)
    refine ⟨h1, h2, h3, h4.trans (by simp [World.setCell]), fun k hk => (h5 k hk).trans (Below.heap_setCell _ _ _ _ hk)⟩
theorem Fr.setCells {S : Nat → Prop} (w : World) (g o : Nat) (vs : List Value) (hp : S g) : Fr S w (w.setCells g o vs) := by
  obtain ⟨h1, h2, h3, h4, h5⟩ := heap_setCells g vs o w
  exact ⟨h1, h2, h3, by omega, fun k _ hs => h5 k (fun e => hs (e ▸ hp))⟩
theorem Fr.cell {S : Nat → Prop} {w w' : World} (h : Fr S w w') {p : Addr} (hs : ¬ S p.block) {v : Value} (hc : w.cell? p = some v) : w'.cell? p = some v := by
  rw [World.cell?_of_block (w := w) (h.block p.block (block_lt_of_cell hc) hs)]; exact hc
theorem Fr.frozen {S : Nat → Prop} {w w' : World} (h : Fr S w w') {p : Addr} (hp : p.block < w.heap.size) (hs : ¬ S p.block) : w'.frozen? p = w.frozen? p :=
  World.frozen?_of_block (w := w) (h.block p.block hp hs)

/-- The slice v of n elements, sz cells each, reads as the cells xs. -/
def Sl (w : World) (sz : Nat) (v : Value) (n : Nat) (xs : List Value) : Prop :=
  xs.length = n * sz ∧ ∃ a cap, v = .slice a n cap ∧ n ≤ cap ∧ cap ≤ maxLen ∧ (a = none → cap = 0) ∧
    (n = 0 ∨ ∃ g o, a = some ⟨g, o, none⟩ ∧ g < w.heap.size ∧ ∀ j u, xs[j]? = some u → w.cell? ⟨g, o + j, none⟩ = some u)

/-- The slice v is the call's own (blocks from B on): it reads as xs, it may be appended to. -/
def Own (w : World) (B sz : Nat) (v : Value) (n : Nat) (xs : List Value) : Prop :=
  xs.length = n * sz ∧ ((n = 0 ∧ ∃ a : Option Addr, v = .slice a 0 0) ∨
    ∃ g o cap, v = .slice (some ⟨g, o, none⟩) n cap ∧ B ≤ g ∧ g < w.heap.size ∧ n ≤ cap ∧ cap ≤ maxLen ∧
      (∀ j u, xs[j]? = some u → w.cell? ⟨g, o + j, none⟩ = some u) ∧
      (∀ j, j < cap * sz → (w.cell? ⟨g, o + j, none⟩).isSome = true) ∧ (∀ j, j < cap * sz → w.frozen? ⟨g, o + j, none⟩ = false))

theorem Own.sl {w : World} {B sz : Nat} {v : Value} {n : Nat} {xs : List Value} (h : Own w B sz v n xs) : Sl w sz v n xs := by
  obtain ⟨hl, ⟨rfl, a, rfl⟩ | ⟨g, o, cap, rfl, _, hg, hn, hm, hc, _, _⟩⟩ := h
  · exact ⟨hl, a, 0, rfl, Nat.le_refl _, Nat.zero_le _, fun _ => rfl, .inl rfl⟩
  · exact ⟨hl, _, cap, rfl, hn, hm, (by intro h; cases h), .inr ⟨g, o, rfl, hg, hc⟩⟩
theorem Own.form {w : World} {B sz : Nat} {v : Value} {n : Nat} {xs : List Value} (h : Own w B sz v n xs) : ∃ a c, v = .slice a n c := by
  obtain ⟨_, ⟨rfl, a, rfl⟩ | ⟨g, o, cap, rfl, _⟩⟩ := h
  · exact ⟨a, 0, rfl⟩
  · exact ⟨_, cap, rfl⟩
theorem Sl.form {w : World} {sz : Nat} {v : Value} {n : Nat} {xs : List Value} (h : Sl w sz v n xs) : ∃ a c, v = .slice a n c := by
  obtain ⟨_, a, cap, rfl, _⟩ := h
  exact ⟨a, cap, rfl⟩
theorem Own.old {w : World} {B sz : Nat} {v : Value} {n : Nat} {xs : List Value} (h : Own w B sz v n xs) {g : Nat} (hg : v.ownBlock = some g) (hn : 0 < n) : B ≤ g := by
  obtain ⟨_, ⟨rfl, _⟩ | ⟨g', o, cap, rfl, hb, _⟩⟩ := h
  · omega
  · cases hg; exact hb
theorem Own.nil (w : World) (B sz : Nat) : Own w B sz (.slice none 0 0) 0 [] := ⟨by simp, .inl ⟨rfl, none, rfl⟩⟩
theorem Own.zero (w : World) (B sz g o : Nat) : Own w B sz (.slice (some ⟨g, o, none⟩) 0 0) 0 [] := ⟨by simp, .inl ⟨rfl, _, rfl⟩⟩
theorem Own.lower {w : World} {B B' sz : Nat} {v : Value} {n : Nat} {xs : List Value} (h : Own w B sz v n xs) (hB : B' ≤ B) : Own w B' sz v n xs := by
  obtain ⟨hl, h | ⟨g, o, cap, rfl, hb, r⟩⟩ := h
  · exact ⟨hl, .inl h⟩
  · exact ⟨hl, .inr ⟨g, o, cap, rfl, Nat.le_trans hB hb, r⟩⟩
/-- A step that does not write v's block. -/
theorem Own.fr {S : Nat → Prop} {w w' : World} {B sz : Nat} {v : Value} {n : Nat} {xs : List Value} (h : Own w B sz v n xs) (hf : Fr S w w') (hne : ∀ k, B ≤ k → v.ownBlock = some k → ¬ S k) : Own w' B sz v n xs := by
  obtain ⟨hl, h | ⟨g, o, cap, rfl, hb, hg, hn, hm, hc, hs, hz⟩⟩ := h
  · exact ⟨hl, .inl h⟩
  · have hns : ¬ S g := hne g hb rfl
    have hcell : ∀ j, w'.cell? ⟨g, j, none⟩ = w.cell? ⟨g, j, none⟩ := fun j => World.cell?_of_block (w := w) (hf.block g hg hns)
    have hfrz : ∀ j, w'.frozen? ⟨g, j, none⟩ = w.frozen? ⟨g, j, none⟩ := fun j => World.frozen?_of_block (w := w) (hf.block g hg hns)
    exact ⟨hl, .inr ⟨g, o, cap, rfl, hb, Nat.lt_of_lt_of_le hg hf.size, hn, hm, fun j u hj => by rw [hcell]; exact hc j u hj, fun j hj => by rw [hcell]; exact hs j hj, fun j hj => by rw [hfrz]; exact hz j hj⟩⟩
theorem Own.grow {w w' : World} {B sz : Nat} {v : Value} {n : Nat} {xs : List Value} (h : Own w B sz v n xs) (hf : Below w.heap.size w w') : Own w' B sz v n xs :=
  h.fr (Fr.ofBelow hf (fun _ => False)) (fun _ _ _ => id)
theorem Sl.fr {S : Nat → Prop} {w w' : World} {sz : Nat} {v : Value} {n : Nat} {xs : List Value} (h : Sl w sz v n xs) (hf : Fr S w w') (hne : 0 < n → ∀ k, k < w.heap.size → v.ownBlock = some k → ¬ S k) : Sl w' sz v n xs := by
  obtain ⟨hl, a, cap, rfl, hn, hm, h0, h | ⟨g, o, rfl, hg, hc⟩⟩ := h
  · exact ⟨hl, a, cap, rfl, hn, hm, h0, .inl h⟩
  · by_cases hz : n = 0
    · exact ⟨hl, _, cap, rfl, hn, hm, h0, .inl hz⟩
    have hns : ¬ S g := hne (by omega) g hg rfl
    exact ⟨hl, _, cap, rfl, hn, hm, h0, .inr ⟨g, o, rfl, Nat.lt_of_lt_of_le hg hf.size, fun j u hj => by
      rw [World.cell?_of_block (w := w) (a := ⟨g, o + j, none⟩) (hf.block g hg hns)]; exact hc j u hj⟩⟩
theorem Sl.grow {w w' : World} {sz : Nat} {v : Value} {n : Nat} {xs : List Value} (h : Sl w sz v n xs) (hf : Below w.heap.size w w') : Sl w' sz v n xs :=
  h.fr (Fr.ofBelow hf (fun _ => False)) (fun _ _ _ _ => id)
theorem Sl.blk {w : World} {sz : Nat} {v : Value} {n : Nat} {xs : List Value} (h : Sl w sz v n xs) (hn : 0 < n) {k : Nat} (hk : v.ownBlock = some k) : k < w.heap.size := by
  obtain ⟨hl, a, cap, rfl, _, _, _, h | ⟨g, o, rfl, hg, hc⟩⟩ := h
  · omega
  · cases hk; exact hg
theorem Sl.zero (w : World) (sz : Nat) : Sl w sz (.slice none 0 0) 0 [] := (Own.nil w 0 sz).sl

/-- A literal of one element, just built. -/
theorem Sl.one (w : World) (x : Value) (t : TypeId) : Sl (w.alloc (.cells #[x] t)) 1 (.slice (some ⟨w.heap.size, 0, none⟩) 1 1) 1 [x] :=
  ⟨rfl, _, 1, rfl, Nat.le_refl _, by decide, (by intro h; cases h), .inr ⟨w.heap.size, 0, rfl, by simp, fun j u hj => by
    rw [World.cell?_alloc_at _ _ _ _ rfl, Nat.zero_add]; simpa using hj⟩⟩
/-- What v[l:h] is. -/
def cutV (v : Value) (l h sz : Nat) : Value :=
  match v with
  | .slice a _ cap => .slice (if cap = l then a else a.map (·.add (l * sz))) (h - l) (cap - l)
  | v => v
theorem cutV_block (v : Value) (l h sz : Nat) : (cutV v l h sz).ownBlock = v.ownBlock := by
  cases v <;> try rfl
  rename_i a n cap
  cases a <;> simp only [cutV, Option.map]
  · by_cases e : cap = l <;> simp [e, Value.ownBlock]
  · by_cases e : cap = l <;> simp [e, Value.ownBlock, Addr.add] <;> split <;> rfl
theorem Sl.cut {w : World} {sz : Nat} {v : Value} {n : Nat} {xs : List Value} (h : Sl w sz v n xs) (l k : Nat) (hlk : l ≤ k) (hk : k ≤ n) :
    Sl w sz (cutV v l k sz) (k - l) ((xs.drop (l * sz)).take ((k - l) * sz)) := by
  obtain ⟨hl, a, cap, rfl, hn, hm, h0, h1⟩ := h
  have hmul : k * sz ≤ n * sz := Nat.mul_le_mul_right _ hk
  have hmul2 : l * sz + (k - l) * sz = k * sz := by rw [← Nat.add_mul]; congr 1; omega
  refine ⟨by rw [List.length_take, List.length_drop]; omega, _, _, rfl, by omega, by omega, fun he => ?_, ?_⟩
  · split at he
    · rw [h0 he]; omega
    · cases a with
      | none => rw [h0 rfl]; omega
      | some b => simp at he
  · by_cases e : cap = l
    · obtain rfl : k = l := by omega
      exact .inl (by omega)
    · simp only [e, if_false]
      rcases h1 with hz | ⟨g, o, rfl, hg, hc⟩
      · exact .inl (by omega)
      · refine .inr ⟨g, o + l * sz, by simp [Addr.add_lit], hg, fun j u hj => ?_⟩
        have hj2 : j < (k - l) * sz := by
          have := (List.getElem?_eq_some_iff.1 hj).1
          rw [List.length_take] at this; omega
        rw [List.getElem?_take_of_lt hj2, List.getElem?_drop] at hj
        rw [Nat.add_assoc]; exact hc _ u hj
theorem Own.cut {w : World} {B sz : Nat} {v : Value} {n : Nat} {xs : List Value} (h : Own w B sz v n xs) (l : Nat) (hk : l ≤ n) :
    Own w B sz (cutV v l n sz) (n - l) (xs.drop (l * sz)) := by
  have hmul : l * sz ≤ n * sz := Nat.mul_le_mul_right _ hk
  obtain ⟨hl, ⟨rfl, a, rfl⟩ | ⟨g, o, cap, rfl, hb, hg, hn, hm, hc, hs, hz⟩⟩ := h
  · obtain rfl : l = 0 := by omega
    exact ⟨by simp at hl ⊢; omega, .inl ⟨by omega, a, by simp [cutV]⟩⟩
  · refine ⟨by rw [List.length_drop, hl, Nat.sub_mul], ?_⟩
    by_cases e : cap = l
    · obtain rfl : n = l := by omega
      refine .inl ⟨by omega, some ⟨g, o, none⟩, ?_⟩
      simp [cutV, e]
    · have hmc : l * sz + (cap - l) * sz = cap * sz := by rw [← Nat.add_mul]; congr 1; omega
      refine .inr ⟨g, o + l * sz, cap - l, ?_, hb, hg, by omega, by omega, fun j u hj => ?_, fun j hj => ?_, fun j hj => ?_⟩
      · simp [cutV, e, Addr.add_lit]
      · rw [List.getElem?_drop] at hj
        rw [Nat.add_assoc]; exact hc _ u hj
      · rw [Nat.add_assoc]; exact hs _ (by omega)
      · rw [Nat.add_assoc]; exact hz _ (by omega)
section
variable {P : Program} {t e : TypeId} {i : TypeInfo} {sz : Nat} (ht : P.underlying t = some (.slice e)) (hi : P.info? e = some i) {v : Value} {n : Nat} {xs : List Value} {w : World} (h : Sl w sz v n xs)
include ht hi h
theorem run_cut_l (hsz : i.size = sz) (kl : IntKind) (l : Int) (h0 : 0 ≤ l) (h1 : l ≤ n) (w' : World) : (Instr.slice t v (some (.int kl l)) none none).run P w' = .ok (cutV v l.toNat n sz) w' := by
  obtain ⟨hl, a, cap, rfl, hn, hm, _, _⟩ := h
  simp [Instr.slice, run_underlying ht, Instr.sliceBounds, run_sliceBound, sizeOf, typeInfo, hi, hsz, h0, h1, cutV]
theorem run_cut_h (kl : IntKind) (l : Int) (h0 : 0 ≤ l) (h1 : l ≤ n) (w' : World) : (Instr.slice t v none (some (.int kl l)) none).run P w' = .ok (cutV v 0 l.toNat sz) w' := by
  obtain ⟨hl, a, cap, rfl, hn, hm, _, _⟩ := h
  have h2 : l ≤ cap := by omega
  simp [Instr.slice, run_underlying ht, Instr.sliceBounds, run_sliceBound, sizeOf, typeInfo, hi, h0, h2, cutV]
theorem run_cut_lh (hsz : i.size = sz) (kl kh : IntKind) (l k : Int) (h0 : 0 ≤ l) (h1 : l ≤ k) (h2 : k ≤ n) (w' : World) : (Instr.slice t v (some (.int kl l)) (some (.int kh k)) none).run P w' = .ok (cutV v l.toNat k.toNat sz) w' := by
  obtain ⟨hl, a, cap, rfl, hn, hm, _, _⟩ := h
  have h3 : k ≤ cap := by omega
  have h4 : 0 ≤ k := by omega
  have h5 : (k.toNat : Int) = k := by omega
  simp [Instr.slice, run_underlying ht, Instr.sliceBounds, run_sliceBound, sizeOf, typeInfo, hi, hsz, h0, h1, h3, h4, h5, cutV]
/-- v[l:], v[:l], v[l:k]: what the walk wants to know of each, ahead of it. -/
theorem ex_cut_l (hsz : i.size = sz) (kl : IntKind) (l : Int) (h0 : 0 ≤ l) (h1 : l ≤ n) : ∃ a c, (∀ w', (Instr.slice t v (some (.int kl l)) none none).run P w' = .ok (.slice a (n - l.toNat) c) w') ∧
    (∀ w', Sl w' sz v n xs → Sl w' sz (.slice a (n - l.toNat) c) (n - l.toNat) (xs.drop (l.toNat * sz))) ∧ (∀ w' B, Own w' B sz v n xs → Own w' B sz (.slice a (n - l.toNat) c) (n - l.toNat) (xs.drop (l.toNat * sz))) ∧
    (Value.slice a (n - l.toNat) c).ownBlock = v.ownBlock := by
  obtain ⟨a, c, e⟩ := (h.cut l.toNat n (by omega) (Nat.le_refl _)).form
  refine ⟨a, c, fun w' => ?_, fun w' h' => ?_, fun w' B h' => ?_, ?_⟩
  · rw [run_cut_l ht hi h hsz kl l h0 h1, e]
  · have := h'.cut l.toNat n (by omega) (Nat.le_refl _)
    rw [e] at this
    rwa [List.take_of_length_le] at this
    rw [List.length_drop, h.1, Nat.sub_mul]; exact Nat.le_refl _
  · have := h'.cut l.toNat (by omega)
    rwa [e] at this
  · rw [← e, cutV_block]
theorem ex_cut_h (kl : IntKind) (l : Int) (h0 : 0 ≤ l) (h1 : l ≤ n) : ∃ a c, (∀ w', (Instr.slice t v none (some (.int kl l)) none).run P w' = .ok (.slice a l.toNat c) w') ∧
    (∀ w', Sl w' sz v n xs → Sl w' sz (.slice a l.toNat c) l.toNat (xs.take (l.toNat * sz))) ∧ (Value.slice a l.toNat c).ownBlock = v.ownBlock := by
  obtain ⟨a, c, e⟩ := (h.cut 0 l.toNat (by omega) (by omega)).form
  simp only [Nat.sub_zero] at e
  refine ⟨a, c, fun w' => ?_, fun w' h' => ?_, ?_⟩
  · rw [run_cut_h ht hi h kl l h0 h1, e]
  · have := h'.cut 0 l.toNat (by omega) (by omega)
    rw [e] at this
    simpa using this
  · rw [← e, cutV_block]
theorem ex_cut_lh (hsz : i.size = sz) (kl kh : IntKind) (l k : Int) (h0 : 0 ≤ l) (h1 : l ≤ k) (h2 : k ≤ n) : ∃ a c, (∀ w', (Instr.slice t v (some (.int kl l)) (some (.int kh k)) none).run P w' = .ok (.slice a (k.toNat - l.toNat) c) w') ∧
    (∀ w', Sl w' sz v n xs → Sl w' sz (.slice a (k.toNat - l.toNat) c) (k.toNat - l.toNat) ((xs.drop (l.toNat * sz)).take ((k.toNat - l.toNat) * sz))) ∧ (Value.slice a (k.toNat - l.toNat) c).ownBlock = v.ownBlock := by
  obtain ⟨a, c, e⟩ := (h.cut l.toNat k.toNat (by omega) (by omega)).form
  refine ⟨a, c, fun w' => ?_, fun w' h' => ?_, ?_⟩
  · rw [run_cut_lh ht hi h hsz kl kh l k h0 h1 h2, e]
  · have := h'.cut l.toNat k.toNat (by omega) (by omega)
    rwa [e] at this
  · rw [← e, cutV_block]
end
theorem bvs_drop (l : List UInt8) (k : Nat) : (bvs l).drop (k * 1) = bvs (l.drop k) := by simp [bvs]
theorem bvs_take (l : List UInt8) (k : Nat) : (bvs l).take (k * 1) = bvs (l.take k) := by simp [bvs]
theorem bvs_mid (l : List UInt8) (a k : Nat) : ((bvs l).drop (a * 1)).take (k * 1) = bvs ((l.drop a).take k) := by simp [bvs]
/-- What a slice that reads as xs yields as the second argument of an append. -/
theorem Sl.src {P : Program} {w : World} {sz : Nat} {v : Value} {n : Nat} {xs : List Value} (h : Sl w sz v n xs) (h1 : ∀ u ∈ xs, u.oneCell' = true) {tx e' : TypeId} (hk : P.underlying tx = some (.slice e')) : Src P sz tx v n xs w := by
  obtain ⟨hl, a, cap, rfl, hn, hm, h0, rfl | ⟨g, o, rfl, hg, hc⟩⟩ := h
  · have hx : xs = [] := List.eq_nil_of_length_eq_zero (by simpa using hl)
    subst hx
    cases a with
    | none => exact Src.ofNil w hk _
    | some b => exact Src.ofSlice w hk b 0 cap [] (by simp) (by intro j u h; simp at h) (by intro u h; cases h)
  · refine Src.ofSlice w hk ⟨g, o, none⟩ n cap xs hl (fun j u hj => ?_) h1
    rw [Addr.add_lit]; exact hc j u hj

theorem firstCells_own {P : Program} {w : World} {B sz : Nat} {v : Value} {n : Nat} {xs : List Value} (h : Own w B sz v n xs) :
    (Builtin.firstCells sz n v).run P w = .ok xs.toArray w := by
  obtain ⟨hl, ⟨rfl, a, rfl⟩ | ⟨g, o, cap, rfl, hb, hg, hn, hm, hc, hs, hz⟩⟩ := h
  · have hx : xs = [] := List.eq_nil_of_length_eq_zero (by simpa using hl)
    subst hx
    cases a with
    | none => simp [Builtin.firstCells]
    | some b => simp [Builtin.firstCells, loadCells, loadCellsFrom]
  · exact run_firstCells_some w sz n ⟨g, o, none⟩ n cap xs hl (fun j u hj => by rw [Addr.add_lit]; exact hc j u hj)

/-- **append onto a slice of the call's own, from whatever source.** -/
theorem run_append {P : Program} {w : World} {B sz : Nat} {v : Value} {n : Nat} {xs : List Value} (hown : Own w B sz v n xs)
    (t tx ty e : TypeId) (i : TypeInfo) (z : Value) (bytes : Nat) (ht : P.underlying t = some (.slice e)) (hi : P.info? e = some i) (hz : i.zero = some z)
    (hsize : i.size = sz) (hby : i.bytes = bytes) (hzs : z.cells.size = sz) (hsz : 0 < sz)
    {x : Value} {m : Nat} {news : List Value} (hs : Src P sz tx x m news w)
    (h63 : n + m ≤ maxLen) (hbytes : (n + m) * bytes ≤ 140737488355328) (hbase : B ≤ w.heap.size) :
    ∃ v' w', (Builtin.append_ #[t, tx] ty #[v, x]).run P w = .ok v' w' ∧ Own w' B sz v' (n + m) (xs ++ news) ∧ Fr (fun k => B ≤ k ∧ v.ownBlock = some k) w w' ∧
      (v'.ownBlock = v.ownBlock ∨ v'.ownBlock = some w.heap.size) := by
  subst hsize
  subst hby
  have hsmall : n + m ≤ 9223372036854775807 := by simp only [maxLen] at h63; omega
  have hlen : (xs ++ news).length = (n + m) * i.size := by rw [List.length_append, hown.1, hs.newsLen, Nat.add_mul]
  have grown : ∀ (old : Nat), old < n + m → ∀ S : Nat → Prop,
      Own (w.drew.alloc (.cells ((xs ++ news).toArray ++ Builtin.zeroCells z.cells (grownCap w (n + m) old e - (n + m))) e)) B i.size
        (.slice (some ⟨w.heap.size, 0, none⟩) (n + m) (grownCap w (n + m) old e)) (n + m) (xs ++ news) ∧
      Fr S w (w.drew.alloc (.cells ((xs ++ news).toArray ++ Builtin.zeroCells z.cells (grownCap w (n + m) old e - (n + m))) e)) := by
    intro old ho S
    have hge := grownCap_ge w (n + m) old e
    have hcm : grownCap w (n + m) old e ≤ maxLen := grownCap_le_maxLen w (n + m) old e h63
    have hsz2 : ((xs ++ news).toArray ++ Builtin.zeroCells z.cells (grownCap w (n + m) old e - (n + m))).size = grownCap w (n + m) old e * i.size := by
      simp only [Array.size_append, List.size_toArray, size_zeroCells, hzs, hlen, ← Nat.add_mul]
      congr 1
      omega
    have hcell : ∀ j, (w.drew.alloc (.cells ((xs ++ news).toArray ++ Builtin.zeroCells z.cells (grownCap w (n + m) old e - (n + m))) e)).cell? ⟨w.heap.size, j, none⟩ =
        ((xs ++ news).toArray ++ Builtin.zeroCells z.cells (grownCap w (n + m) old e - (n + m)))[j]? := fun j => World.cell?_alloc_at _ _ _ _ rfl
    refine ⟨⟨hlen, .inr ⟨w.heap.size, 0, _, rfl, hbase, by simp, hge, hcm, fun j u hj => ?_, fun j hj => ?_, fun j hj => ?_⟩⟩, ?_⟩
    · rw [hcell, Nat.zero_add, Array.getElem?_append_left (by simpa using (List.getElem?_eq_some_iff.1 hj).1)]
      simpa using hj
    · rw [hcell, Nat.zero_add, Array.getElem?_eq_getElem (by rw [hsz2]; exact hj)]; rfl
    · exact World.frozen?_alloc_at _ _ _ _ rfl
    · exact ⟨rfl, rfl, rfl, by simp, fun k hk _ => Below.heap_alloc w.drew _ k hk⟩
  have hold : (Builtin.firstCells i.size n v).run P w.drew = .ok xs.toArray w.drew :=
    firstCells_own (hown.fr (Fr.drew (fun _ => False) w) (fun _ _ _ => id))
  obtain ⟨_, ⟨rfl, a, rfl⟩ | ⟨g, o, cap, rfl, hb, hg, hn, hm, hc, hsome, hfz⟩⟩ := id hown
  · have hx : xs = [] := List.eq_nil_of_length_eq_zero (by simpa using hown.1)
    subst hx
    by_cases hm0 : m = 0
    · subst hm0
      have hn0 : news = [] := List.eq_nil_of_length_eq_zero (by simpa using hs.newsLen)
      subst hn0
      refine ⟨.slice a 0 0, w, ?_, hown, Fr.refl _ _, .inl rfl⟩
      have hc0 := hs.cells
      rcases hs.kind with ⟨e', hk⟩ | hk <;> cases a <;> simp [Builtin.append_, run_underlying ht, run_underlying hk, sizeOf, typeInfo, hi, hs.len, hc0, storeCells]
    · have hr := run_append_grow_src (P := P) w t tx ty e i z ht hi hz a 0 0 [] hold x m news hs (by omega) (by omega) (growslice_fits (by omega) (by simpa using hbytes))
      have hgr := grown 0 (by omega) (fun k => B ≤ k ∧ (Value.slice a 0 0).ownBlock = some k)
      exact ⟨_, _, hr, hgr.1, hgr.2, .inr rfl⟩
  · by_cases hroom : n + m ≤ cap
    · have hmul : n * i.size + m * i.size ≤ cap * i.size := by rw [← Nat.add_mul]; exact Nat.mul_le_mul_right _ hroom
      have hnl := hs.newsLen
      have hr := run_append_room_src (P := P) w t tx ty e i ht hi g o n cap x m news hs hroom
        (fun j hj => by have := hsome (n * i.size + j) (by omega); simpa [Nat.add_assoc] using this)
        (fun j hj => by have := hfz (n * i.size + j) (by omega); simpa [Nat.add_assoc] using this)
      refine ⟨_, _, hr, ⟨hlen, .inr ⟨g, o, cap, rfl, hb, ?_, hroom, hm, fun j u hj => ?_, fun j hj => ?_, fun j hj => ?_⟩⟩, Fr.setCells w g _ news ⟨hb, rfl⟩, .inl rfl⟩
      · rw [(heap_setCells g news (o + n * i.size) w).2.2.2.1]; exact hg
      · have hxl := hown.1
        by_cases hjx : j < xs.length
        · rw [World.cell?_setCells_out g news (o + n * i.size) w ⟨g, o + j, none⟩ (fun _ _ => .inl (by show o + j < _; omega))]
          exact hc j u (by rw [← hj, List.getElem?_append_left hjx])
        · have hj2 : news[j - xs.length]? = some u := by rw [← hj, List.getElem?_append_right (by omega)]
          obtain ⟨hlt, he⟩ := List.getElem?_eq_some_iff.1 hj2
          have := World.cell?_setCells_in g news (o + n * i.size) w (fun j hj => by have := hsome (n * i.size + j) (by omega); simpa [Nat.add_assoc] using this) (j - xs.length) hlt
          rw [show o + n * i.size + (j - xs.length) = o + j from by omega] at this
          rw [this, he]
      · by_cases hin : n * i.size ≤ j ∧ j < n * i.size + news.length
        · have := World.cell?_setCells_in g news (o + n * i.size) w (fun j hj => by have := hsome (n * i.size + j) (by omega); simpa [Nat.add_assoc] using this) (j - n * i.size) (by omega)
          rw [show o + n * i.size + (j - n * i.size) = o + j from by omega] at this
          rw [this]; rfl
        · rw [World.cell?_setCells_out g news (o + n * i.size) w ⟨g, o + j, none⟩ (fun _ _ => by show o + j < _ ∨ _ ≤ o + j; omega)]
          exact hsome j hj
      · rw [World.frozen?_setCells]; exact hfz j hj
    · have hr := run_append_grow_src (P := P) w t tx ty e i z ht hi hz (some ⟨g, o, none⟩) n cap xs hold x m news hs (by omega) (by omega) (growslice_fits (by omega) (by simpa using hbytes))
      have hgr := grown cap (by omega) (fun k => B ≤ k ∧ (Value.slice (some ⟨g, o, none⟩) n cap).ownBlock = some k)
      exact ⟨_, _, hr, hgr.1, hgr.2, .inr rfl⟩

/-- The same at an operation. -/
theorem wp_append {P : Program} {o : Oper} {a : Act} {K : Act → World → Prop} {Q : Exit → Act → World → Prop} {w : World} (s x : Operand) (t tx : TypeId)
    (ho : o.op = .call { callee := .builtin .append, args := #[s, x], argTypes := #[t, tx] })
    {B sz : Nat} {v : Value} {n : Nat} {xs : List Value} (hown : Own w B sz v n xs) (hv : a.eval s = v)
    (e : TypeId) (i : TypeInfo) (z : Value) (bytes : Nat) (ht : P.underlying t = some (.slice e)) (hi : P.info? e = some i) (hz : i.zero = some z)
    (hsize : i.size = sz) (hby : i.bytes = bytes) (hzs : z.cells.size = sz) (hsz : 0 < sz)
    {y : Value} {m : Nat} {news : List Value} (hy : a.eval x = y) (hs : Src P sz tx y m news w)
    (h63 : n + m ≤ maxLen) (hbytes : (n + m) * bytes ≤ 140737488355328) (hbase : B ≤ w.heap.size)
    (h : ∀ v' w', Own w' B sz v' (n + m) (xs ++ news) → Fr (fun k => B ≤ k ∧ v.ownBlock = some k) w w' → (v'.ownBlock = v.ownBlock ∨ v'.ownBlock = some w.heap.size) → K (a.put o.dst v') w') :
    o.wp P a w K Q := by
  obtain ⟨v', w', hr, h2, h3, h4⟩ := run_append hown t tx o.type e i z bytes ht hi hz hsize hby hzs hsz hs h63 hbytes hbase
  unfold Oper.wp execOp
  simp only [ho, resolve, invoke, builtin, Sem.run_bind, Sem.run_pure, Result.andThen_ok, List.map_toArray, List.map_cons, List.map_nil, hv, hy, hr]
  exact h v' w' h2 h3 h4
theorem wpList_wanted {P : Program} {ops : Array Oper} {rest : List Oper} {o : Oper} {a : Act} {Q : Exit → Act → World → Prop} {w : World} (hw : Region.wanted o (yielded ops a.tmps) = true)
    (h : ∀ K : Act → World → Prop, (∀ a w, wpList P ops Q rest a w → K a w) → o.wp P a w K Q) : wpList P ops Q (o :: rest) a w :=
  wpList_step fun K hK => by rw [if_pos hw]; exact h K hK
/-- The same at the walk's operation. -/
theorem wpList_append {P : Program} {ops : Array Oper} {rest : List Oper} {o : Oper} {a : Act} {Q : Exit → Act → World → Prop} {w : World} (hw : Region.wanted o (yielded ops a.tmps) = true) (s x : Operand) (t tx : TypeId)
    (ho : o.op = .call { callee := .builtin .append, args := #[s, x], argTypes := #[t, tx] })
    {B sz : Nat} {v : Value} {n : Nat} {xs : List Value} (hown : Own w B sz v n xs) (hv : a.eval s = v)
    (e : TypeId) (i : TypeInfo) (z : Value) (bytes : Nat) (ht : P.underlying t = some (.slice e)) (hi : P.info? e = some i) (hz : i.zero = some z)
    (hsize : i.size = sz) (hby : i.bytes = bytes) (hzs : z.cells.size = sz) (hsz : 0 < sz)
    {y : Value} {m : Nat} {news : List Value} (hy : a.eval x = y) (hs : Src P sz tx y m news w)
    (h63 : n + m ≤ maxLen) (hbytes : (n + m) * bytes ≤ 140737488355328) (hbase : B ≤ w.heap.size)
    (h : ∀ v' w', Own w' B sz v' (n + m) (xs ++ news) → Fr (fun k => B ≤ k ∧ v.ownBlock = some k) w w' → (v'.ownBlock = v.ownBlock ∨ v'.ownBlock = some w.heap.size) → wpList P ops Q rest (a.put o.dst v') w') :
    wpList P ops Q (o :: rest) a w :=
  wpList_wanted hw fun _ hK => wp_append s x t tx ho hown hv e i z bytes ht hi hz hsize hby hzs hsz hy hs h63 hbytes hbase fun v' w' h2 h3 h4 => hK _ _ (h v' w' h2 h3 h4)
end Go.Bx
