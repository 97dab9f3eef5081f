/- The steps of a walk that lay, read, write memory, over names. No condition. -/
import Derived.Test.YtbhflfdlkiihgaaSx4
namespace Go.Sx
open Go Go.RowKit Go.Bx

structure Blk where
  t : TypeId
  cs : List C
abbrev Mem := List (Option Blk)
/-- A slice of bytes that is only read: it reads so; no known block is its block. -/
structure Vals (E : Env) (w : World) : Prop where
  rd : ∀ b v l, E.val b = some (v, l) → Sl w 1 v l.length (bvs l)
  ap : ∀ b v l, E.val b = some (v, l) → 0 < l.length → ∀ c g, E.blk c = some g → v.ownBlock ≠ some g
/-- Memory holds what it is said to hold. -/
structure Good (E : Env) (mem : Mem) (w : World) : Prop where
  len : ∀ b, mem.length ≤ b → E.blk b = none
  nd : ∀ b c g, E.blk b = some g → E.blk c = some g → b = c
  lt : ∀ b g, E.blk b = some g → g < w.heap.size
  at_ : ∀ (b : Nat) (B : Blk), mem[b]? = some (some B) → ∃ g, E.blk b = some g ∧ w.heap[g]? = some (.cells (dens E B.cs).toArray B.t (0, 0)) ∧ oks E B.cs
  vl : Vals E w
  vlen : ∀ b, mem.length ≤ b → E.val b = none
/-- A slice that is laid anew, or of which another one is a part. -/
def From (E : Env) (w : World) (v : Value) : Prop := ∀ k, v.ownBlock = some k → w.heap.size ≤ k ∨ ∃ b u l, E.val b = some (u, l) ∧ 0 < l.length ∧ u.ownBlock = some k
/-- More blocks, laid anew, from the place n on. -/
structure Ext (E E' : Env) (n : Nat) (w : World) : Prop where
  ρ : E'.ρ = E.ρ
  at_ : ∀ b g, E.blk b = some g → E'.blk b = some g
  new : ∀ b g, E'.blk b = some g → E.blk b = some g ∨ (n ≤ b ∧ w.heap.size ≤ g)
  vat : ∀ b p, E.val b = some p → E'.val b = some p
  vnew : ∀ b p, E'.val b = some p → E.val b = some p ∨ (n ≤ b ∧ (0 < p.2.length → From E w p.1))
def Vis (E : Env) (mem : Mem) (g : Nat) : Prop := ∃ (b : Nat) (B : Blk), mem[b]? = some (some B) ∧ E.blk b = some g
def MemLe (mem mem' : Mem) : Prop := mem.length ≤ mem'.length ∧ ∀ (b : Nat) (B' : Blk), mem'[b]? = some (some B') → b < mem.length → ∃ B : Blk, mem[b]? = some (some B)
theorem MemLe.refl (mem : Mem) : MemLe mem mem := ⟨Nat.le_refl _, fun _ B h _ => ⟨B, h⟩⟩
theorem MemLe.trans {a b c : Mem} (h : MemLe a b) (k : MemLe b c) : MemLe a c :=
  ⟨Nat.le_trans h.1 k.1, fun i B hi hl => by
    obtain ⟨B', hB'⟩ := k.2 i B hi (Nat.lt_of_lt_of_le hl h.1)
    exact h.2 i B' hB' hl⟩
theorem Ext.refl (E : Env) (n : Nat) (w : World) : Ext E E n w := ⟨rfl, fun _ _ h => h, fun _ _ h => .inl h, fun _ _ h => h, fun _ _ h => .inl h⟩
theorem Ext.trans {E E' E'' : Env} {n n' : Nat} {w w' : World} (h : Ext E E' n w) (k : Ext E' E'' n' w') (hn : n ≤ n') (hw : w.heap.size ≤ w'.heap.size) : Ext E E'' n w := by
  refine ⟨k.ρ.trans h.ρ, fun b g hb => k.at_ b g (h.at_ b g hb), fun b g hb => ?_, fun b p hb => k.vat b p (h.vat b p hb), fun b p hb => ?_⟩
  · rcases k.new b g hb with hb | ⟨h1, h2⟩
    · exact h.new b g hb
    · exact .inr ⟨Nat.le_trans hn h1, Nat.le_trans hw h2⟩
  · rcases k.vnew b p hb with hb | ⟨h1, h2⟩
    · exact h.vnew b p hb
    · refine .inr ⟨Nat.le_trans hn h1, fun hp q hq => ?_⟩
      rcases h2 hp q hq with h3 | ⟨c, u, l, c1, c2, c3⟩
      · exact .inl (Nat.le_trans hw h3)
      · rcases h.vnew c (u, l) c1 with c1 | ⟨_, c4⟩
        · exact .inr ⟨c, u, l, c1, c2, c3⟩
        · exact c4 c2 q c3
/-- One environment has all that the other has. -/
structure Le (E E' : Env) : Prop where
  ρ : E'.ρ = E.ρ
  at_ : ∀ b g, E.blk b = some g → E'.blk b = some g
  vat : ∀ b p, E.val b = some p → E'.val b = some p
theorem Ext.le {E E' : Env} {n : Nat} {w : World} (h : Ext E E' n w) : Le E E' := ⟨h.ρ, h.at_, h.vat⟩
theorem C.ext {E E' : Env} (h : Le E E') {c : C} (hc : c.ok E) : c.den E' = c.den E ∧ c.ok E' := by
  cases c with
  | int k r => rw [C.den, C.den, h.ρ]; exact ⟨rfl, by rw [C.ok, h.ρ]; exact hc⟩
  | bool r => rw [C.den, C.den, h.ρ]; exact ⟨rfl, trivial⟩
  | ptr b off =>
    obtain ⟨g, hg⟩ := Option.isSome_iff_exists.1 hc
    rw [C.den, C.den, h.at_ b g hg, hg]; exact ⟨rfl, by rw [C.ok, h.at_ b g hg]; rfl⟩
  | slc b off l n =>
    obtain ⟨g, hg⟩ := Option.isSome_iff_exists.1 hc
    rw [C.den, C.den, h.at_ b g hg, hg]; exact ⟨rfl, by rw [C.ok, h.at_ b g hg]; rfl⟩
  | ptrx b off l i =>
    obtain ⟨g, hg⟩ := Option.isSome_iff_exists.1 hc.1
    rw [C.den, C.den, h.at_ b g hg, hg, h.ρ]; exact ⟨rfl, by rw [C.ok, h.at_ b g hg, h.ρ]; exact ⟨rfl, hc.2⟩⟩
  | strv r => rw [C.den, C.den, h.ρ]; exact ⟨rfl, by rw [C.ok, h.ρ]; exact hc⟩
  | opq b r =>
    obtain ⟨h1, v, hv, h2⟩ := hc
    rw [C.den, C.den, h.vat b _ hv, hv]; exact ⟨rfl, by rw [C.ok, h.ρ, h.vat b _ hv]; exact ⟨h1, v, rfl, h2⟩⟩
  | nilp => exact ⟨rfl, trivial⟩
  | nils => exact ⟨rfl, trivial⟩
  | str l => exact ⟨rfl, trivial⟩
  | undef => exact ⟨rfl, trivial⟩
theorem dens_ext {E E' : Env} (h : Le E E') {l : List C} (hl : oks E l) : dens E' l = dens E l ∧ oks E' l :=
  ⟨List.map_congr_left fun c hc => (C.ext h (hl c hc)).1, fun c hc => (C.ext h (hl c hc)).2⟩
theorem Rel_ext {E E' : Env} (h : Le E E') {s : SV} {v : Value} (hs : s.Rel E v) : s.Rel E' v := by
  cases s with
  | c c => obtain ⟨h1, h2⟩ := hs; exact ⟨by rw [(C.ext h h2).1]; exact h1, (C.ext h h2).2⟩
  | agg l => obtain ⟨h1, h2⟩ := hs; exact ⟨by rw [(dens_ext h h2).1]; exact h1, (dens_ext h h2).2⟩
  | tup l =>
    obtain ⟨h1, h2⟩ := hs
    have key : ∀ x ∈ l, sumDen E' x = sumDen E x ∧ sumOk E' x := fun x hx => by
      have := h2 x hx
      cases x with
      | inl c => exact C.ext h this
      | inr m => obtain ⟨a, b⟩ := dens_ext h this; exact ⟨congrArg (fun q : List Value => Value.agg q.toArray) a, b⟩
    exact ⟨by rw [h1, List.map_congr_left fun x hx => (key x hx).1], fun x hx => (key x hx).2⟩
  | any => trivial
/-- A block is laid. -/
def Env.push (E : Env) (n g : Nat) : Env := { E with blk := fun b => if b = n then some g else E.blk b }
theorem push_le {E : Env} {n g : Nat} (h : E.blk n = none) : Le E (E.push n g) := ⟨rfl, (fun b g' hb => by
  have : b ≠ n := fun e => by rw [e, h] at hb; cases hb
  simp only [Env.push, if_neg this]; exact hb), fun _ _ h => h⟩
theorem Vals.fr {E : Env} {w w' : World} {S : Nat → Prop} (h : Vals E w) (hf : Fr S w w') (hS : ∀ k, S k → ∃ c, E.blk c = some k) : Vals E w' :=
  ⟨fun b v l hb => (h.rd b v l hb).fr hf fun hl k _ hk hs => by
    obtain ⟨c, hc⟩ := hS k hs
    exact h.ap b v l hb (by simpa [bvs] using hl) c k hc hk, h.ap⟩
theorem Vals.push {E : Env} {w : World} (h : Vals E w) {n g : Nat} (hg : w.heap.size ≤ g) : Vals (E.push n g) w :=
  ⟨h.rd, fun b v l hb hl c k hc hk => by
    simp only [Env.push] at hc
    split at hc
    · cases hc
      have := (h.rd b v l hb).blk (by simpa [bvs] using hl) hk
      omega
    · exact h.ap b v l hb hl c k hc hk⟩
theorem Good.push {E : Env} {mem : Mem} {w : World} (h : Good E mem w) (t : TypeId) {cs : List C} (hc : oks E cs) :
    Ext E (E.push mem.length w.heap.size) mem.length w ∧ Good (E.push mem.length w.heap.size) (mem ++ [some ⟨t, cs⟩]) (w.alloc (.cells (dens E cs).toArray t)) ∧ (E.push mem.length w.heap.size).blk mem.length = some w.heap.size := by
  have hnone := h.len mem.length (Nat.le_refl _)
  have hle := push_le (g := w.heap.size) hnone
  have hsz : (w.alloc (.cells (dens E cs).toArray t)).heap.size = w.heap.size + 1 := by simp
  have cases_ : ∀ b g, (E.push mem.length w.heap.size).blk b = some g → (b = mem.length ∧ g = w.heap.size) ∨ (b ≠ mem.length ∧ E.blk b = some g) := fun b g hb => by
    simp only [Env.push] at hb
    split at hb
    · rename_i e; exact .inl ⟨e, (Option.some.inj hb).symm⟩
    · rename_i e; exact .inr ⟨e, hb⟩
  refine ⟨⟨rfl, hle.at_, (fun b g hb => ?_), (fun _ _ h => h), fun _ _ h => .inl h⟩, ⟨fun b hb => ?_, fun b c g hb hc' => ?_, fun b g hb => ?_, fun b B hb => ?_, (h.vl.push (Nat.le_refl _)).fr (S := fun _ => False) (Fr.alloc _ w _) (fun _ h => h.elim), fun b hb => h.vlen b (by rw [List.length_append, List.length_singleton] at hb; omega)⟩, by simp [Env.push]⟩
  · rcases cases_ b g hb with ⟨h1, h2⟩ | ⟨_, hb⟩
    · exact .inr ⟨by omega, by omega⟩
    · exact .inl hb
  · rw [List.length_append, List.length_singleton] at hb
    simp only [Env.push]
    rw [if_neg (by omega)]; exact h.len b (by omega)
  · rcases cases_ b g hb with ⟨h1, h2⟩ | ⟨_, hb⟩ <;> rcases cases_ c g hc' with ⟨h3, h4⟩ | ⟨_, hc'⟩
    · exact h1.trans h3.symm
    · have := h.lt c _ hc'; omega
    · have := h.lt b _ hb; omega
    · exact h.nd b c g hb hc'
  · rw [hsz]
    rcases cases_ b g hb with ⟨_, h2⟩ | ⟨_, hb⟩
    · omega
    · have := h.lt b g hb; omega
  · by_cases hlt : b < mem.length
    · rw [List.getElem?_append_left hlt] at hb
      obtain ⟨g, h1, h2, h3⟩ := h.at_ b B hb
      refine ⟨g, hle.at_ b g h1, ?_, (dens_ext hle h3).2⟩
      rw [(dens_ext hle h3).1, heap_alloc_old _ _ (Array.getElem?_eq_some_iff.1 h2).1]
      exact h2
    · rw [List.getElem?_append_right (by omega)] at hb
      have hb0 : b - mem.length = 0 := by
        have := (List.getElem?_eq_some_iff.1 hb).1; simp at this; omega
      rw [hb0] at hb
      cases hb
      have e : b = mem.length := by omega
      subst e
      exact ⟨w.heap.size, by simp [Env.push], by rw [(dens_ext hle hc).1]; exact heap_alloc_new _ _, (dens_ext hle hc).2⟩
theorem MemLe.push (mem : Mem) (x : Option Blk) : MemLe mem (mem ++ [x]) :=
  ⟨by simp, fun b B hb hl => by rw [List.getElem?_append_left hl] at hb; exact ⟨B, hb⟩⟩
theorem MemLe.set {mem : Mem} {b : Nat} {B B' : Blk} (h : mem[b]? = some (some B)) : MemLe mem (mem.set b (some B')) :=
  ⟨by simp, fun i B'' hi hl => by
    by_cases e : b = i
    · subst e; exact ⟨B, h⟩
    · rw [List.getElem?_set_ne e] at hi; exact ⟨B'', hi⟩⟩
/-- A block is written. -/
theorem Good.write {E : Env} {mem : Mem} {w : World} (h : Good E mem w) {b : Nat} {B : Blk} (hb : mem[b]? = some (some B)) {cs : List C} (hc : oks E cs) :
    ∃ g, E.blk b = some g ∧ w.heap[g]? = some (.cells (dens E B.cs).toArray B.t (0, 0)) ∧ Good E (mem.set b (some { B with cs := cs })) (w.setRow g (dens E cs).toArray) ∧ Fr (Vis E mem) w (w.setRow g (dens E cs).toArray) := by
  obtain ⟨g, h1, h2, _⟩ := h.at_ b B hb
  refine ⟨g, h1, h2, ⟨fun i hi => h.len i (by simpa using hi), h.nd, fun i k hk => by simpa using h.lt i k hk, ?_, h.vl.fr (S := fun k => k = g) ⟨rfl, rfl, rfl, by simp, fun k _ hk => setRow_other w g k _ fun e => hk e⟩ (fun k hk => ⟨b, by rw [hk]; exact h1⟩), fun b hb => h.vlen b (by simpa using hb)⟩, ⟨rfl, rfl, rfl, by simp, fun k _ hk => setRow_other w g k _ fun e => hk ⟨b, B, hb, e ▸ h1⟩⟩⟩
  intro i B' hi
  by_cases e : b = i
  · subst e
    rw [List.getElem?_set_self (List.getElem?_eq_some_iff.1 hb).1] at hi
    cases hi
    exact ⟨g, h1, setRow_heap w g _ _ _ _ h2, hc⟩
  · rw [List.getElem?_set_ne e] at hi
    obtain ⟨k, k1, k2, k3⟩ := h.at_ i B' hi
    refine ⟨k, k1, ?_, k3⟩
    rw [setRow_other w g k _ fun ek => ?_]
    · exact k2
    · subst ek
      exact e (h.nd _ _ _ h1 k1)
def loadX (P : Program) (t : TypeId) (cs : List C) (off : Nat) : Option SV :=
  match P.underlying t with
  | some d => if d.isRow then
      match sizeX P t with
      | some s => if Nat.ble (off + s) cs.length then some (.agg ((cs.drop off).take s)) else none
      | none => none
    else (cs[off]?).map .c
  | none => none
theorem loadX_ok {P : Program} {E : Env} {t : TypeId} {cs : List C} {off : Nat} {s : SV} (h : loadX P t cs off = some s) (hl : oks E cs) {w : World} {g : Nat} {ty : TypeId} (hg : w.heap[g]? = some (.cells (dens E cs).toArray ty (0, 0))) :
    ∃ r, s.Rel E r ∧ (loadVar t ⟨g, off, none⟩).run P w = .ok r w := by
  unfold loadX at h
  split at h
  · rename_i d hd
    split at h
    · rename_i hr
      split at h
      · rename_i sz hs
        split at h
        · rename_i hb
          have hb := Nat.le_of_ble_eq_true hb
          cases h
          refine ⟨_, ⟨rfl, oks_sub hl fun c hc => List.mem_of_mem_drop (List.mem_of_mem_take hc)⟩, ?_⟩
          refine run_loadVar_mid w g off t _ d (fun j v hv => ?_) hd hr ?_
          · rw [cell_of_row w g _ _ _ _ hg]
            simp only [dens, List.getElem?_map, List.getElem?_toArray] at hv ⊢
            rw [List.getElem?_take] at hv
            split at hv
            · rw [List.getElem?_drop] at hv; exact hv
            · cases hv
          · unfold sizeX at hs
            rw [hs, dens, List.length_map, List.length_take, List.length_drop]
            congr 1; omega
        · cases h
      · cases h
    · rename_i hr
      obtain ⟨c, hc, rfl⟩ := Option.map_eq_some_iff.1 h
      refine ⟨_, ⟨rfl, hl c (List.mem_of_getElem? hc)⟩, ?_⟩
      have hagg : (isAgg t).run P w = .ok false w := by
        unfold isAgg; rw [Sem.run_bind, run_underlying hd w]; cases d <;> simp_all
      have hcell : w.cell? ⟨g, off, none⟩ = some (c.den E) := by
        rw [cell_of_row w g _ _ _ _ hg]; simp [dens, hc]
      simp [loadVar, hagg, load, Sem.run, hcell]
  · cases h
def storeX (P : Program) (t : TypeId) (cs : List C) (off : Nat) (s : SV) : Option (List C) :=
  match cellsOf s with
  | some l => match sizeX P t with
    | some n => if Nat.beq l.length n && Nat.ble (off + n) cs.length && l.all noUndef then some (cs.take off ++ l ++ cs.drop (off + n)) else none
    | none => none
  | none => none
theorem storeX_ok {P : Program} {E : Env} {t : TypeId} {cs cs' : List C} {off : Nat} {s : SV} (h : storeX P t cs off s = some cs') (hl : oks E cs) {v : Value} (hv : s.Rel E v) {w : World} {g : Nat} {ty : TypeId} (hg : w.heap[g]? = some (.cells (dens E cs).toArray ty (0, 0))) :
    oks E cs' ∧ (storeVar t ⟨g, off, none⟩ v).run P w = .ok () (w.setRow g (dens E cs').toArray) := by
  unfold storeX at h
  split at h
  · rename_i l hc
    split at h
    · rename_i n hn
      split at h
      · rename_i hb
        simp only [Bool.and_eq_true] at hb
        obtain ⟨⟨b1, b2⟩, b3⟩ := hb
        have b1 := Nat.eq_of_beq_eq_true b1
        have b2 := Nat.le_of_ble_eq_true b2
        cases h
        obtain ⟨hcells, ho⟩ := cells_rel hc hv b3
        refine ⟨fun c hc => ?_, ?_⟩
        · simp only [List.mem_append] at hc
          rcases hc with (hc | hc) | hc
          · exact hl c (List.mem_of_mem_take hc)
          · exact ho c hc
          · exact hl c (List.mem_of_mem_drop hc)
        · have hst := run_storeCells_at P g off ty (dens E l) 0 (dens E cs).toArray w hg (by simp [dens]; omega) (fun v hv => by
            obtain ⟨c, hc, rfl⟩ := List.mem_map.1 hv
            exact (noUndef_ok (by rw [List.all_eq_true] at b3; exact b3 c hc) (ho c hc)).2)
          have hsz : v.cells.size = n := by rw [hcells]; simp [dens, b1]
          have : (storeVar t ⟨g, off, none⟩ v).run P w = (storeCells ⟨g, off, none⟩ (dens E l)).run P w := by
            simp only [storeVar, Sem.run_bind, sizeX_run hn, Result.andThen_ok, hsz]
            simp [hcells]
          rw [this, hst]
          congr 2
          simp [dens, List.map_take, List.map_drop, b1]
      · cases h
    · cases h
  · cases h
/-- A cell at a place that is a number. -/
def loadV (P : Program) (t : TypeId) (cs : List C) (off len i n : Nat) : Option (SV × List Fact) :=
  match P.underlying t with
  | some (.int k) => match refsOf k ((cs.drop off).take len) with
    | some rs => if Nat.beq rs.length len then some (.c (.int k (.v n)), [.sel n rs i]) else none
    | none => none
  | _ => none
theorem loadV_ok {P : Program} {fns : Fns} {E : Env} {t : TypeId} {cs : List C} {off len i n : Nat} {s : SV} {fs : List Fact} (h : loadV P t cs off len i n = some (s, fs)) (hf : ∀ f ∈ fs, Fact.ok fns E.ρ f) (hi : 0 ≤ E.ρ i ∧ E.ρ i < len) (hl : oks E cs) {w : World} {g : Nat} {ty : TypeId} (hg : w.heap[g]? = some (.cells (dens E cs).toArray ty (0, 0))) :
    ∃ r, s.Rel E r ∧ (loadVar t ⟨g, off + (E.ρ i).toNat, none⟩).run P w = .ok r w := by
  unfold loadV at h
  split at h
  · rename_i k hu
    split at h
    · rename_i rs hr
      split at h
      · rename_i hb
        cases h
        obtain ⟨e1, e2, e3⟩ := refsOf_ok (E := E) hr
        have hlen := Nat.eq_of_beq_eq_true hb
        have f1 := hf _ (List.mem_singleton.2 rfl)
        simp only [Fact.ok] at f1
        have hj : (E.ρ i).toNat < rs.length := by omega
        have hjl : (E.ρ i).toNat < len := by omega
        have hin : InR k (E.ρ n) := by rw [f1]; exact sel_in (e3 (oks_sub hl fun c hc => List.mem_of_mem_drop (List.mem_of_mem_take hc))) hj
        refine ⟨.int k (E.ρ n), ⟨rfl, hin⟩, ?_⟩
        have hagg : (isAgg t).run P w = .ok false w := by
          unfold isAgg; rw [Sem.run_bind, run_underlying hu w]; rfl
        have hcell : w.cell? ⟨g, off + (E.ρ i).toNat, none⟩ = some (.int k (E.ρ n)) := by
          rw [cell_of_row w g _ _ _ _ hg]
          have : (dens E ((cs.drop off).take len))[(E.ρ i).toNat]? = some (.int k (E.ρ n)) := by
            rw [e1, f1, List.getD_eq_getElem?_getD, List.getElem?_map, List.getElem?_eq_getElem (by simpa using hj)]; rfl
          simp only [dens, List.getElem?_map] at this
          rw [List.getElem?_take_of_lt hjl, List.getElem?_drop] at this
          simp only [dens, List.getElem?_toArray, List.getElem?_map]
          exact this
        simp [loadVar, hagg, load, Sem.run, hcell]
      · cases h
    · cases h
  · cases h
def storeV (P : Program) (t : TypeId) (cs : List C) (off len i n : Nat) (s : SV) : Option (List C × List Fact) :=
  match s, sizeX P t with
  | .c (.int k x), some 1 => match refsOf k ((cs.drop off).take len) with
    | some rs => if Nat.beq rs.length len && Nat.ble (off + len) cs.length then some (cs.take off ++ ((List.range len).map fun j => .int k (.v (n + j))) ++ cs.drop (off + len), [.upd n rs i x]) else none
    | none => none
  | _, _ => none
theorem splice_one {α : Type} (L : List α) (off len : Nat) (M : List α) (v : α) (q : Nat) (hq : q < len) (hM : M.length = len) (hL : off + len ≤ L.length) (h : ∀ j, j < len → M[j]? = if j = q then some v else L[off + j]?) :
    L.take (off + q) ++ [v] ++ L.drop (off + q + 1) = L.take off ++ M ++ L.drop (off + len) := by
  apply List.ext_getElem?
  intro i
  simp only [List.getElem?_append, List.length_append, List.length_take, List.length_singleton, List.getElem?_take, List.getElem?_drop, hM]
  rw [Nat.min_eq_left (by omega), Nat.min_eq_left (by omega)]
  by_cases h1 : i < off
  · simp [h1, show i < off + q + 1 by omega, show i < off + q by omega, show i < off + len by omega]
  · by_cases h2 : i < off + len
    · obtain ⟨j, rfl⟩ : ∃ j, i = off + j := ⟨i - off, by omega⟩
      simp only [h2, h1, if_true, if_false, Nat.add_sub_cancel_left]
      rw [h j (by omega)]
      by_cases h3 : j < q
      · simp [show off + j < off + q + 1 by omega, h3, show j ≠ q by omega]
      · by_cases h4 : j = q
        · subst h4; simp
        · rw [if_neg (by omega), if_neg h4]
          congr 1; omega
    · rw [if_neg (by omega), if_neg (by omega)]
      congr 1; omega
theorem storeV_ok {P : Program} {fns : Fns} {E : Env} {t : TypeId} {cs cs' : List C} {off len i n : Nat} {s : SV} {fs : List Fact} (h : storeV P t cs off len i n s = some (cs', fs)) (hf : ∀ f ∈ fs, Fact.ok fns E.ρ f) (hi : 0 ≤ E.ρ i ∧ E.ρ i < len) (hl : oks E cs) {v : Value} (hv : s.Rel E v) {w : World} {g : Nat} {ty : TypeId} (hg : w.heap[g]? = some (.cells (dens E cs).toArray ty (0, 0))) :
    oks E cs' ∧ (storeVar t ⟨g, off + (E.ρ i).toNat, none⟩ v).run P w = .ok () (w.setRow g (dens E cs').toArray) := by
  unfold storeV at h
  split at h
  · rename_i k x hsz
    split at h
    · rename_i rs hr
      split at h
      · rename_i hb
        cases h
        simp only [Bool.and_eq_true] at hb
        obtain ⟨e1, e2, e3⟩ := refsOf_ok (E := E) hr
        have hlen := Nat.eq_of_beq_eq_true hb.1
        have hle := Nat.le_of_ble_eq_true hb.2
        have f1 := hf _ (List.mem_singleton.2 rfl)
        simp only [Fact.ok, hlen] at f1
        have hj : (E.ρ i).toNat < len := by omega
        obtain ⟨rfl, hx⟩ := hv
        have hsub := oks_sub (E := E) (m := (cs.drop off).take len) hl fun c hc => List.mem_of_mem_drop (List.mem_of_mem_take hc)
        refine ⟨fun c hc => ?_, ?_⟩
        · simp only [List.mem_append, List.mem_map, List.mem_range] at hc
          rcases hc with (hc | ⟨j, hj', rfl⟩) | hc
          · exact hl c (List.mem_of_mem_take hc)
          · show InR k (E.ρ (n + j))
            rw [f1 j hj']
            split
            · exact hx
            · exact sel_in (e3 hsub) (by omega)
          · exact hl c (List.mem_of_mem_drop hc)
        · have hst := run_storeCells_at P g (off + (E.ρ i).toNat) ty [.int k (x.den E.ρ)] 0 (dens E cs).toArray w hg (by simp [dens]; omega) (by simp [Value.oneCell'])
          have hagg : (storeVar t ⟨g, off + (E.ρ i).toNat, none⟩ (.int k (x.den E.ρ))).run P w = (storeCells ⟨g, off + (E.ρ i).toNat, none⟩ [.int k (x.den E.ρ)]).run P w := by
            simp [storeVar, sizeX_run hsz, Value.cells]
          rw [show (C.int k x).den E = .int k (x.den E.ρ) from rfl, hagg, hst]
          congr 2
          simp only [Nat.add_zero, List.length_singleton]
          congr 1
          have old : ∀ j, j < len → (dens E cs)[off + j]? = some (.int k ((rs.map (Ref.den E.ρ)).getD j 0)) := fun j hj' => by
            have : (dens E ((cs.drop off).take len))[j]? = some (.int k ((rs.map (Ref.den E.ρ)).getD j 0)) := by
              rw [e1, List.getD_eq_getElem?_getD, List.getElem?_map, List.getElem?_eq_getElem (by simp; omega)]; rfl
            simp only [dens, List.getElem?_map] at this ⊢
            rw [List.getElem?_take_of_lt hj', List.getElem?_drop] at this
            exact this
          have hm : dens E (cs.take off ++ ((List.range len).map fun j => C.int k (.v (n + j))) ++ cs.drop (off + len)) = (dens E cs).take off ++ ((List.range len).map fun j => Value.int k (E.ρ (n + j))) ++ (dens E cs).drop (off + len) := by
            simp [dens, List.map_take, List.map_drop, Function.comp_def, C.den, Ref.den]
          rw [hm]
          refine splice_one _ off len _ _ _ hj (by simp) (by simpa [dens] using hle) fun j hj' => ?_
          rw [List.getElem?_map, List.getElem?_range hj', Option.map_some, f1 j hj', old j hj']
          split <;> rfl
      · cases h
    · cases h
  · cases h
end Go.Sx
