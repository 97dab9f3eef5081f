/- One step of a walk, over names: memory, calls. No condition. -/
import Derived.Test.YtbhflfdlkiihgaaSx6
import Derived.Test.YtbhflfdlkiihgaaBase2
import Derived.Great.BuildSlice
namespace Go.Sx
open Go Go.RowKit Go.Bx

/-- A call: of a function with a body, or of one that the model knows. -/
def Goes (P : Program) (f : FuncId) (vs : Array Value) (w : World) (R : Value → World → Prop) : Prop :=
  (∃ fn c, P.funcs[f]? = some fn ∧ (fn.name == "runtime.NumGoroutine") = false ∧ fn.body = some c ∧ Calls P f vs w fun e w' => ∃ v, e = .returned v ∧ R v w') ∨
  ∃ v, (callFunc f vs).run P w = .ok (.value v) w ∧ R v w
theorem Goes.mono {P : Program} {f : FuncId} {vs : Array Value} {w : World} {R R' : Value → World → Prop} (h : Goes P f vs w R) (hr : ∀ v w', R v w' → R' v w') : Goes P f vs w R' := by
  rcases h with ⟨fn, c, h1, h2, h3, h4⟩ | ⟨v, h1, h2⟩
  · exact .inl ⟨fn, c, h1, h2, h3, h4.mono fun e w' ⟨v, he, hv⟩ => ⟨v, he, hr v w' hv⟩⟩
  · exact .inr ⟨v, h1, hr v w h2⟩
theorem Goes.wp {P : Program} {f : FuncId} {vs : Array Value} {w : World} {R : Value → World → Prop} (h : Goes P f vs w R) {o : Oper} {args : Array Operand} {ats : Array TypeId} (ho : o.op = .call { callee := .value (.func f), args, argTypes := ats }) {a : Act}
    (hv : args.map a.eval = vs) {K : Act → World → Prop} {Q : Exit → Act → World → Prop} (hK : ∀ v w', R v w' → K (a.put o.dst v) w') : o.wp P a w K Q := by
  have hev : a.eval (.func f) = .func (.func f) #[] #[] := rfl
  rcases h with ⟨fn, c, h1, h2, h3, h4⟩ | ⟨v, h1, h2⟩
  · have hn : fn.name ≠ "runtime.NumGoroutine" := by simpa using h2
    have henter : (callFunc f vs).run P w = .ok (.enter f vs) w := by simp [callFunc, h1, hn, h3, mark]
    unfold Oper.wp
    simp [execOp, ho, resolve, hev, hv, Deferred.ofValue, invoke, henter, Oper.upon]
    refine h4.mono fun e w' ⟨v, he, hr⟩ => ?_
    subst he
    exact hK v w' hr
  · unfold Oper.wp
    simp [execOp, ho, resolve, hev, hv, Deferred.ofValue, invoke, h1, Oper.upon]
    exact hK v w h2
def CallOK (P : Program) (fns : Fns) (call : CallH) : Prop :=
  ∀ f args st s fs st', call f args st = some (s, fs, st') → MemLe st.mem st'.mem ∧ ∀ ρ, (∀ x ∈ fs, Fact.ok fns ρ x) → KnOK ρ st.kn → KnOK ρ st'.kn ∧
    ∀ (E : Env) (w : World) (vs : List Value), E.ρ = ρ → Good E st.mem w → RelL E args vs → Goes P f vs.toArray w fun v w' => ∃ E', Ext E E' st.mem.length w ∧ s.Rel E' v ∧ Good E' st'.mem w' ∧ Fr (Vis E st.mem) w w'
def oneM (st : St) : Option (SV × Mem) → Option (SV × List Fact × St)
  | some (s, m) => some (s, [], { st with mem := m })
  | none => none
/-- Memory laid: the cells of a literal slice. -/
def makeX (P : Program) (t : TypeId) (l c : SV) (mem : Mem) : Option (SV × Mem) :=
  match litNat l, litNat c with
  | some l, some c => match P.underlying t with
    | some (.slice e) => match P.info? e with
      | some i => match i.zero with
        | some z => match ofCell z with
          | some zc => if Nat.beq i.size 1 && noUndef zc && Nat.ble l c && Nat.ble c 1000000 && Nat.ble i.bytes 1000000 then some (.c (.slc mem.length 0 l c), mem ++ [some ⟨e, List.replicate c zc⟩]) else none
          | none => none
        | none => none
      | none => none
    | _ => none
  | _, _ => none
def copyX (P : Program) (dT : TypeId) (d s : SV) (mem : Mem) : Option (SV × Mem) :=
  match d, s with
  | .c (.slc b off len _), .c (.slc b' off' len' _) => match P.underlying dT with
    | some (.slice e) => match mem[b]?, mem[b']?, sizeX P e with
      | some (some B), some (some B'), some sz =>
        let n := min len' len
        let cs := (B'.cs.drop off').take n
        if Nat.beq sz 1 && Nat.beq cs.length n && Nat.ble (off + n) B.cs.length && cs.all noUndef && inB .i64 n then some (.c (.int .i64 (.l n)), mem.set b (some { B with cs := B.cs.take off ++ cs ++ B.cs.drop (off + n) })) else none
      | _, _, _ => none
    | _ => none
  | _, _ => none
/-- A literal of a slice. -/
def rowX (P : Program) (ev : Ev) (t : TypeId) (len : Nat) (parts : List (Nat × Operand)) (mem : Mem) : Option (SV × Mem) :=
  match P.underlying t with
  | some (.slice e) => match sizeX P e, zeroX P e, partsX ev parts with
    | some sz, some z, some ps => if (ps.all fun p => p.2.all noUndef) && Nat.blt 0 (len * sz) && Nat.ble (len * sz) 1000000 && Nat.blt 0 z.length then
        match fillC (fun i => some (i * sz, sz)) ((List.range (len * sz)).map fun i => z.getD (i % z.length) .undef) ps with
        | some out => some (.c (.slc mem.length 0 len len), mem ++ [some ⟨e, out⟩])
        | none => none
      else none
    | _, _, _ => none
  | _ => none
/-- A slice of bytes that is only read: a part of it. -/
def loRef (ev : Ev) : Option Operand → Option Ref
  | none => some (.l 0)
  | some x => match ev x with
    | some s => intRef s
    | none => none
def cutX (P : Program) (ev : Ev) (st : St) (t : TypeId) (r : Ref) (lo hi : Option Operand) : Option (SV × List Fact × St) :=
  match P.underlying t with
  | some (.slice e) => match sizeX P e with
    | some 1 => match loRef ev lo, hi with
      | some a, none => some (.c (.opq st.mem.length (.v (st.n + 1))), [.prim st.n 0 [r], .must 1 [r, a, .v st.n], .prim (st.n + 1) 2 [r, a, .v st.n]], { st with n := st.n + 2, mem := st.mem ++ [none] })
      | some a, some h => match ev h with
        | some s => match intRef s with
          | some b => some (.c (.opq st.mem.length (.v st.n)), [.must 1 [r, a, b], .prim st.n 2 [r, a, b]], { st with n := st.n + 1, mem := st.mem ++ [none] })
          | none => none
        | none => none
      | none, _ => none
    | _ => none
  | _ => none
/-- Whether a type is text, another one bytes. -/
def isStrT (P : Program) (t : TypeId) : Bool :=
  match P.underlying t with
  | some .string => true
  | _ => false
def isBytesT (P : Program) (t : TypeId) : Bool :=
  match P.underlying t with
  | some (.slice e) => match P.underlying e with
    | some (.int .u8) => true
    | _ => false
  | _ => false
def pureS (P : Program) (ev : Ev) (st : St) (op : Op) : Option (SV × List Fact × St) :=
  match pureX P ev st.n st.kn op with
  | some (s, fs, n') => some (s, fs, { st with n := n' })
  | none => none
/-- Known bytes, as they are named. -/
def slcRefs (mem : Mem) (b off len cap : Nat) : Option (List Ref) :=
  match mem[b]? with
  | some (some B) => match refsOf .u8 ((B.cs.drop off).take len) with
    | some rs => if Nat.beq rs.length len && Nat.ble len cap && Nat.ble cap 1000000 then some rs else none
    | none => none
  | _ => none
def stepX (P : Program) (call : CallH) (ev : Ev) (st : St) (op : Op) : Option (SV × List Fact × St) :=
  match op with
  | .load t x => match ev x with
    | some (.c (.ptr b off)) => match st.mem[b]? with
      | some (some B) => match loadX P t B.cs off with
        | some s => some (s, [], st)
        | none => none
      | _ => none
    | some (.c (.ptrx b off len i)) => match st.mem[b]? with
      | some (some B) => match loadV P t B.cs off len i st.n with
        | some (s, fs) => some (s, fs, { st with n := st.n + 1 })
        | none => none
      | _ => none
    | _ => none
  | .store t x y => match ev x, ev y with
    | some (.c (.ptr b off)), some s => match st.mem[b]? with
      | some (some B) => match storeX P t B.cs off s with
        | some cs => some (.c .undef, [], { st with mem := st.mem.set b (some { B with cs := cs }) })
        | none => none
      | _ => none
    | some (.c (.ptrx b off len i)), some s => match st.mem[b]? with
      | some (some B) => match storeV P t B.cs off len i st.n s with
        | some (cs, fs) => some (.c .undef, fs, { st with mem := st.mem.set b (some { B with cs := cs }), n := st.n + len })
        | none => none
      | _ => none
    | _, _ => none
  | .box t x => match ev x with
    | some s => match cellsOf s with
      | some l => if l.all noUndef then some (.c (.ptr st.mem.length 0), [], { st with mem := st.mem ++ [some ⟨t, l⟩] }) else none
      | none => none
    | none => none
  | .alloc t => match zeroX P t with
    | some l => if l.all noUndef then some (.c (.ptr st.mem.length 0), [], { st with mem := st.mem ++ [some ⟨t, l⟩] }) else none
    | none => none
  | .makeSlice t l c => match ev l, ev c with
    | some l, some c => oneM st (makeX P t l c st.mem)
    | _, _ => none
  | .call { callee := .builtin .copy, args, argTypes } => match args.toList, argTypes.toList with
    | [x, y], [t, _] => match ev x, ev y with
      | some d, some s => oneM st (copyX P t d s st.mem)
      | _, _ => none
    | _, _ => none
  | .call { callee := .value (.func f), args, argTypes := _ } => match evsX ev args.toList with
    | some us => call f us st
    | none => none
  | .buildSlice t len parts => oneM st (rowX P ev t len parts.toList st.mem)
  | .convert s t x => match ev x with
    | some (.c (.opq _ r)) => if isBytesT P s && isStrT P t then some (.c (.strv r), [], st) else none
    | some (.c (.slc b off len cap)) => match slcRefs st.mem b off len cap with
      | some rs => if isBytesT P s && isStrT P t then some (.c (.strv (.v st.n)), [.prim st.n 4 rs], { st with n := st.n + 1 }) else pureS P ev st (.convert s t x)
      | none => pureS P ev st (.convert s t x)
    | some (.c c) => match strRef c with
      | some r => if isStrT P s && isBytesT P t then some (.c (.opq st.mem.length r), [.must 3 [r]], { st with mem := st.mem ++ [none] }) else none
      | none => pureS P ev st (.convert s t x)
    | _ => pureS P ev st (.convert s t x)
  | .slice t x lo hi none => match ev x with
    | some (.c (.opq _ r)) => cutX P ev st t r lo hi
    | _ => pureS P ev st (.slice t x lo hi none)
  | op => pureS P ev st op
section
variable {P : Program} {fns : Fns}
theorem wp_value {o : Oper} {a : Act} {v : Value} {w w' : World} {K : Act → World → Prop} {Q : Exit → Act → World → Prop} (h : (execOp a.eval o).run P w = .ok (.value v) w') (hK : K (a.put o.dst v) w') : o.wp P a w K Q := by
  unfold Oper.wp; rw [h]; exact hK
theorem wp_skip' {o : Oper} {a : Act} {w w' : World} {K : Act → World → Prop} {Q : Exit → Act → World → Prop} (h : (execOp a.eval o).run P w = .ok .skip w') (hK : K (a.put o.dst undef) w') : o.wp P a w K Q := by
  unfold Oper.wp; rw [h]; exact hK
theorem replicate_dens (E : Env) (c : Nat) (z : C) : dens E (List.replicate c z) = List.replicate c (z.den E) := by simp [dens]
theorem made_one (z : Value) (n : Nat) : madeCells #[z] n = (List.replicate n z).toArray := by
  apply Array.ext
  · simp [size_madeCells]
  · intro i h1 h2; simp [madeCells, Nat.mod_one]
theorem fill_zero {E : Env} (z : List C) (hz : 0 < z.length) (n : Nat) : ((Array.range n).map ((dens E z).toArray[· % (dens E z).toArray.size]!)) = (dens E ((List.range n).map fun i => z.getD (i % z.length) .undef)).toArray := by
  apply Array.ext
  · simp [dens]
  · intro i h1 h2
    simp [dens]
    have h : i % z.length < z.length := Nat.mod_lt _ hz
    simp [h]
theorem rowX_ok {ev : Ev} {E : Env} {a : Act} {w : World} {mem : Mem} (hg : Good E mem w) (hev : ∀ x u, ev x = some u → u.Rel E (a.eval x)) {t : TypeId} {len : Nat} {parts : Array (Nat × Operand)} {s : SV} {mem' : Mem} (h : rowX P ev t len parts.toList mem = some (s, mem')) :
    ∃ E' v w', Ext E E' mem.length w ∧ s.Rel E' v ∧ Good E' mem' w' ∧ Fr (Vis E mem) w w' ∧ (Instr.buildSlice t len (parts.map fun (i, x) => (i, a.eval x))).run P w = .ok v w' := by
  unfold rowX at h
  split at h
  · rename_i e hu
    split at h
    · rename_i sz z ps hsz hz hps
      split at h
      · rename_i hc
        simp only [Bool.and_eq_true] at hc
        obtain ⟨⟨⟨c1, c2⟩, c3⟩, c4⟩ := hc
        have c2 := blt_lt c2
        have c4 := blt_lt c4
        have c3 := Nat.le_of_ble_eq_true c3
        split at h
        · rename_i out hf
          cases h
          have hp := partsX_ok (E := E) hev hps c1
          unfold zeroX at hz
          split at hz
          · rename_i i hi
            split at hz
            · rename_i zv hzv
              obtain ⟨ez, ho⟩ := ofCells_ok (E := E) hz
              have e' : zv.cells = (dens E z).toArray := Array.toList_inj.1 (by simpa using ez)
              unfold sizeX at hsz
              rw [hi] at hsz
              obtain rfl : i.size = sz := by simpa using hsz
              have hoz : oks E ((List.range (len * i.size)).map fun i => z.getD (i % z.length) .undef) := fun c hc => by
                obtain ⟨j, _, rfl⟩ := List.mem_map.1 hc
                rw [List.getD_eq_getElem?_getD]
                cases he : z[j % z.length]? with
                | none => exact trivial
                | some c => exact ho c (List.mem_of_getElem? he)
              have hpl : (parts.map fun (i, x) => (i, a.eval x)).toList = parts.toList.map fun (i, x) => (i, a.eval x) := by simp
              obtain ⟨hfl, ho2⟩ := fillC_ok hf hoz hp
              obtain ⟨q1, q2, q3⟩ := hg.push e ho2
              refine ⟨_, _, _, q1, slc_rel 0 len len q3, q2, Fr.alloc _ _ _, ?_⟩
              refine run_buildSlice w t e len _ _ i zv hu hi hzv (by omega) (by omega) ?_
              rw [e', fill_zero z c4, hpl]
              exact hfl
            · cases hz
          · cases hz
        · cases h
      · cases h
    · cases h
  · cases h
/-- A slice that is only read is laid. -/
def _root_.Go.Sx.Env.pushV (E : Env) (n : Nat) (p : Value × List UInt8) : Env := { E with val := fun b => if b = n then some p else E.val b }
theorem pushV_le {E : Env} {n : Nat} {p : Value × List UInt8} (h : E.val n = none) : Le E (E.pushV n p) := ⟨rfl, fun _ _ h => h, fun b q hb => by
  have : b ≠ n := fun e => by rw [e, h] at hb; cases hb
  simp only [Env.pushV, if_neg this]; exact hb⟩
theorem Good.pushV {E : Env} {mem : Mem} {w w' : World} (h : Good E mem w) (hb : Below w.heap.size w w') {v : Value} {l : List UInt8} (hv : Sl w' 1 v l.length (bvs l)) (hs : 0 < l.length → From E w v) :
    Ext E (E.pushV mem.length (v, l)) mem.length w ∧ Good (E.pushV mem.length (v, l)) (mem ++ [none]) w' ∧ (E.pushV mem.length (v, l)).val mem.length = some (v, l) := by
  have hnone := h.vlen mem.length (Nat.le_refl _)
  have hle := pushV_le (p := (v, l)) hnone
  have cases_ : ∀ b q, (E.pushV mem.length (v, l)).val b = some q → (b = mem.length ∧ q = (v, l)) ∨ E.val b = some q := fun b q hq => by
    simp only [Env.pushV] at hq
    split at hq
    · rename_i e; exact .inl ⟨e, (Option.some.inj hq).symm⟩
    · exact .inr hq
  refine ⟨⟨rfl, (fun _ _ h => h), (fun _ _ h => .inl h), hle.vat, fun b q hq => ?_⟩, ⟨fun b hb => h.len b (by rw [List.length_append, List.length_singleton] at hb; omega), h.nd, fun b g hg => Nat.lt_of_lt_of_le (h.lt b g hg) hb.size, fun b B hB => ?_, ⟨fun b u m hu => ?_, fun b u m hu hm c g hc hk => ?_⟩, fun b hb => ?_⟩, by simp [Env.pushV]⟩
  · rcases cases_ b q hq with ⟨h1, rfl⟩ | hq
    · exact .inr ⟨by omega, hs⟩
    · exact .inl hq
  · have hbl : b < mem.length := by
      have := (List.getElem?_eq_some_iff.1 hB).1
      rw [List.length_append, List.length_singleton] at this
      rcases Nat.lt_or_ge b mem.length with h | h
      · exact h
      · exfalso
        rw [List.getElem?_append_right h, show b - mem.length = 0 by omega] at hB
        cases hB
    rw [List.getElem?_append_left hbl] at hB
    obtain ⟨g, h1, h2, h3⟩ := h.at_ b B hB
    exact ⟨g, h1, by rw [(dens_ext hle h3).1, hb.block g (Array.getElem?_eq_some_iff.1 h2).1]; exact h2, (dens_ext hle h3).2⟩
  · rcases cases_ b _ hu with ⟨_, e⟩ | hu
    · cases e; exact hv
    · exact (h.vl.rd b u m hu).grow hb
  · rcases cases_ b _ hu with ⟨_, e⟩ | hu
    · cases e
      rcases hs hm g hk with h1 | ⟨d, y, z, d1, d2, d3⟩
      · have := h.lt c g hc; omega
      · exact h.vl.ap d y z d1 d2 c g hc d3
    · exact h.vl.ap b u m hu hm c g hc hk
  · rw [List.length_append, List.length_singleton] at hb
    simp only [Env.pushV]
    rw [if_neg (by omega)]
    exact h.vlen b (by omega)
/-- The same, in the world as it stands. -/
theorem Good.pushV2 {E : Env} {mem : Mem} {w : World} (h : Good E mem w) {v : Value} {l : List UInt8} (hv : Sl w 1 v l.length (bvs l)) (hd : 0 < l.length → ∀ c g, E.blk c = some g → v.ownBlock ≠ some g) :
    Good (E.pushV mem.length (v, l)) (mem ++ [none]) w ∧ (E.pushV mem.length (v, l)).val mem.length = some (v, l) := by
  have hnone := h.vlen mem.length (Nat.le_refl _)
  have hle := pushV_le (p := (v, l)) hnone
  have cases_ : ∀ b q, (E.pushV mem.length (v, l)).val b = some q → (b = mem.length ∧ q = (v, l)) ∨ E.val b = some q := fun b q hq => by
    simp only [Env.pushV] at hq
    split at hq
    · rename_i e; exact .inl ⟨e, (Option.some.inj hq).symm⟩
    · exact .inr hq
  refine ⟨⟨fun b hb => h.len b (by rw [List.length_append, List.length_singleton] at hb; omega), h.nd, h.lt, fun b B hB => ?_, ⟨fun b u m hu => ?_, fun b u m hu hm c g hc hk => ?_⟩, fun b hb => ?_⟩, by simp [Env.pushV]⟩
  · have hbl : b < mem.length := by
      have := (List.getElem?_eq_some_iff.1 hB).1
      rw [List.length_append, List.length_singleton] at this
      rcases Nat.lt_or_ge b mem.length with h | h
      · exact h
      · exfalso
        rw [List.getElem?_append_right h, show b - mem.length = 0 by omega] at hB
        cases hB
    rw [List.getElem?_append_left hbl] at hB
    obtain ⟨g, h1, h2, h3⟩ := h.at_ b B hB
    exact ⟨g, h1, by rw [(dens_ext hle h3).1]; exact h2, (dens_ext hle h3).2⟩
  · rcases cases_ b _ hu with ⟨_, e⟩ | hu
    · cases e; exact hv
    · exact h.vl.rd b u m hu
  · rcases cases_ b _ hu with ⟨_, e⟩ | hu
    · cases e; exact hd hm c g hc hk
    · exact h.vl.ap b u m hu hm c g hc hk
  · rw [List.length_append, List.length_singleton] at hb
    simp only [Env.pushV]
    rw [if_neg (by omega)]
    exact h.vlen b (by omega)
theorem Ext.pushV {E E1 : Env} {n m : Nat} {w : World} (z : Ext E E1 n w) (hn : n ≤ m) (hm : E1.val m = none) {v : Value} {l : List UInt8} (hs : 0 < l.length → From E w v) : Ext E (E1.pushV m (v, l)) n w := by
  have hle := pushV_le (p := (v, l)) hm
  refine ⟨z.ρ, z.at_, z.new, fun b p hp => hle.vat b p (z.vat b p hp), fun b q hq => ?_⟩
  simp only [Env.pushV] at hq
  split at hq
  · rename_i e; cases hq; exact .inr ⟨by omega, hs⟩
  · exact z.vnew b q hq
theorem opq_mk {E : Env} {b : Nat} {r : Ref} {v : Value} {l : List UInt8} (h : E.val b = some (v, l)) (hs : Str (r.den E.ρ)) (hl : decZ (r.den E.ρ) = l) (hf : ∃ a c, v = .slice a l.length c) : (SV.c (.opq b r)).Rel E v := by
  subst hl
  exact ⟨by rw [C.den, h], hs, v, h, hf⟩
theorem own_fresh {w : World} {B n : Nat} {v : Value} {xs : List Value} (h : Own w B 1 v n xs) (hn : 0 < n) {k : Nat} (hk : v.ownBlock = some k) : B ≤ k := by
  obtain ⟨_, ⟨h0, _⟩ | ⟨g, o, cap, rfl, hB, _⟩⟩ := h
  · omega
  · cases hk; exact hB
theorem isStrT_ok {t : TypeId} (h : isStrT P t = true) : P.underlying t = some .string := by
  unfold isStrT at h
  split at h
  · assumption
  · cases h
theorem isBytesT_ok {t : TypeId} (h : isBytesT P t = true) : ∃ e, P.underlying t = some (.slice e) ∧ P.underlying e = some (.int .u8) := by
  unfold isBytesT at h
  split at h
  · rename_i e he
    split at h
    · exact ⟨e, he, by assumption⟩
    · cases h
  · cases h
theorem cut_run {t e : TypeId} {ad : Option Addr} {n cap l k : Nat} {vl vh : Option Value} (w : World) (hu : P.underlying t = some (.slice e)) (hs : sizeX P e = some 1) (hb : (Instr.sliceBounds true n cap vl vh none).run P w = .ok (l, k, cap) w) :
    (Instr.sliceAt t (.slice ad n cap) vl vh none).run P w = .ok (cutV (.slice ad n cap) l k 1) w := by
  simp only [Instr.sliceAt, Instr.slice, Sem.run_bind, run_underlying hu, Result.andThen_ok, Sem.run_pure, hb, sizeX_run hs]
  by_cases h : cap = l
  · simp [cutV, h]
  · simp [cutV, h]
theorem loRef_ok {E : Env} {ev : Ev} {a : Act} (hev : ∀ x u, ev x = some u → u.Rel E (a.eval x)) {lo : Option Operand} {r : Ref} (h : loRef ev lo = some r) (k : Nat) (h0 : 0 ≤ r.den E.ρ) (hk : r.den E.ρ ≤ k) (w : World) :
    (match lo.map a.eval with | some u => Instr.sliceBound u k .sliceB | none => pure 0).run P w = .ok (r.den E.ρ).toNat w := by
  unfold loRef at h
  cases lo with
  | none => cases h; rfl
  | some x =>
    simp only at h
    split at h
    · rename_i s hs
      unfold intRef at h
      split at h
      · rename_i kk r'
        cases h
        have e := (hev _ _ hs).1
        rw [C.den] at e
        simp [Instr.sliceBound, asIntOf, e, h0, hk]
      · cases h
    · cases h
theorem cutX_ok {ev : Ev} {st : St} {t : TypeId} {b : Nat} {r : Ref} {lo hi : Option Operand} {s : SV} {fs : List Fact} {st' : St} (h : cutX P ev st t r lo hi = some (s, fs, st')) :
    MemLe st.mem st'.mem ∧ ∀ ρ, (∀ x ∈ fs, Fact.ok fns ρ x) → KnOK ρ st.kn → KnOK ρ st'.kn ∧
    ∀ (E : Env) (a : Act) (w : World) (x : Operand), E.ρ = ρ → Good E st.mem w → (∀ x u, ev x = some u → u.Rel E (a.eval x)) → (SV.c (.opq b r)).Rel E (a.eval x) →
      ∃ E' v, Ext E E' st.mem.length w ∧ s.Rel E' v ∧ Good E' st'.mem w ∧ (Instr.sliceAt t (a.eval x) (lo.map a.eval) (hi.map a.eval) none).run P w = .ok v w := by
  unfold cutX at h
  split at h
  · rename_i e hu
    split at h
    · rename_i hsz
      have key : ∀ (E : Env) (a : Act) (w : World) (x : Operand) (ra rb rn : Ref) (n' : Nat), Good E st.mem w → (SV.c (.opq b r)).Rel E (a.eval x) →
          (0 ≤ ra.den E.ρ ∧ ra.den E.ρ ≤ rb.den E.ρ ∧ rb.den E.ρ ≤ ((decZ (r.den E.ρ)).length : Int)) → E.ρ n' = codZ (((decZ (r.den E.ρ)).drop (ra.den E.ρ).toNat).take ((rb.den E.ρ).toNat - (ra.den E.ρ).toNat)) →
          (∀ cap, (decZ (r.den E.ρ)).length ≤ cap → (Instr.sliceBounds true (decZ (r.den E.ρ)).length cap (lo.map a.eval) (hi.map a.eval) none).run P w = .ok ((ra.den E.ρ).toNat, (rb.den E.ρ).toNat, cap) w) →
          ∃ E' v, Ext E E' st.mem.length w ∧ (SV.c (.opq st.mem.length (.v n'))).Rel E' v ∧ Good E' (st.mem ++ [none]) w ∧ (Instr.sliceAt t (a.eval x) (lo.map a.eval) (hi.map a.eval) none).run P w = .ok v w := by
        intro E a w x ra rb rn n' hg hx ⟨p1, p2, p3⟩ hn hbd
        obtain ⟨hval, hstr, ad, cap, hform⟩ := opq_rel hx
        have hsl := hg.vl.rd b _ _ hval
        rw [hform] at hval hsl
        generalize hl : decZ (r.den E.ρ) = l at *
        have hcap : l.length ≤ cap := by
          obtain ⟨_, _, _, e, h1, _⟩ := hsl
          cases e; exact h1
        have hcut := hsl.cut (ra.den E.ρ).toNat (rb.den E.ρ).toNat (by omega) (by omega)
        simp only [Nat.mul_one] at hcut
        have hlen : ((l.drop (ra.den E.ρ).toNat).take ((rb.den E.ρ).toNat - (ra.den E.ρ).toNat)).length = (rb.den E.ρ).toNat - (ra.den E.ρ).toNat := by
          rw [List.length_take, List.length_drop]; omega
        have hcut' : Sl w 1 (cutV (.slice ad l.length cap) (ra.den E.ρ).toNat (rb.den E.ρ).toNat 1) ((l.drop (ra.den E.ρ).toNat).take ((rb.den E.ρ).toNat - (ra.den E.ρ).toNat)).length (bvs ((l.drop (ra.den E.ρ).toNat).take ((rb.den E.ρ).toNat - (ra.den E.ρ).toNat))) := by
          rw [hlen]
          have e : bvs ((l.drop (ra.den E.ρ).toNat).take ((rb.den E.ρ).toNat - (ra.den E.ρ).toNat)) = ((bvs l).drop (ra.den E.ρ).toNat).take ((rb.den E.ρ).toNat - (ra.den E.ρ).toNat) := by simp [bvs, List.map_take, List.map_drop]
          rw [e]; exact hcut
        obtain ⟨q1, q2, q3⟩ := hg.pushV (Below.refl _ _) hcut' fun hp k hk => by
          rw [cutV_block] at hk
          refine .inr ⟨b, _, _, hval, ?_, hk⟩
          rw [hlen] at hp; omega
        have hs2 : Str (E.ρ n') := by
          refine ⟨by rw [hn]; exact codZ_nonneg _, ?_⟩
          rw [hn, decZ_codZ, hlen]
          have := hstr.len
          rw [hl] at this; omega
        refine ⟨_, cutV (.slice ad l.length cap) (ra.den E.ρ).toNat (rb.den E.ρ).toNat 1, q1, opq_mk q3 (by rw [Ref.den, q1.ρ]; exact hs2) (by rw [Ref.den, q1.ρ, hn, decZ_codZ]) ?_, q2, ?_⟩
        · rw [hlen]; exact ⟨_, _, rfl⟩
        · rw [hform]; exact cut_run w hu hsz (hbd cap hcap)
      split at h
      · rename_i ra hra
        cases h
        refine ⟨MemLe.push _ _, fun ρ hf hk => ⟨hk, fun E a w x hρ hg hev hx => ?_⟩⟩
        subst hρ
        have f0 : E.ρ st.n = ((decZ (r.den E.ρ)).length : Int) := hf (.prim st.n 0 [r]) (by simp)
        have f1 : 0 ≤ ra.den E.ρ ∧ ra.den E.ρ ≤ E.ρ st.n ∧ E.ρ st.n ≤ ((decZ (r.den E.ρ)).length : Int) := hf (.must 1 [r, ra, .v st.n]) (by simp)
        have f2 : E.ρ (st.n + 1) = codZ (((decZ (r.den E.ρ)).drop (ra.den E.ρ).toNat).take ((E.ρ st.n).toNat - (ra.den E.ρ).toNat)) := hf (.prim (st.n + 1) 2 [r, ra, .v st.n]) (by simp)
        refine key E a w x ra (.v st.n) (.v st.n) _ hg hx f1 f2 fun cap hcap => ?_
        refine bounds_run (vh := none) w ?_ rfl (loRef_ok hev hra _ f1.1 (by show _ ≤ (((E.ρ st.n).toNat : Nat) : Int); omega) w)
        show (pure _ : Sem Nat).run P w = _
        rw [Sem.run_pure]
        congr 1
        show _ = (E.ρ st.n).toNat
        omega
      · rename_i ra hop hra
        split at h
        · rename_i s0 hs0
          split at h
          · rename_i rb hrb
            cases h
            refine ⟨MemLe.push _ _, fun ρ hf hk => ⟨hk, fun E a w x hρ hg hev hx => ?_⟩⟩
            subst hρ
            have f1 : 0 ≤ ra.den E.ρ ∧ ra.den E.ρ ≤ rb.den E.ρ ∧ rb.den E.ρ ≤ ((decZ (r.den E.ρ)).length : Int) := hf (.must 1 [r, ra, rb]) (by simp)
            have f2 : E.ρ st.n = codZ (((decZ (r.den E.ρ)).drop (ra.den E.ρ).toNat).take ((rb.den E.ρ).toNat - (ra.den E.ρ).toNat)) := hf (.prim st.n 2 [r, ra, rb]) (by simp)
            refine key E a w x ra rb rb _ hg hx f1 f2 fun cap hcap => ?_
            refine bounds_run (vh := some (a.eval hop)) w ?_ rfl (loRef_ok hev hra _ f1.1 (by omega) w)
            unfold intRef at hrb
            split at hrb
            · rename_i kk r'
              cases hrb
              have e := (hev _ _ hs0).1
              rw [C.den] at e
              have g0 : 0 ≤ rb.den E.ρ := by omega
              have g1 : rb.den E.ρ ≤ cap := by omega
              simp [Instr.sliceBound, asIntOf, e, g0, g1]
            · cases hrb
          · cases h
        · cases h
      · cases h
    · cases h
  · cases h
theorem pureS_ok {ev : Ev} {st : St} {o : Oper} {s : SV} {fs : List Fact} {st' : St} (h : pureS P ev st o.op = some (s, fs, st')) :
    MemLe st.mem st'.mem ∧ ∀ ρ, (∀ x ∈ fs, Fact.ok fns ρ x) → KnOK ρ st.kn → KnOK ρ st'.kn ∧
    ∀ (E : Env) (a : Act) (w : World), E.ρ = ρ → Good E st.mem w → (∀ x u, ev x = some u → u.Rel E (a.eval x)) → ∀ (K : Act → World → Prop) (Q : Exit → Act → World → Prop),
      (∀ E' v w', Ext E E' st.mem.length w → s.Rel E' v → Good E' st'.mem w' → Fr (Vis E st.mem) w w' → K (a.put o.dst v) w') → o.wp P a w K Q := by
  unfold pureS at h
  split at h
  · rename_i s' fs' n' hp
    cases h
    refine ⟨MemLe.refl _, fun ρ hf hk => ⟨hk, fun E a w hρ hg hev K Q hK => ?_⟩⟩
    subst hρ
    obtain ⟨v, hv, hrun⟩ := pureX_ok hp hf hk hev
    exact wp_value (hrun w) (hK E v w (Ext.refl _ _ _) hv hg (Fr.refl _ _))
  · cases h
set_option maxHeartbeats 4000000 in
theorem u8_bytes {zs : List Int} (h : ∀ z ∈ zs, InR .u8 z) : zs.map (Value.int .u8) = bvs (zs.map fun z => UInt8.ofNat z.toNat) := by
  simp only [bvs, List.map_map]
  refine List.map_congr_left fun z hz => ?_
  have h1 := (h z hz).lo
  have h2 := (h z hz).hi
  simp only [lo, hi] at h1 h2
  exact bv_ofInt z h1 (by omega)
theorem slcRefs_ok {E : Env} {mem : Mem} {w : World} {b off len cap : Nat} {rs : List Ref} {v : Value} (hg : Good E mem w) (h : slcRefs mem b off len cap = some rs) (hv : (SV.c (.slc b off len cap)).Rel E v) :
    Sl w 1 v ((rs.map (Ref.den E.ρ)).map fun z : Int => UInt8.ofNat z.toNat).length (bvs ((rs.map (Ref.den E.ρ)).map fun z : Int => UInt8.ofNat z.toNat)) ∧ ((rs.map (Ref.den E.ρ)).map fun z : Int => UInt8.ofNat z.toNat).length ≤ maxLen := by
  unfold slcRefs at h
  split at h
  · rename_i B hB
    split at h
    · rename_i rs' hr
      split at h
      · rename_i hc
        simp only [Bool.and_eq_true] at hc
        obtain ⟨⟨c1, c2⟩, c3⟩ := hc
        have c1 := Nat.eq_of_beq_eq_true c1
        have c2 := Nat.le_of_ble_eq_true c2
        have c3 := Nat.le_of_ble_eq_true c3
        cases h
        obtain ⟨e, hlen, ho⟩ := refsOf_ok (E := E) hr
        obtain ⟨g, g1, g2, g3⟩ := hg.at_ b B hB
        obtain ⟨g', e1, e2⟩ := rel_slc hv
        rw [g1] at e1; cases e1
        have hin := ho (oks_sub g3 fun c hc => List.mem_of_mem_drop (List.mem_of_mem_take hc))
        refine ⟨?_, by rw [List.length_map, List.length_map, c1]; unfold maxLen; omega⟩
        rw [← u8_bytes hin, List.length_map]
        refine ⟨by simp, some ⟨g, off, none⟩, cap, ?_, ?_, ?_, (by intro h; cases h), .inr ⟨g, off, rfl, (Array.getElem?_eq_some_iff.1 g2).1, fun j u hj => ?_⟩⟩
        · rw [e2, List.length_map, c1]
        · rw [List.length_map, c1]; exact c2
        · unfold maxLen; omega
        · rw [cell_of_row w g _ _ _ _ g2]
          rw [← e] at hj
          simp only [dens, List.getElem?_map, List.getElem?_toArray] at hj ⊢
          rw [List.getElem?_take] at hj
          split at hj
          · rw [List.getElem?_drop] at hj; exact hj
          · cases hj
      · cases h
    · cases h
  · cases h
set_option maxHeartbeats 1600000 in
theorem stepX_ok {call : CallH} (hcall : CallOK P fns call) {ev : Ev} {st : St} {o : Oper} {s : SV} {fs : List Fact} {st' : St} (h : stepX P call ev st o.op = some (s, fs, st')) :
    MemLe st.mem st'.mem ∧ ∀ ρ, (∀ x ∈ fs, Fact.ok fns ρ x) → KnOK ρ st.kn → KnOK ρ st'.kn ∧
    ∀ (E : Env) (a : Act) (w : World), E.ρ = ρ → Good E st.mem w → (∀ x u, ev x = some u → u.Rel E (a.eval x)) → ∀ (K : Act → World → Prop) (Q : Exit → Act → World → Prop),
      (∀ E' v w', Ext E E' st.mem.length w → s.Rel E' v → Good E' st'.mem w' → Fr (Vis E st.mem) w w' → K (a.put o.dst v) w') → o.wp P a w K Q := by
  unfold stepX at h
  split at h
  · rename_i t x hop
    split at h
    · rename_i b off hx
      split at h
      · rename_i B hB
        split at h
        · rename_i s' hs
          cases h
          refine ⟨MemLe.refl _, fun ρ _ hk => ⟨hk, fun E a w _ hg hev K Q hK => ?_⟩⟩
          obtain ⟨g, g1, g2, g3⟩ := hg.at_ b B hB
          obtain ⟨g', e1, e2⟩ := rel_ptr (hev _ _ hx)
          rw [g1] at e1; cases e1
          obtain ⟨r, hr, hrun⟩ := loadX_ok hs g3 g2
          refine wp_value (v := r) (w' := w) ?_ (hK E r w (Ext.refl _ _ _) hr hg (Fr.refl _ _))
          refine run_value (sm := Instr.loadAt t (a.eval x)) (by simp only [execOp, hop]) ?_
          rw [e2]; simp [Instr.loadAt, Instr.sureAddr, hrun]
        · cases h
      · cases h
    · rename_i b off len i hx
      split at h
      · rename_i B hB
        split at h
        · rename_i s' fs' hs
          cases h
          refine ⟨MemLe.refl _, fun ρ hf hk => ⟨hk, fun E a w hρ hg hev K Q hK => ?_⟩⟩
          subst hρ
          obtain ⟨g, g1, g2, g3⟩ := hg.at_ b B hB
          obtain ⟨hv, hok⟩ := hev _ _ hx
          rw [C.den, g1] at hv
          obtain ⟨r, hr, hrun⟩ := loadV_ok hs hf hok.2 g3 g2
          refine wp_value (v := r) (w' := w) ?_ (hK E r w (Ext.refl _ _ _) hr hg (Fr.refl _ _))
          refine run_value (sm := Instr.loadAt t (a.eval x)) (by simp only [execOp, hop]) ?_
          rw [hv]; simp [Instr.loadAt, Instr.sureAddr, hrun]
        · cases h
      · cases h
    · cases h
  · rename_i t x y hop
    split at h
    · rename_i b off s0 hx hy
      split at h
      · rename_i B hB
        split at h
        · rename_i cs hs
          cases h
          refine ⟨MemLe.set hB, fun ρ _ hk => ⟨hk, fun E a w _ hg hev K Q hK => ?_⟩⟩
          obtain ⟨g, g1, g2, g3⟩ := hg.at_ b B hB
          obtain ⟨g', e1, e2⟩ := rel_ptr (hev _ _ hx)
          rw [g1] at e1; cases e1
          obtain ⟨ho, hrun⟩ := storeX_ok hs g3 (hev _ _ hy) g2
          obtain ⟨g', q1, q2, q3, q4⟩ := hg.write hB ho
          rw [g1] at q1; cases q1
          refine wp_skip' ?_ (hK E undef _ (Ext.refl _ _ _) ⟨rfl, trivial⟩ q3 q4)
          simp only [execOp, hop, Sem.run_bind, e2, Instr.storeAt, Instr.sureAddr, Sem.run_pure, Result.andThen_ok, hrun]
        · cases h
      · cases h
    · rename_i b off len i s0 hx hy
      split at h
      · rename_i B hB
        split at h
        · rename_i cs fs' hs
          cases h
          refine ⟨MemLe.set hB, fun ρ hf hk => ⟨hk, fun E a w hρ hg hev K Q hK => ?_⟩⟩
          subst hρ
          obtain ⟨g, g1, g2, g3⟩ := hg.at_ b B hB
          obtain ⟨hv, hok⟩ := hev _ _ hx
          rw [C.den, g1] at hv
          obtain ⟨ho, hrun⟩ := storeV_ok hs hf hok.2 g3 (hev _ _ hy) g2
          obtain ⟨g', q1, q2, q3, q4⟩ := hg.write hB ho
          rw [g1] at q1; cases q1
          refine wp_skip' ?_ (hK E undef _ (Ext.refl _ _ _) ⟨rfl, trivial⟩ q3 q4)
          simp only [execOp, hop, Sem.run_bind, hv, Instr.storeAt, Instr.sureAddr, Sem.run_pure, Result.andThen_ok, hrun]
        · cases h
      · cases h
    · cases h
  · rename_i t x hop
    split at h
    · rename_i s0 hx
      split at h
      · rename_i l hl
        split at h
        · rename_i hu
          cases h
          refine ⟨MemLe.push _ _, fun ρ _ hk => ⟨hk, fun E a w _ hg hev K Q hK => ?_⟩⟩
          obtain ⟨hc, ho⟩ := cells_rel hl (hev _ _ hx) hu
          obtain ⟨hx', hg', hb'⟩ := hg.push t ho
          refine wp_value (v := .pointer (some ⟨w.heap.size, 0, none⟩)) (w' := w.alloc (.cells (dens E l).toArray t)) ?_ (hK _ _ _ hx' (ptr_rel 0 hb') hg' ((Fr.alloc _ _ _)))
          simp [execOp, hop, Instr.box, newVar, newRow, hc]
        · cases h
      · cases h
    · cases h
  · rename_i t hop
    split at h
    · rename_i l hl
      split at h
      · rename_i hu
        cases h
        refine ⟨MemLe.push _ _, fun ρ _ hk => ⟨hk, fun E a w _ hg hev K Q hK => ?_⟩⟩
        unfold zeroX at hl
        split at hl
        · rename_i i hi
          split at hl
          · rename_i z hz
            obtain ⟨e, ho⟩ := ofCells_ok (E := E) hl
            have e' : z.cells = (dens E l).toArray := Array.toList_inj.1 (by simpa using e)
            obtain ⟨hx', hg', hb'⟩ := hg.push t ho
            refine wp_value (v := .pointer (some ⟨w.heap.size, 0, none⟩)) (w' := w.alloc (.cells (dens E l).toArray t)) ?_ (hK _ _ _ hx' (ptr_rel 0 hb') hg' ((Fr.alloc _ _ _)))
            simp [execOp, hop, Instr.alloc, zeroValue, typeInfo, hi, hz, newVar, newRow, e']
          · cases hl
        · cases hl
      · cases h
    · cases h
  · rename_i t l c hop
    split at h
    · rename_i sl sc hl hc
      unfold makeX at h
      split at h
      · rename_i m c' hm hc'
        split at h
        · rename_i e hu
          split at h
          · rename_i i hi
            split at h
            · rename_i z hz
              split at h
              · rename_i zc hzc
                split at h
                · rename_i hb
                  simp only [Bool.and_eq_true] at hb
                  obtain ⟨⟨⟨⟨b1, b2⟩, b3⟩, b4⟩, b5⟩ := hb
                  have b1 := Nat.eq_of_beq_eq_true b1
                  have b3 := Nat.le_of_ble_eq_true b3
                  have b4 := Nat.le_of_ble_eq_true b4
                  have b5 := Nat.le_of_ble_eq_true b5
                  cases h
                  refine ⟨MemLe.push _ _, fun ρ _ hk => ⟨hk, fun E a w _ hg hev K Q hK => ?_⟩⟩
                  obtain ⟨kl, el⟩ := litNat_ok hm (hev _ _ hl)
                  obtain ⟨kc, ec⟩ := litNat_ok hc' (hev _ _ hc)
                  obtain ⟨ez, oz⟩ := ofCell_ok hzc E
                  have ho : oks E (List.replicate c' zc) := fun x hx => by rw [List.eq_of_mem_replicate hx]; exact oz
                  obtain ⟨hx', hg', hb'⟩ := hg.push e ho
                  have hmul : i.bytes * c' ≤ 1000000 * 1000000 := Nat.mul_le_mul b5 b4
                  have hI : (i.bytes : Int) * (c' : Int) ≤ 281474976710656 := by rw [← Int.natCast_mul]; omega
                  have hr := run_make (P := P) w t e i z hu hi hz kl kc (m : Int) (c' : Int) (by omega) (by omega) hI (by omega)
                  rw [Int.toNat_natCast, Int.toNat_natCast, b1, Nat.mul_one, cells_one (by rw [ez]; exact (noUndef_ok b2 oz).2), made_one, ez, ← replicate_dens] at hr
                  refine wp_value (v := .slice (some ⟨w.heap.size, 0, none⟩) m c') (w' := w.alloc (.cells (dens E (List.replicate c' zc)).toArray e)) ?_ (hK _ _ _ hx' (slc_rel 0 _ _ hb') hg' ((Fr.alloc _ _ _)))
                  refine run_value (o := o) (a := a) (sm := Instr.makeSlice t (a.eval l) (a.eval c)) (by simp only [execOp, hop]) ?_
                  rw [el, ec]; exact hr
                · cases h
              · cases h
            · cases h
          · cases h
        · cases h
      · cases h
    · cases h
  · rename_i args ats hop
    split at h
    · rename_i x y t t' hargs hats
      split at h
      · rename_i d s0 hx hy
        have ea : args = #[x, y] := Array.toList_inj.1 hargs
        have et : ats = #[t, t'] := Array.toList_inj.1 hats
        subst ea et
        unfold copyX at h
        split at h
        · rename_i b off len cap b' off' len' cap'
          split at h
          · rename_i e hu
            split at h
            · rename_i B B' sz hB hB' hs
              simp only at h
              split at h
              · rename_i hb
                simp only [Bool.and_eq_true] at hb
                obtain ⟨⟨⟨⟨b1, b2⟩, b3⟩, b4⟩, b5⟩ := hb
                have b1 := Nat.eq_of_beq_eq_true b1
                have b2 := Nat.eq_of_beq_eq_true b2
                have b3 := Nat.le_of_ble_eq_true b3
                cases h
                refine ⟨MemLe.set hB, fun ρ _ hk => ⟨hk, fun E a w _ hg hev K Q hK => ?_⟩⟩
                obtain ⟨g', k1, k2, k3⟩ := hg.at_ b' B' hB'
                obtain ⟨g'', e1, ey⟩ := rel_slc (hev _ _ hy)
                rw [k1] at e1; cases e1
                have oc : oks E ((B'.cs.drop off').take (min len' len)) := oks_sub k3 fun c hc => List.mem_of_mem_drop (List.mem_of_mem_take hc)
                have hB2 := hg.at_ b B hB
                obtain ⟨g, g1, g2, g3⟩ := hB2
                have ho : oks E (B.cs.take off ++ (B'.cs.drop off').take (min len' len) ++ B.cs.drop (off + min len' len)) := fun c hc => by
                  simp only [List.mem_append] at hc
                  rcases hc with (hc | hc) | hc
                  · exact g3 c (List.mem_of_mem_take hc)
                  · exact oc c hc
                  · exact g3 c (List.mem_of_mem_drop hc)
                obtain ⟨g'', q1, q2, q3, q4⟩ := hg.write hB ho
                rw [g1] at q1; cases q1
                obtain ⟨g'', e1, ex⟩ := rel_slc (hev _ _ hx)
                rw [g1] at e1; cases e1
                have hr := run_copy_row (P := P) w t t' o.type e g off len cap ⟨g', off', none⟩ len' cap' _ B.t (dens E ((B'.cs.drop off').take (min len' len))) hu (by unfold sizeX at hs; rw [hs, b1]) g2 (by rw [dens, List.length_map, b2])
                  (fun j v hj => by
                    rw [Addr.add_lit, cell_of_row w g' _ _ _ _ k2]
                    simp only [dens, List.getElem?_map, List.getElem?_toArray] at hj ⊢
                    rw [List.getElem?_take] at hj
                    split at hj
                    · rw [List.getElem?_drop] at hj; exact hj
                    · cases hj) (by rw [dens, List.length_map, b2]; simpa [dens] using b3) (fun v hv => by
                    obtain ⟨c, hc, rfl⟩ := List.mem_map.1 hv
                    exact (noUndef_ok (by rw [List.all_eq_true] at b4; exact b4 c hc) (oc c hc)).2)
                refine wp_value (v := goInt (dens E ((B'.cs.drop off').take (min len' len))).length) ?_ (hK E _ _ (Ext.refl _ _ _) ⟨?_, inB_ok b5⟩ q3 q4)
                · have hex : (execOp a.eval o).run P w = ((Builtin.copy_ #[t, t'] o.type #[a.eval x, a.eval y]).run P w).andThen fun v w => .ok (.value v) w := by
                    simp [execOp, hop, resolve, invoke, builtin]
                  rw [hex, ex, ey, hr]
                  simp only [Result.andThen_ok]
                  congr 2
                  simp [dens, List.map_take, List.map_drop]
                  rw [List.length_take, List.length_drop] at b2
                  omega
                · rw [dens, List.length_map, b2]; rfl
              · cases h
            · cases h
          · cases h
        · cases h
      · cases h
    · cases h
  · rename_i f args ats hop
    split at h
    · rename_i us hus
      obtain ⟨h1, h2⟩ := hcall f us st s fs st' h
      refine ⟨h1, fun ρ hf hk => ⟨(h2 ρ hf hk).1, fun E a w hρ hg hev K Q hK => ?_⟩⟩
      have := (h2 ρ hf hk).2 E w (args.toList.map a.eval) hρ hg (evsX_ok hev hus)
      exact this.wp hop (Array.toList_inj.1 (by simp)) fun v w' ⟨E', x1, x2, x3, x4⟩ => hK E' v w' x1 x2 x3 x4
    · cases h
  · rename_i t len parts hop
    unfold oneM at h
    split at h
    · rename_i s' m' hr
      cases h
      refine ⟨?_, fun ρ hf hk => ⟨hk, fun E a w hρ hg hev K Q hK => ?_⟩⟩
      · unfold rowX at hr
        split at hr
        · split at hr
          · split at hr
            · split at hr
              · cases hr; exact MemLe.push _ _
              · cases hr
            · cases hr
          · cases hr
        · cases hr
      · obtain ⟨E', v, w', x1, x2, x3, x4, x5⟩ := rowX_ok hg hev hr
        exact wp_value (run_value (sm := Instr.buildSlice t len (parts.map fun (i, x) => (i, a.eval x))) (by simp only [execOp, hop]) x5) (hK E' v w' x1 x2 x3 x4)
    · cases h
  · rename_i sT tT x hop
    split at h
    · rename_i b r hx
      split at h
      · rename_i hc
        cases h
        simp only [Bool.and_eq_true] at hc
        obtain ⟨e, hs, he⟩ := isBytesT_ok hc.1
        have hd := isStrT_ok hc.2
        refine ⟨MemLe.refl _, fun ρ hf hk => ⟨hk, fun E a w hρ hg hev K Q hK => ?_⟩⟩
        obtain ⟨hval, hstr, _⟩ := opq_rel (hev _ _ hx)
        refine wp_value (v := .string ⟨(decZ (r.den E.ρ)).toArray⟩) (w' := w) ?_ (hK E _ w (Ext.refl _ _ _) ⟨rfl, hstr⟩ hg (Fr.refl _ _))
        exact run_value (sm := convert sT tT (a.eval x)) (by simp only [execOp, hop]) (sl_str (hg.vl.rd _ _ _ hval) sT tT e hd hs he)
      · cases h
    · rename_i b off len cap hx
      split at h
      · rename_i rs hr
        split at h
        · rename_i hc
          cases h
          simp only [Bool.and_eq_true] at hc
          obtain ⟨e, hs, he⟩ := isBytesT_ok hc.1
          have hd := isStrT_ok hc.2
          refine ⟨MemLe.refl _, fun ρ hf hk => ⟨hk, fun E a w hρ hg hev K Q hK => ?_⟩⟩
          subst hρ
          obtain ⟨q1, q2⟩ := slcRefs_ok hg hr (hev _ _ hx)
          have hp0 := hf (.prim st.n 4 rs) (by simp)
          simp only [Fact.ok] at hp0
          have hp : E.ρ st.n = codZ ((rs.map (Ref.den E.ρ)).map fun x => UInt8.ofNat x.toNat) := hp0.trans (by simp only [primZ])
          refine wp_value (v := .string ⟨((rs.map (Ref.den E.ρ)).map fun z : Int => UInt8.ofNat z.toNat).toArray⟩) (w' := w) ?_ (hK E _ w (Ext.refl _ _ _) ⟨?_, ?_⟩ hg (Fr.refl _ _))
          · exact run_value (sm := convert sT tT (a.eval x)) (by simp only [execOp, hop]) (sl_str q1 sT tT e hd hs he)
          · show _ = Value.string ⟨(decZ (E.ρ st.n)).toArray⟩
            rw [hp, decZ_codZ]
          · show Str (E.ρ st.n)
            rw [hp]; exact Str.cod q2
        · rw [← hop] at h; exact pureS_ok h
      · rw [← hop] at h; exact pureS_ok h
    · rename_i c hne hne2 hx
      split at h
      · rename_i r hr
        split at h
        · rename_i hc
          cases h
          simp only [Bool.and_eq_true] at hc
          obtain ⟨e, hd, he⟩ := isBytesT_ok hc.2
          have hs := isStrT_ok hc.1
          refine ⟨MemLe.push _ _, fun ρ hf hk => ⟨hk, fun E a w hρ hg hev K Q hK => ?_⟩⟩
          subst hρ
          have f1 : (decZ (r.den E.ρ)).length ≤ 1000000000 := hf (.must 3 [r]) (by simp)
          obtain ⟨e1, s1⟩ := strRef_ok hr (hev _ _ hx).2
          have e2 := (hev _ _ hx).1
          rw [e1] at e2
          have hsz : (⟨(decZ (r.den E.ρ)).toArray⟩ : ByteArray).size = (decZ (r.den E.ρ)).length := by simp [ByteArray.size]
          obtain ⟨v', w', c1, c2, c3⟩ := run_str_bytes (P := P) (w := w) sT tT e (s := ⟨(decZ (r.den E.ρ)).toArray⟩) hs hd he ⟨by rw [hsz]; omega⟩
          rw [hsz] at c2
          have c2' : Own w' w.heap.size 1 v' (decZ (r.den E.ρ)).length (bvs (decZ (r.den E.ρ))) := c2
          obtain ⟨p1, p2, p3⟩ := hg.pushV c3 c2'.sl fun hp k hk => .inl (own_fresh c2' hp hk)
          obtain ⟨ad, cap, hform⟩ := c2'.sl.form
          refine wp_value (v := v') (w' := w') ?_ (hK _ v' w' p1 (opq_mk p3 s1 rfl ⟨ad, cap, hform⟩) p2 (Fr.ofBelow c3 _))
          exact run_value (sm := convert sT tT (a.eval x)) (by simp only [execOp, hop]) (by rw [e2]; exact c1)
        · cases h
      · rw [← hop] at h; exact pureS_ok h
    · rw [← hop] at h; exact pureS_ok h
  · rename_i t x lo hi hop
    split at h
    · rename_i b r hx
      obtain ⟨m1, m2⟩ := cutX_ok (fns := fns) (b := b) h
      refine ⟨m1, fun ρ hf hk => ⟨(m2 ρ hf hk).1, fun E a w hρ hg hev K Q hK => ?_⟩⟩
      obtain ⟨E', v, x1, x2, x3, x4⟩ := (m2 ρ hf hk).2 E a w x hρ hg hev (hev _ _ hx)
      refine wp_value (v := v) (w' := w) ?_ (hK E' v w x1 x2 x3 (Fr.refl _ _))
      exact run_value (sm := Instr.sliceAt t (a.eval x) (lo.map a.eval) (hi.map a.eval) none) (by simp only [execOp, hop]; rfl) x4
    · rw [← hop] at h; exact pureS_ok h
  · exact pureS_ok h
end
end Go.Sx
