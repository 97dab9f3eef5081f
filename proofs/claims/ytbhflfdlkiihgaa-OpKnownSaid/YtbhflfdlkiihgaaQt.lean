/- Regions that draw their order and whose steps only read, or call what leaves old memory as it was: one walk serves every order, at the class 'old memory as it was'. No condition. -/
import Derived.Test.YtbhflfdlkiihgaaEq
import Derived.Test.YtbhflfdlkiihgaaBase3
namespace Go.Bx
open Go Go.RowKit

/-- A world in which all that W0 has is as it was. -/
structure ExtW (W0 : World) where
  w : World
  fr : Fr (fun _ => False) W0 w
instance extW_nonempty (W0 : World) : Nonempty (ExtW W0) := ⟨⟨W0, Fr.refl _ _⟩⟩
theorem ExtW.below {W0 : World} (x : ExtW W0) : Below W0.heap.size W0 x.w := x.fr.below (Nat.le_refl _) fun _ _ h => h
theorem ExtW.cell {W0 : World} (x : ExtW W0) {p : Addr} {v : Value} (h : W0.cell? p = some v) : x.w.cell? p = some v := x.fr.cell id h
theorem wp_region_q {P : Program} {id : Nat} {Q : Exit → Act → World → Prop} {a : Act} {w : World} {l : List Oper} (hm : P.follows .mixedOrders = true) (hB : Region.lexB .any l.toArray = true)
    (h : wpQuiet P l.toArray (fun w' => ∃ x : ExtW w, w' = x.w) (fun a' => ∀ x : ExtW w, Q .normal a' x.w) l a) : (Code.region id l.toArray true).wp P Q a w := by
  refine wp_region_quiet (C := fun w' => ∃ x : ExtW w, w' = x.w) hm hB ⟨⟨_, Fr.drew _ _⟩, rfl⟩ ?_
  have e : (fun a' => ∀ w', (∃ x : ExtW w, w' = x.w) → Q .normal a' w') = (fun a' => ∀ x : ExtW w, Q .normal a' x.w) := by
    funext a'
    exact propext ⟨fun h x => h _ ⟨x, rfl⟩, fun h w' ⟨x, hx⟩ => hx ▸ h x⟩
  rw [e]
  exact h
theorem below_drewN {B : Nat} {w w' : World} (h : Below B w w') (n : Nat) : Below B w (w'.drewN n) := ⟨h.os, h.tape, h.output, h.size, h.block⟩
/-- Blocks just laid, the first, the second and the third. -/
theorem laid0 (w : World) (A : Obj) : (w.alloc A).heap[w.heap.size]? = some A := heap_alloc_new _ _
theorem laid1 {w : World} {k : Nat} {A : Obj} (h : w.heap[k]? = some A) (B : Obj) : (w.alloc B).heap[k]? = some A := by
  rw [heap_alloc_old _ _ (Array.getElem?_eq_some_iff.1 h).1]; exact h
theorem laidN {w w' : World} (o : Obj) {n : Nat} (h : w'.heap.size = n) (_hw : w = w') : (w'.alloc o).heap[n]? = some o := by
  subst h; exact heap_alloc_new _ _
/-- The load of a box. -/
theorem wpList_loadB {P : Program} {ops : Array Oper} {rest : List Oper} {op : Oper} {a : Act} {w : World} {Q : Exit → Act → World → Prop} (hgd : Region.wanted op (yielded ops a.tmps) = true) {ty : TypeId} {x : Operand} (ho : op.op = .load ty x)
    {g : Nat} {cs : List Value} {t : TypeId} (hg : w.heap[g]? = some (.cells cs.toArray t (0, 0))) (hx : a.eval x = .pointer (some ⟨g, 0, none⟩)) {d : TypeDesc}
    (hu : P.underlying ty = some d) (hd : d.isRow = true) (hi : (P.info? ty).map (·.size) = some cs.length)
    (h : wpList P ops Q rest (a.put op.dst (.agg cs.toArray)) w) : wpList P ops Q (op :: rest) a w :=
  wpList_wanted hgd fun _ hK => wp_load_mid ty x ho g 0 hx cs d (by have := rangeAt_of hg; simpa using this) hu hd hi (hK _ _ h)
/-- The store of a whole box. -/
theorem wpList_storeB {P : Program} {ops : Array Oper} {rest : List Oper} {op : Oper} {a : Act} {w : World} {Q : Exit → Act → World → Prop} (hgd : Region.wanted op (yielded ops a.tmps) = true) (hdst : op.dst = none) {ty : TypeId} {x y : Operand} (ho : op.op = .store ty x y)
    {g : Nat} {z : Array Value} {cs : List Value} {t : TypeId} (hg : w.heap[g]? = some (.cells z t (0, 0))) (hz : z.size = cs.length) (hx : a.eval x = .pointer (some ⟨g, 0, none⟩)) (hy : a.eval y = .agg cs.toArray)
    (hi : (P.info? ty).map (·.size) = some cs.length) (h1 : ∀ u ∈ cs, u.oneCell' = true)
    (h : ∀ w', w'.rangeAt g 0 cs → w'.there g 0 cs.length → Fr (· = g) w w' → w'.heap.size = w.heap.size → wpList P ops Q rest a w') : wpList P ops Q (op :: rest) a w :=
  wpList_wanted hgd fun _ hK => by
    have ht : w.there g 0 cs.length := by have := there_of hg; rwa [hz] at this
    refine wp_store_mid ty x y ho g 0 cs.toArray hx hy (by simpa using ht) (by simpa using hi) (all_oneCell_toArray h1) (hK _ _ ?_)
    rw [hdst]
    exact (h _ (World.rangeAt_setCells_same _ _ _ _ ht) (World.there_setCells ht _ _ _) (Fr.setCells _ _ _ _ rfl) (heap_setCells _ _ _ _).2.2.2.1)
/-- The element of an array value. -/
theorem run_indexI {P : Program} {t e : TypeId} {n : Nat} {k kk : IntKind} {i : TypeInfo} (ht : P.underlying t = some (.array n e)) (he : P.underlying e = some (.int k)) (hi : P.info? e = some i) (h1 : i.size = 1)
    {a : List Int} {j : Nat} {x : Int} (hj : j < n) (hx : a[j]? = some x) (w : World) : (Instr.index t (.agg (a.map (Value.int k)).toArray) (.int kk j)).run P w = .ok (.int k x) w := by
  simp [Instr.index, asIntOf, run_underlying ht, hj, sizeOf, typeInfo, hi, h1, part, isAgg, run_underlying he, hx]
/-- What a call answers, wherever W0's memory is as it was. -/
structure CallQ (P : Program) (f : FuncId) (vs : List Value) (W0 : World) (v : Value) : Prop where
  fn : ∃ fn c, P.funcs[f]? = some fn ∧ (fn.name == "runtime.NumGoroutine") = false ∧ fn.body = some c
  go : ∀ x : ExtW W0, Calls P f vs.toArray x.w fun e w'' => e = .returned v ∧ ∃ y : ExtW W0, w'' = y.w
theorem CallQ.mk' {P : Program} {f : FuncId} {vs : List Value} {W0 : World} {v : Value} {fn : Func} {c : Code} (hf : P.funcs[f]? = some fn) (hn : (fn.name == "runtime.NumGoroutine") = false) (hb : fn.body = some c)
    (h : ∀ x : ExtW W0, Calls P f vs.toArray x.w fun e w'' => e = .returned v ∧ Below x.w.heap.size x.w w'') : CallQ P f vs W0 v :=
  ⟨⟨fn, c, hf, hn, hb⟩, fun x => (h x).mono fun _ w'' ⟨he, hb⟩ => ⟨he, ⟨w'', x.fr.trans (Fr.ofBelow hb _)⟩, rfl⟩⟩
structure LoadQ (P : Program) (t : TypeId) (W0 : World) (p v : Value) : Prop where
  go : ∀ x : ExtW W0, ∀ a : Act, ∀ s : Operand, a.eval s = p → (execOp a.eval { dst := none, op := .load t s, type := t, pos := "", after := #[], guard := none }).run P x.w = .ok (.value v) x.w
structure EqQ (P : Program) (t : TypeId) (u u' : Value) (b : Bool) : Prop where
  go : ∀ (w : World) (a : Act) (x y : Operand), a.eval x = u → a.eval y = u' → (execOp a.eval { dst := none, op := .binOp .eql t x y t, type := t, pos := "", after := #[], guard := none }).run P w = .ok (.value (.bool b)) w
theorem EqQ.of {P : Program} {t : TypeId} {c d : Array Value} {b : Bool} (hm : P.eqGuardType P.depth t = false) (h : ∀ w : World, (Op.equalIn 10000 t (.agg c) (.agg d)).run P w = .ok b w) : EqQ P t (.agg c) (.agg d) b :=
  ⟨fun w a x y hx hy => by simp [execOp, hx, hy, run_eqGuard_agg (hm := hm), binOp, Op.equal, Op.maxDepth, h]⟩
theorem wpList_eqB {P : Program} {ops : Array Oper} {rest : List Oper} {op : Oper} {a : Act} {w : World} {Q : Exit → Act → World → Prop} (hgd : Region.wanted op (yielded ops a.tmps) = true) {t t' : TypeId} {x y : Operand} (ho : op.op = .binOp .eql t x y t')
    {u u' : Value} {b : Bool} (hl : EqQ P t u u' b) (hx : a.eval x = u) (hy : a.eval y = u')
    (h : wpList P ops Q rest (a.put op.dst (.bool b)) w) : wpList P ops Q (op :: rest) a w :=
  wpList_wanted hgd fun _ hK => by
    have hr := hl.go w a x y hx hy
    simp only [execOp] at hr
    unfold Oper.wp execOp
    simp only [ho, hr]
    exact hK _ _ h
section
variable {P : Program} {W0 : World} {dst : Option Tmp} {type : TypeId} {pos : String} {after : Array Edge} {guard : Option (Nat × Bool)} {a : Act} {K : Act → Prop} {v : Value}
theorem quiet_const {op : Op} (hy : ∀ x : ExtW W0, (execOp a.eval { dst, op, type, pos, after, guard }).run P x.w = .ok (.value v) x.w)
    (h : Oper.quiet P { dst, op := .move (.const v), type, pos, after, guard } a (fun w' => ∃ x : ExtW W0, w' = x.w) K) :
    Oper.quiet P { dst, op, type, pos, after, guard } a (fun w' => ∃ x : ExtW W0, w' = x.w) K := by
  obtain ⟨u, h1, h2⟩ := h
  have hu : u = v := by
    have := h1 W0 ⟨⟨W0, Fr.refl _ _⟩, rfl⟩
    unfold Oper.quietAt at this
    rw [BigFrame.run_move (.const v) rfl] at this
    exact this.2.symm
  subst hu
  refine ⟨_, ?_, h2⟩
  rintro w ⟨x, rfl⟩
  unfold Oper.quietAt
  rw [hy x]
  exact ⟨rfl, rfl⟩
theorem quiet_call {f : FuncId} {args : List Operand} {ats : Array TypeId} {vs : List Value} (hc : CallQ P f vs W0 v) (hv : args.map a.eval = vs)
    (h : Oper.quiet P { dst, op := .move (.const v), type, pos, after, guard } a (fun w' => ∃ x : ExtW W0, w' = x.w) K) :
    Oper.quiet P { dst, op := .call { callee := .value (.func f), args := args.toArray, argTypes := ats }, type, pos, after, guard } a (fun w' => ∃ x : ExtW W0, w' = x.w) K := by
  obtain ⟨u, h1, h2⟩ := h
  have hu : u = v := by
    have := h1 W0 ⟨⟨W0, Fr.refl _ _⟩, rfl⟩
    unfold Oper.quietAt at this
    rw [BigFrame.run_move (.const v) rfl] at this
    exact this.2.symm
  subst hu
  refine ⟨_, ?_, h2⟩
  rintro w ⟨x, rfl⟩
  obtain ⟨fn, c, hf, hname, hb⟩ := hc.fn
  have h1 : fn.name ≠ "runtime.NumGoroutine" := by simpa using hname
  have henter : ∀ (args : Array Value) (w : World), (callFunc f args).run P w = .ok (.enter f args) w := fun args w => by simp [callFunc, hf, h1, hb, mark]
  have hev : a.eval (.func f) = .func (.func f) #[] #[] := rfl
  unfold Oper.quietAt
  simp [execOp, resolve, hev, hv, Deferred.ofValue, invoke, henter, Oper.quietUpon]
  exact hc.go x
theorem quiet_load {t : TypeId} {s : Operand} {p : Value} (hs : a.eval s = p) (hl : LoadQ P t W0 p v)
    (h : Oper.quiet P { dst, op := .move (.const v), type, pos, after, guard } a (fun w' => ∃ x : ExtW W0, w' = x.w) K) :
    Oper.quiet P { dst, op := .load t s, type, pos, after, guard } a (fun w' => ∃ x : ExtW W0, w' = x.w) K :=
  quiet_const (fun x => by have := hl.go x a s hs; simpa only [execOp] using this) h
theorem quiet_eql {t ty' : TypeId} {x y : Operand} {u u' : Value} {b : Bool} (hx : a.eval x = u) (hy : a.eval y = u') (hl : EqQ P t u u' b)
    (h : Oper.quiet P { dst, op := .move (.const (.bool b)), type, pos, after, guard } a (fun w' => ∃ x : ExtW W0, w' = x.w) K) :
    Oper.quiet P { dst, op := .binOp .eql t x y ty', type, pos, after, guard } a (fun w' => ∃ x : ExtW W0, w' = x.w) K :=
  quiet_const (fun z => by have := hl.go z.w a x y hx hy; simpa only [execOp] using this) h
/-- A box of cells reads as the array. -/
theorem LoadQ.of {t : TypeId} {d : TypeDesc} {g o : Nat} {cs : List Value} (hu : P.underlying t = some d) (hd : d.isRow = true) (hi : (P.info? t).map (·.size) = some cs.length) (hc : W0.rangeAt g o cs) :
    LoadQ P t W0 (.pointer (some ⟨g, o, none⟩)) (.agg cs.toArray) :=
  ⟨fun x a s hs => by
    have hr : x.w.rangeAt g o cs := x.fr.range id hc
    simp [execOp, hs, Instr.loadAt, Instr.sureAddr, run_loadVar_mid x.w g o t cs d hr hu hd hi]⟩
end
end Go.Bx
