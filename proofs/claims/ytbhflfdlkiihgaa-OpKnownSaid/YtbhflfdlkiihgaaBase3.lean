/- Words for slices, the third part: steps of a region that draws its order; copy; a box of cells. No condition. -/
import Derived.Test.YtbhflfdlkiihgaaBase2
import Derived.Deep.RegionLaw
import Derived.Laws.CopyOwn
import Derived.Deep.MidRow
namespace Go.Bx
open Go Go.RowKit

/-- A box of n cells, read as a slice. -/
theorem Sl.box {w : World} {g : Nat} {cs : Array Value} {t : TypeId} {fr : Nat × Nat} (hg : w.heap[g]? = some (.cells cs t fr)) (hm : cs.size ≤ maxLen) : Sl w 1 (.slice (some ⟨g, 0, none⟩) cs.size cs.size) cs.size cs.toList :=
  ⟨by simp, _, cs.size, rfl, Nat.le_refl _, hm, (by intro h; cases h), .inr ⟨g, 0, rfl, (Array.getElem?_eq_some_iff.1 hg).1, fun j u hj => by
    rw [cell_of_row w g _ cs t fr hg, Nat.zero_add]; simpa using hj⟩⟩

theorem step_append {P : Program} {ops : Array Oper} {o : Oper} {a : Act} {w : World} {K : Act → World → Prop} {Q : Exit → Act → World → Prop} {E : Prop} (hg : o.guard = none) (s x : Operand) (t tx : TypeId)
    (ho : o.op = .call { callee := .builtin .append, args := #[s, x], argTypes := #[t, tx] })
    {B sz : Nat} {v : Value} {n : Nat} {xs : List Value} (hown : Own w B sz v n xs) (hv : a.eval s = v)
    (e : TypeId) (i : TypeInfo) (z : Value) (bytes : Nat) (ht : P.underlying t = some (.slice e)) (hi : P.info? e = some i) (hz : i.zero = some z)
    (hsize : i.size = sz) (hby : i.bytes = bytes) (hzs : z.cells.size = sz) (hsz : 0 < sz)
    {y : Value} {m : Nat} {news : List Value} (hy : a.eval x = y) (hs : Src P sz tx y m news w)
    (h63 : n + m ≤ maxLen) (hbytes : (n + m) * bytes ≤ 140737488355328) (hbase : B ≤ w.heap.size)
    (h : ∀ v' w', Own w' B sz v' (n + m) (xs ++ news) → Fr (fun k => B ≤ k ∧ v.ownBlock = some k) w w' → (v'.ownBlock = v.ownBlock ∨ v'.ownBlock = some w.heap.size) → K (a.put o.dst v') w') :
    if Region.wanted o (yielded ops a.tmps) = true then Oper.wp P o a w K Q else E := by
  rw [if_pos (by simp [Region.wanted, hg])]
  exact wp_append s x t tx ho hown hv e i z bytes ht hi hz hsize hby hzs hsz hy hs h63 hbytes hbase h

/-- A call by its contract, as one step of a region that draws. -/
theorem step_calls {P : Program} {ops : Array Oper} {o : Oper} {a : Act} {w : World} {K : Act → World → Prop} {Q : Exit → Act → World → Prop} {E : Prop} (hg : o.guard = none) (f : FuncId) (args : List Operand) (ats : Array TypeId)
    (ho : o.op = .call { callee := .value (.func f), args := args.toArray, argTypes := ats }) {fn : Func} {c : Code} (hf : P.funcs[f]? = some fn) (hname : (fn.name == "runtime.NumGoroutine") = false) (hb : fn.body = some c)
    {vs : List Value} (hv : args.map a.eval = vs) {R : Ending → World → Prop} (hc : Calls P f vs.toArray w R) (hR : ∀ e w', R e w' → ∃ v, e = .returned v ∧ K (a.put o.dst v) w') :
    if Region.wanted o (yielded ops a.tmps) = true then Oper.wp P o a w K Q else E := by
  rw [if_pos (by simp [Region.wanted, hg])]
  have h1 : fn.name ≠ "runtime.NumGoroutine" := by simpa using hname
  have henter : ∀ (args : Array Value) (w : World), (callFunc f args).run P w = .ok (.enter f args) w := fun args w => by simp [callFunc, hf, h1, hb, mark]
  have hev : a.eval (.func f) = .func (.func f) #[] #[] := rfl
  unfold Oper.wp
  simp [execOp, ho, resolve, hev, hv, Deferred.ofValue, invoke, henter, Oper.upon]
  refine hc.mono fun e w' hr => ?_
  obtain ⟨v, rfl, hk⟩ := hR e w' hr
  exact hk
/-- copy into a row that lies in a block of its own. -/
theorem step_copy {P : Program} {ops : Array Oper} {o : Oper} {a : Act} {w : World} {K : Act → World → Prop} {Q : Exit → Act → World → Prop} {E : Prop} (hgd : o.guard = none) (d s : Operand) (dT sT : TypeId)
    (ho : o.op = .call { callee := .builtin .copy, args := #[d, s], argTypes := #[dT, sT] }) (elem : TypeId) (hu : P.underlying dT = some (.slice elem)) (hsz : (P.info? elem).map (·.size) = some 1)
    {g off dLen dCap : Nat} (hd : a.eval d = .slice (some ⟨g, off, none⟩) dLen dCap) {cur : Array Value} {t : TypeId} (hg : w.heap[g]? = some (.cells cur t (0, 0)))
    {sv : Value} {sn : Nat} {xs : List Value} (hs : a.eval s = sv) (hsl : Sl w 1 sv sn xs) (h1 : ∀ v ∈ xs, v.oneCell' = true) (hfit : off + Nat.min sn dLen ≤ cur.size)
    (h : ∀ w', w'.heap[g]? = some (.cells (splice cur.toList off (xs.take (Nat.min sn dLen))).toArray t (0, 0)) → Fr (· = g) w w' → K (a.put o.dst (.int .i64 (Nat.min sn dLen : Nat))) w') :
    if Region.wanted o (yielded ops a.tmps) = true then Oper.wp P o a w K Q else E := by
  rw [if_pos (by simp [Region.wanted, hgd])]
  obtain ⟨hl, sa, sc, rfl, hn, hm, h0, hq⟩ := hsl
  have hcl : (xs.take (Nat.min sn dLen)).length = Nat.min sn dLen := by rw [List.length_take, hl, Nat.mul_one]; exact Nat.min_eq_left (Nat.min_le_left _ _)
  obtain ⟨cs, hcs⟩ : ∃ cs, cs = xs.take (Nat.min sn dLen) := ⟨_, rfl⟩
  have h1c : ∀ v ∈ cs, v.oneCell' = true := fun v hv => h1 v (List.mem_of_mem_take (hcs ▸ hv))
  have hsrc : ∀ gs os, (∀ j u, xs[j]? = some u → w.cell? ⟨gs, os + j, none⟩ = some u) → ∀ j v, cs[j]? = some v → w.cell? ((⟨gs, os, none⟩ : Addr).add j) = some v := by
    intro gs os hc j v hj
    rw [hcs] at hj
    have hj2 : j < Nat.min sn dLen := by have := (List.getElem?_eq_some_iff.1 hj).1; rw [hcl] at this; exact this
    rw [List.getElem?_take_of_lt hj2] at hj
    rw [Addr.add_lit]; exact hc j v hj
  rw [← hcs] at hcl h
  clear hcs
  by_cases hz : Nat.min sn dLen = 0
  · obtain rfl : cs = [] := List.eq_nil_of_length_eq_zero (by omega)
    have hrun := run_copy_none (P := P) w dT sT o.type elem (some ⟨g, off, none⟩) sa dLen dCap sn sc hu hsz hz
    unfold Oper.wp
    simp [execOp, ho, resolve, invoke, builtin, hd, hs, hrun, Result.andThen]
    rw [hz] at h
    exact h w (by simpa [splice] using hg) (Fr.refl _ _)
  · rcases hq with hz2 | ⟨gs, os, rfl, hgs, hc⟩
    · subst hz2; exact absurd (Nat.zero_min _) hz
    have hrun := run_copy_row (P := P) w dT sT o.type elem g off dLen dCap ⟨gs, os, none⟩ sn sc cur t cs hu hsz hg hcl (hsrc gs os hc) (by rw [hcl]; exact hfit) h1c
    unfold Oper.wp
    simp only [execOp, ho, resolve, invoke, builtin, Sem.run_bind, Sem.run_pure, Result.andThen_ok, List.map_toArray, List.map_cons, List.map_nil, hd, hs, hrun]
    rw [← hcl] at h
    refine h _ ?_ ⟨rfl, rfl, rfl, by simp, fun k _ hk => setRow_other w g k _ hk⟩
    rw [show splice cur.toList off cs = cur.toList.take off ++ cs ++ cur.toList.drop (off + cs.length) from by simp [splice]]
    exact setRow_heap w g cur _ t _ hg
/-- A literal of bytes, just built. -/
theorem Sl.lit (w : World) (l : List UInt8) (t : TypeId) (hl : l.length ≤ maxLen) : Sl (w.alloc (.cells (bvs l).toArray t)) 1 (.slice (some ⟨w.heap.size, 0, none⟩) l.length l.length) l.length (bvs l) := by
  refine ⟨by rw [bvs_length, Nat.mul_one], _, l.length, rfl, Nat.le_refl _, ?_, (by intro h; cases h), .inr ⟨w.heap.size, 0, rfl, by simp, fun j u hj => ?_⟩⟩
  · exact hl
  · rw [World.cell?_alloc_at _ _ _ _ rfl, Nat.zero_add]; simpa using hj
/-- A result that lies in memory, many cells. -/
theorem results_cell_mid {P : Program} {fn : Func} {p : Tmp} {ty : TypeId} (h : fn.results = #[.cell p ty]) (tmps : Array Value) (w : World) (b o : Nat) (cs : List Value) (d : TypeDesc)
    (hp : tmps.getD p undef = .pointer (some ⟨b, o, none⟩)) (hc : w.rangeAt b o cs) (hu : P.underlying ty = some d) (hd : d.isRow = true) (hi : (P.info? ty).map (·.size) = some cs.length) :
    (results fn tmps).run P w = .ok (.agg cs.toArray) w := by
  have hp' : tmps[p]?.getD undef = .pointer (some ⟨b, o, none⟩) := by simpa using hp
  simp [results, h, hp', asAddr, run_loadVar_mid w b o ty cs d hc hu hd hi]
theorem rangeAt_of {w : World} {g : Nat} {cs : Array Value} {t : TypeId} {fr : Nat × Nat} (hg : w.heap[g]? = some (.cells cs t fr)) : w.rangeAt g 0 cs.toList := fun j v hv => by
  rw [cell_of_row w g _ cs t fr hg, Nat.zero_add]; simpa using hv
theorem there_of {w : World} {g : Nat} {cs : Array Value} {t : TypeId} (hg : w.heap[g]? = some (.cells cs t (0, 0))) : w.there g 0 cs.size := fun j hj => by
  rw [cell_of_row w g _ cs t _ hg, frozen_of_row w g _ cs t hg, Nat.zero_add, Array.getElem?_eq_getElem hj]; exact ⟨rfl, rfl⟩
theorem Fr.range {S : Nat → Prop} {w w' : World} (h : Fr S w w') {g o : Nat} (hs : ¬ S g) {cs : List Value} (hc : w.rangeAt g o cs) : w'.rangeAt g o cs := fun j v hv => h.cell (p := ⟨g, o + j, none⟩) hs (hc j v hv)
/-- The world under a name of its own. -/
theorem gen_world {P : Program} {c : Code} {Q : Exit → Act → World → Prop} {a : Act} {W : World} (h : ∀ W1, Held (W1 = W) → Code.wp P c Q a W1) : Code.wp P c Q a W := h W ⟨rfl⟩
theorem splice_all {α : Type} (L cs : List α) (h : cs.length = L.length) : splice L 0 cs = cs := by
  simp [splice, h]
theorem splice_none {α : Type} (L : List α) (o : Nat) : splice L o [] = L := by simp [splice]
end Go.Bx
