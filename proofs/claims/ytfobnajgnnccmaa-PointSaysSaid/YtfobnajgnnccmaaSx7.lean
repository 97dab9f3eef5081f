/- One step of a walk, over names: memory, calls. No condition. -/
import Derived.Test.YtfobnajgnnccmaaSx6
namespace Go.Sx
open Go Go.RowKit Go.Bx

/-- A call: of a function with a body, or of one that the model knows. -/
def Goes (P : Program) (f : FuncId) (vs : Array Value) (w : World) (R : Value → World → Prop) : Prop :=
  (∃ fn c, P.funcs[f]? = some fn ∧ (fn.name == "runtime.NumGoroutine") = false ∧ fn.body = some c ∧ Calls P f vs w fun e w' => ∃ v, e = .returned v ∧ R v w') ∨
  ∃ v, (callFunc f vs).run P w = .ok (.value v) w ∧ R v w
theorem Goes.mono {P : Program} {f : FuncId} {vs : Array Value} {w : World} {R R' : Value → World → Prop} (h : Goes P f vs w R) (hr : ∀ v w', R v w' → R' v w') : Goes P f vs w R' := by
  rcases h with ⟨fn, c, h1, h2, h3, h4⟩ | ⟨v, h1, h2⟩
  · exact .inl ⟨fn, c, h1, h2, h3, h4.mono fun e w' ⟨v, he, hv⟩ => ⟨v, he, hr v w' hv⟩⟩
  · exact .inr ⟨v, h1, hr v w h2⟩
theorem Goes.wp {P : Program} {f : FuncId} {vs : Array Value} {w : World} {R : Value → World → Prop} (h : Goes P f vs w R) {o : Oper} {args : Array Operand} {ats : Array TypeId} (ho : o.op = .call { callee := .value (.func f), args, argTypes := ats }) {a : Act}
    (hv : args.map a.eval = vs) {K : Act → World → Prop} {Q : Exit → Act → World → Prop} (hK : ∀ v w', R v w' → K (a.put o.dst v) w') : o.wp P a w K Q := by
  have hev : a.eval (.func f) = .func (.func f) #[] #[] := rfl
  rcases h with ⟨fn, c, h1, h2, h3, h4⟩ | ⟨v, h1, h2⟩
  · have hn : fn.name ≠ "runtime.NumGoroutine" := by simpa using h2
    have henter : (callFunc f vs).run P w = .ok (.enter f vs) w := by simp [callFunc, h1, hn, h3, mark]
    unfold Oper.wp
    simp [execOp, ho, resolve, hev, hv, Deferred.ofValue, invoke, henter, Oper.upon]
    refine h4.mono fun e w' ⟨v, he, hr⟩ => ?_
    subst he
    exact hK v w' hr
  · unfold Oper.wp
    simp [execOp, ho, resolve, hev, hv, Deferred.ofValue, invoke, h1, Oper.upon]
    exact hK v w h2
def CallOK (P : Program) (fns : Fns) (call : CallH) : Prop :=
  ∀ f args st s fs st', call f args st = some (s, fs, st') → MemLe st.mem st'.mem ∧ ∀ ρ, (∀ x ∈ fs, Fact.ok fns ρ x) → KnOK ρ st.kn → KnOK ρ st'.kn ∧
    ∀ (E : Env) (w : World) (vs : List Value), E.ρ = ρ → Good E st.mem w → RelL E args vs → Goes P f vs.toArray w fun v w' => ∃ E', Ext E E' st.mem.length w ∧ s.Rel E' v ∧ Good E' st'.mem w' ∧ Fr (Vis E st.mem) w w'
def oneM (st : St) : Option (SV × Mem) → Option (SV × List Fact × St)
  | some (s, m) => some (s, [], { st with mem := m })
  | none => none
/-- Memory laid: the cells of a literal slice. -/
def makeX (P : Program) (t : TypeId) (l c : SV) (mem : Mem) : Option (SV × Mem) :=
  match litNat l, litNat c with
  | some l, some c => match P.underlying t with
    | some (.slice e) => match P.info? e with
      | some i => match i.zero with
        | some z => match ofCell z with
          | some zc => if Nat.beq i.size 1 && noUndef zc && Nat.ble l c && Nat.ble c 1000000 && Nat.ble i.bytes 1000000 then some (.c (.slc mem.length 0 l c), mem ++ [some ⟨e, List.replicate c zc⟩]) else none
          | none => none
        | none => none
      | none => none
    | _ => none
  | _, _ => none
def copyX (P : Program) (dT : TypeId) (d s : SV) (mem : Mem) : Option (SV × Mem) :=
  match d, s with
  | .c (.slc b off len _), .c (.slc b' off' len' _) => match P.underlying dT with
    | some (.slice e) => match mem[b]?, mem[b']?, sizeX P e with
      | some (some B), some (some B'), some sz =>
        let n := min len' len
        let cs := (B'.cs.drop off').take n
        if Nat.beq sz 1 && Nat.beq cs.length n && Nat.ble (off + n) B.cs.length && cs.all noUndef && inB .i64 n then some (.c (.int .i64 (.l n)), mem.set b (some { B with cs := B.cs.take off ++ cs ++ B.cs.drop (off + n) })) else none
      | _, _, _ => none
    | _ => none
  | _, _ => none
def stepX (P : Program) (call : CallH) (ev : Ev) (st : St) (op : Op) : Option (SV × List Fact × St) :=
  match op with
  | .load t x => match ev x with
    | some (.c (.ptr b off)) => match st.mem[b]? with
      | some (some B) => match loadX P t B.cs off with
        | some s => some (s, [], st)
        | none => none
      | _ => none
    | some (.c (.ptrx b off len i)) => match st.mem[b]? with
      | some (some B) => match loadV P t B.cs off len i st.n with
        | some (s, fs) => some (s, fs, { st with n := st.n + 1 })
        | none => none
      | _ => none
    | _ => none
  | .store t x y => match ev x, ev y with
    | some (.c (.ptr b off)), some s => match st.mem[b]? with
      | some (some B) => match storeX P t B.cs off s with
        | some cs => some (.c .undef, [], { st with mem := st.mem.set b (some { B with cs := cs }) })
        | none => none
      | _ => none
    | some (.c (.ptrx b off len i)), some s => match st.mem[b]? with
      | some (some B) => match storeV P t B.cs off len i st.n s with
        | some (cs, fs) => some (.c .undef, fs, { st with mem := st.mem.set b (some { B with cs := cs }), n := st.n + len })
        | none => none
      | _ => none
    | _, _ => none
  | .box t x => match ev x with
    | some s => match cellsOf s with
      | some l => if l.all noUndef then some (.c (.ptr st.mem.length 0), [], { st with mem := st.mem ++ [some ⟨t, l⟩] }) else none
      | none => none
    | none => none
  | .alloc t => match zeroX P t with
    | some l => if l.all noUndef then some (.c (.ptr st.mem.length 0), [], { st with mem := st.mem ++ [some ⟨t, l⟩] }) else none
    | none => none
  | .makeSlice t l c => match ev l, ev c with
    | some l, some c => oneM st (makeX P t l c st.mem)
    | _, _ => none
  | .call { callee := .builtin .copy, args, argTypes } => match args.toList, argTypes.toList with
    | [x, y], [t, _] => match ev x, ev y with
      | some d, some s => oneM st (copyX P t d s st.mem)
      | _, _ => none
    | _, _ => none
  | .call { callee := .value (.func f), args, argTypes := _ } => match evsX ev args.toList with
    | some us => call f us st
    | none => none
  | op => match pureX P ev st.n st.kn op with
    | some (s, fs, n') => some (s, fs, { st with n := n' })
    | none => none
section
variable {P : Program} {fns : Fns}
theorem wp_value {o : Oper} {a : Act} {v : Value} {w w' : World} {K : Act → World → Prop} {Q : Exit → Act → World → Prop} (h : (execOp a.eval o).run P w = .ok (.value v) w') (hK : K (a.put o.dst v) w') : o.wp P a w K Q := by
  unfold Oper.wp; rw [h]; exact hK
theorem wp_skip' {o : Oper} {a : Act} {w w' : World} {K : Act → World → Prop} {Q : Exit → Act → World → Prop} (h : (execOp a.eval o).run P w = .ok .skip w') (hK : K (a.put o.dst undef) w') : o.wp P a w K Q := by
  unfold Oper.wp; rw [h]; exact hK
theorem replicate_dens (E : Env) (c : Nat) (z : C) : dens E (List.replicate c z) = List.replicate c (z.den E) := by simp [dens]
theorem made_one (z : Value) (n : Nat) : madeCells #[z] n = (List.replicate n z).toArray := by
  apply Array.ext
  · simp [size_madeCells]
  · intro i h1 h2; simp [madeCells, Nat.mod_one]
theorem stepX_ok {call : CallH} (hcall : CallOK P fns call) {ev : Ev} {st : St} {o : Oper} {s : SV} {fs : List Fact} {st' : St} (h : stepX P call ev st o.op = some (s, fs, st')) :
    MemLe st.mem st'.mem ∧ ∀ ρ, (∀ x ∈ fs, Fact.ok fns ρ x) → KnOK ρ st.kn → KnOK ρ st'.kn ∧
    ∀ (E : Env) (a : Act) (w : World), E.ρ = ρ → Good E st.mem w → (∀ x u, ev x = some u → u.Rel E (a.eval x)) → ∀ (K : Act → World → Prop) (Q : Exit → Act → World → Prop),
      (∀ E' v w', Ext E E' st.mem.length w → s.Rel E' v → Good E' st'.mem w' → Fr (Vis E st.mem) w w' → K (a.put o.dst v) w') → o.wp P a w K Q := by
  unfold stepX at h
  split at h
  · rename_i t x hop
    split at h
    · rename_i b off hx
      split at h
      · rename_i B hB
        split at h
        · rename_i s' hs
          cases h
          refine ⟨MemLe.refl _, fun ρ _ hk => ⟨hk, fun E a w _ hg hev K Q hK => ?_⟩⟩
          obtain ⟨g, g1, g2, g3⟩ := hg.at_ b B hB
          obtain ⟨g', e1, e2⟩ := rel_ptr (hev _ _ hx)
          rw [g1] at e1; cases e1
          obtain ⟨r, hr, hrun⟩ := loadX_ok hs g3 g2
          refine wp_value (v := r) (w' := w) ?_ (hK E r w (Ext.refl _ _ _) hr hg (Fr.refl _ _))
          refine run_value (sm := Instr.loadAt t (a.eval x)) (by simp only [execOp, hop]) ?_
          rw [e2]; simp [Instr.loadAt, Instr.sureAddr, hrun]
        · cases h
      · cases h
    · rename_i b off len i hx
      split at h
      · rename_i B hB
        split at h
        · rename_i s' fs' hs
          cases h
          refine ⟨MemLe.refl _, fun ρ hf hk => ⟨hk, fun E a w hρ hg hev K Q hK => ?_⟩⟩
          subst hρ
          obtain ⟨g, g1, g2, g3⟩ := hg.at_ b B hB
          obtain ⟨hv, hok⟩ := hev _ _ hx
          rw [C.den, g1] at hv
          obtain ⟨r, hr, hrun⟩ := loadV_ok hs hf hok.2 g3 g2
          refine wp_value (v := r) (w' := w) ?_ (hK E r w (Ext.refl _ _ _) hr hg (Fr.refl _ _))
          refine run_value (sm := Instr.loadAt t (a.eval x)) (by simp only [execOp, hop]) ?_
          rw [hv]; simp [Instr.loadAt, Instr.sureAddr, hrun]
        · cases h
      · cases h
    · cases h
  · rename_i t x y hop
    split at h
    · rename_i b off s0 hx hy
      split at h
      · rename_i B hB
        split at h
        · rename_i cs hs
          cases h
          refine ⟨MemLe.set hB, fun ρ _ hk => ⟨hk, fun E a w _ hg hev K Q hK => ?_⟩⟩
          obtain ⟨g, g1, g2, g3⟩ := hg.at_ b B hB
          obtain ⟨g', e1, e2⟩ := rel_ptr (hev _ _ hx)
          rw [g1] at e1; cases e1
          obtain ⟨ho, hrun⟩ := storeX_ok hs g3 (hev _ _ hy) g2
          obtain ⟨g', q1, q2, q3, q4⟩ := hg.write hB ho
          rw [g1] at q1; cases q1
          refine wp_skip' ?_ (hK E undef _ (Ext.refl _ _ _) ⟨rfl, trivial⟩ q3 q4)
          simp only [execOp, hop, Sem.run_bind, e2, Instr.storeAt, Instr.sureAddr, Sem.run_pure, Result.andThen_ok, hrun]
        · cases h
      · cases h
    · rename_i b off len i s0 hx hy
      split at h
      · rename_i B hB
        split at h
        · rename_i cs fs' hs
          cases h
          refine ⟨MemLe.set hB, fun ρ hf hk => ⟨hk, fun E a w hρ hg hev K Q hK => ?_⟩⟩
          subst hρ
          obtain ⟨g, g1, g2, g3⟩ := hg.at_ b B hB
          obtain ⟨hv, hok⟩ := hev _ _ hx
          rw [C.den, g1] at hv
          obtain ⟨ho, hrun⟩ := storeV_ok hs hf hok.2 g3 (hev _ _ hy) g2
          obtain ⟨g', q1, q2, q3, q4⟩ := hg.write hB ho
          rw [g1] at q1; cases q1
          refine wp_skip' ?_ (hK E undef _ (Ext.refl _ _ _) ⟨rfl, trivial⟩ q3 q4)
          simp only [execOp, hop, Sem.run_bind, hv, Instr.storeAt, Instr.sureAddr, Sem.run_pure, Result.andThen_ok, hrun]
        · cases h
      · cases h
    · cases h
  · rename_i t x hop
    split at h
    · rename_i s0 hx
      split at h
      · rename_i l hl
        split at h
        · rename_i hu
          cases h
          refine ⟨MemLe.push _ _, fun ρ _ hk => ⟨hk, fun E a w _ hg hev K Q hK => ?_⟩⟩
          obtain ⟨hc, ho⟩ := cells_rel hl (hev _ _ hx) hu
          obtain ⟨hx', hg', hb'⟩ := hg.push t ho
          refine wp_value (v := .pointer (some ⟨w.heap.size, 0, none⟩)) (w' := w.alloc (.cells (dens E l).toArray t)) ?_ (hK _ _ _ hx' (ptr_rel 0 hb') hg' ((Fr.alloc _ _ _)))
          simp [execOp, hop, Instr.box, newVar, newRow, hc]
        · cases h
      · cases h
    · cases h
  · rename_i t hop
    split at h
    · rename_i l hl
      split at h
      · rename_i hu
        cases h
        refine ⟨MemLe.push _ _, fun ρ _ hk => ⟨hk, fun E a w _ hg hev K Q hK => ?_⟩⟩
        unfold zeroX at hl
        split at hl
        · rename_i i hi
          split at hl
          · rename_i z hz
            obtain ⟨e, ho⟩ := ofCells_ok (E := E) hl
            have e' : z.cells = (dens E l).toArray := Array.toList_inj.1 (by simpa using e)
            obtain ⟨hx', hg', hb'⟩ := hg.push t ho
            refine wp_value (v := .pointer (some ⟨w.heap.size, 0, none⟩)) (w' := w.alloc (.cells (dens E l).toArray t)) ?_ (hK _ _ _ hx' (ptr_rel 0 hb') hg' ((Fr.alloc _ _ _)))
            simp [execOp, hop, Instr.alloc, zeroValue, typeInfo, hi, hz, newVar, newRow, e']
          · cases hl
        · cases hl
      · cases h
    · cases h
  · rename_i t l c hop
    split at h
    · rename_i sl sc hl hc
      unfold makeX at h
      split at h
      · rename_i m c' hm hc'
        split at h
        · rename_i e hu
          split at h
          · rename_i i hi
            split at h
            · rename_i z hz
              split at h
              · rename_i zc hzc
                split at h
                · rename_i hb
                  simp only [Bool.and_eq_true] at hb
                  obtain ⟨⟨⟨⟨b1, b2⟩, b3⟩, b4⟩, b5⟩ := hb
                  have b1 := Nat.eq_of_beq_eq_true b1
                  have b3 := Nat.le_of_ble_eq_true b3
                  have b4 := Nat.le_of_ble_eq_true b4
                  have b5 := Nat.le_of_ble_eq_true b5
                  cases h
                  refine ⟨MemLe.push _ _, fun ρ _ hk => ⟨hk, fun E a w _ hg hev K Q hK => ?_⟩⟩
                  obtain ⟨kl, el⟩ := litNat_ok hm (hev _ _ hl)
                  obtain ⟨kc, ec⟩ := litNat_ok hc' (hev _ _ hc)
                  obtain ⟨ez, oz⟩ := ofCell_ok hzc E
                  have ho : oks E (List.replicate c' zc) := fun x hx => by rw [List.eq_of_mem_replicate hx]; exact oz
                  obtain ⟨hx', hg', hb'⟩ := hg.push e ho
                  have hmul : i.bytes * c' ≤ 1000000 * 1000000 := Nat.mul_le_mul b5 b4
                  have hI : (i.bytes : Int) * (c' : Int) ≤ 281474976710656 := by rw [← Int.natCast_mul]; omega
                  have hr := run_make (P := P) w t e i z hu hi hz kl kc (m : Int) (c' : Int) (by omega) (by omega) hI (by omega)
                  rw [Int.toNat_natCast, Int.toNat_natCast, b1, Nat.mul_one, cells_one (by rw [ez]; exact (noUndef_ok b2 oz).2), made_one, ez, ← replicate_dens] at hr
                  refine wp_value (v := .slice (some ⟨w.heap.size, 0, none⟩) m c') (w' := w.alloc (.cells (dens E (List.replicate c' zc)).toArray e)) ?_ (hK _ _ _ hx' (slc_rel 0 _ _ hb') hg' ((Fr.alloc _ _ _)))
                  refine run_value (o := o) (a := a) (sm := Instr.makeSlice t (a.eval l) (a.eval c)) (by simp only [execOp, hop]) ?_
                  rw [el, ec]; exact hr
                · cases h
              · cases h
            · cases h
          · cases h
        · cases h
      · cases h
    · cases h
  · rename_i args ats hop
    split at h
    · rename_i x y t t' hargs hats
      split at h
      · rename_i d s0 hx hy
        have ea : args = #[x, y] := Array.toList_inj.1 hargs
        have et : ats = #[t, t'] := Array.toList_inj.1 hats
        subst ea et
        unfold copyX at h
        split at h
        · rename_i b off len cap b' off' len' cap'
          split at h
          · rename_i e hu
            split at h
            · rename_i B B' sz hB hB' hs
              simp only at h
              split at h
              · rename_i hb
                simp only [Bool.and_eq_true] at hb
                obtain ⟨⟨⟨⟨b1, b2⟩, b3⟩, b4⟩, b5⟩ := hb
                have b1 := Nat.eq_of_beq_eq_true b1
                have b2 := Nat.eq_of_beq_eq_true b2
                have b3 := Nat.le_of_ble_eq_true b3
                cases h
                refine ⟨MemLe.set hB, fun ρ _ hk => ⟨hk, fun E a w _ hg hev K Q hK => ?_⟩⟩
                obtain ⟨g', k1, k2, k3⟩ := hg.at_ b' B' hB'
                obtain ⟨g'', e1, ey⟩ := rel_slc (hev _ _ hy)
                rw [k1] at e1; cases e1
                have oc : oks E ((B'.cs.drop off').take (min len' len)) := oks_sub k3 fun c hc => List.mem_of_mem_drop (List.mem_of_mem_take hc)
                have hB2 := hg.at_ b B hB
                obtain ⟨g, g1, g2, g3⟩ := hB2
                have ho : oks E (B.cs.take off ++ (B'.cs.drop off').take (min len' len) ++ B.cs.drop (off + min len' len)) := fun c hc => by
                  simp only [List.mem_append] at hc
                  rcases hc with (hc | hc) | hc
                  · exact g3 c (List.mem_of_mem_take hc)
                  · exact oc c hc
                  · exact g3 c (List.mem_of_mem_drop hc)
                obtain ⟨g'', q1, q2, q3, q4⟩ := hg.write hB ho
                rw [g1] at q1; cases q1
                obtain ⟨g'', e1, ex⟩ := rel_slc (hev _ _ hx)
                rw [g1] at e1; cases e1
                have hr := run_copy_row (P := P) w t t' o.type e g off len cap ⟨g', off', none⟩ len' cap' _ B.t (dens E ((B'.cs.drop off').take (min len' len))) hu (by unfold sizeX at hs; rw [hs, b1]) g2 (by rw [dens, List.length_map, b2])
                  (fun j v hj => by
                    rw [Addr.add_lit, cell_of_row w g' _ _ _ _ k2]
                    simp only [dens, List.getElem?_map, List.getElem?_toArray] at hj ⊢
                    rw [List.getElem?_take] at hj
                    split at hj
                    · rw [List.getElem?_drop] at hj; exact hj
                    · cases hj) (by rw [dens, List.length_map, b2]; simpa [dens] using b3) (fun v hv => by
                    obtain ⟨c, hc, rfl⟩ := List.mem_map.1 hv
                    exact (noUndef_ok (by rw [List.all_eq_true] at b4; exact b4 c hc) (oc c hc)).2)
                refine wp_value (v := goInt (dens E ((B'.cs.drop off').take (min len' len))).length) ?_ (hK E _ _ (Ext.refl _ _ _) ⟨?_, inB_ok b5⟩ q3 q4)
                · have hex : (execOp a.eval o).run P w = ((Builtin.copy_ #[t, t'] o.type #[a.eval x, a.eval y]).run P w).andThen fun v w => .ok (.value v) w := by
                    simp [execOp, hop, resolve, invoke, builtin]
                  rw [hex, ex, ey, hr]
                  simp only [Result.andThen_ok]
                  congr 2
                  simp [dens, List.map_take, List.map_drop]
                  rw [List.length_take, List.length_drop] at b2
                  omega
                · rw [dens, List.length_map, b2]; rfl
              · cases h
            · cases h
          · cases h
        · cases h
      · cases h
    · cases h
  · rename_i f args ats hop
    split at h
    · rename_i us hus
      obtain ⟨h1, h2⟩ := hcall f us st s fs st' h
      refine ⟨h1, fun ρ hf hk => ⟨(h2 ρ hf hk).1, fun E a w hρ hg hev K Q hK => ?_⟩⟩
      have := (h2 ρ hf hk).2 E w (args.toList.map a.eval) hρ hg (evsX_ok hev hus)
      exact this.wp hop (Array.toList_inj.1 (by simp)) fun v w' ⟨E', x1, x2, x3, x4⟩ => hK E' v w' x1 x2 x3 x4
    · cases h
  · split at h
    · rename_i s' fs' n' hp
      cases h
      refine ⟨MemLe.refl _, fun ρ hf hk => ⟨hk, fun E a w hρ hg hev K Q hK => ?_⟩⟩
      subst hρ
      obtain ⟨v, hv, hrun⟩ := pureX_ok hp hf hk hev
      exact wp_value (hrun w) (hK E v w (Ext.refl _ _ _) hv hg (Fr.refl _ _))
    · cases h
end
end Go.Sx
