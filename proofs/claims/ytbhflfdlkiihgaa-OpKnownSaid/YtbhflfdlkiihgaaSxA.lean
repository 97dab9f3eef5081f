/- A statement that appends to what a call has just answered. No condition. -/
import Derived.Test.YtbhflfdlkiihgaaSxO
import Derived.Test.YtbhflfdlkiihgaaRowB
namespace Go.Sx
open Go Go.RowKit Go.Bx
/-- A function that answers a slice of its own, that may be appended to. -/
def OwnOK (P : Program) (fns : Fns) (c : Ctr) : Prop :=
  ∀ (w : World) (vs : List Value) (xs : List (List Int)), ArgsAre w c.ps vs xs → fns.pre c.j xs →
    Goes P c.f vs.toArray w fun v w' => ∃ L : List UInt8, (fns.g c.j xs).getD 0 0 = codZ L ∧ L.length ≤ maxLen ∧ Own w' w.heap.size 1 v L.length (bvs L) ∧ Below w.heap.size w w'
def callOf : Op → Option (FuncId × List Operand)
  | .call { callee := .value (.func f), args, argTypes := _ } => some (f, args.toList)
  | _ => none
def appOf : Op → Option (Operand × Operand × TypeId × TypeId)
  | .call { callee := .builtin .append, args, argTypes } => match args.toList, argTypes.toList with
    | [s, x], [t, tx] => some (s, x, t, tx)
    | _, _ => none
  | _ => none
theorem callOf_eq {o : Op} {f : FuncId} {l : List Operand} (h : callOf o = some (f, l)) : ∃ ats, o = .call { callee := .value (.func f), args := l.toArray, argTypes := ats } := by
  unfold callOf at h
  split at h
  · cases h; exact ⟨_, by simp; rfl⟩
  · cases h
theorem appOf_eq {o : Op} {s x : Operand} {t tx : TypeId} (h : appOf o = some (s, x, t, tx)) : o = .call { callee := .builtin .append, args := #[s, x], argTypes := #[t, tx] } := by
  unfold appOf at h
  split at h
  · rename_i args ats
    split at h
    · rename_i s' x' t' tx' h1 h2
      cases h
      have e1 : args = #[s, x] := Array.toList_inj.1 (by rw [h1])
      have e2 : ats = #[t, tx] := Array.toList_inj.1 (by rw [h2])
      rw [e1, e2]
    · cases h
  · cases h
def zeroU8 : Option Value → Bool
  | some (.int .u8 0) => true
  | _ => false
def elemU8 (P : Program) (t : TypeId) : Bool :=
  match P.underlying t with
  | some (.slice e) => match P.info? e with
    | some i => Nat.beq i.size 1 && Nat.beq i.bytes 1 && zeroU8 i.zero
    | none => false
  | _ => false
theorem elemU8_ok {P : Program} {t : TypeId} (h : elemU8 P t = true) : ∃ e i, P.underlying t = some (.slice e) ∧ P.info? e = some i ∧ i.size = 1 ∧ i.bytes = 1 ∧ i.zero = some (.int .u8 0) := by
  unfold elemU8 at h
  split at h
  · rename_i e he
    split at h
    · rename_i i hi
      simp only [Bool.and_eq_true] at h
      refine ⟨e, i, he, hi, Nat.eq_of_beq_eq_true h.1.1, Nat.eq_of_beq_eq_true h.1.2, ?_⟩
      have := h.2
      unfold zeroU8 at this
      split at this
      · rename_i hz; exact hz
      · cases this
    · cases h
  · cases h
def isSliceT (P : Program) (t : TypeId) : Bool :=
  match P.underlying t with
  | some (.slice _) => true
  | _ => false
def noGuard (o : Oper) : Bool := o.guard.isNone
/-- What is appended, as a number. -/
def newsX (mem : Mem) (n : Nat) (s : SV) : Option (Ref × List Fact × Nat) :=
  match argX mem .opq s with
  | some [r] => some (r, [], n)
  | _ => match argX mem .bytes s with
    | some rs => some (.v n, [.prim n 4 rs], n + 1)
    | none => none
def spA (P : Program) (call : CallH) (c : Ctr) (ops : List Oper) (i j : Nat) (sl : List SV) (st : St) : Option (List SV × List Fact × St) :=
  match runSeq P call ops (ops.take i) sl st with
  | some (sl1, f1, st1) => match ops.drop i with
    | o1 :: rest => match callOf o1.op, o1.dst with
      | some (f, args), some t1 => if (Nat.beq f c.f && noGuard o1) && Nat.blt t1 sl1.length then match evsX (evX sl1) args with
        | some us => match argsX st1.mem c.ps us with
          | some xs => match runSeq P call ops (rest.take j) (sl1.set t1 .any) { st1 with n := st1.n + 1 } with
            | some (sl3, f3, st3) => match rest.drop j with
              | oa :: post => match appOf oa.op with
                | some (.tmp t1', x, t, tx) => if (Nat.beq t1' t1 && noGuard oa) && elemU8 P t && isSliceT P tx && (rest.take j).all (fun o => match o.dst with | some d => !Nat.beq d t1 | none => true) then match evX sl3 x with
                  | some s => match newsX st3.mem st3.n s with
                    | some (r, f4, n4) => match runSeq P call ops post (putX sl3 oa.dst (.c (.opq st3.mem.length (.v n4)))) { st3 with n := n4 + 1, mem := st3.mem ++ [none] } with
                      | some (sl5, f5, st5) => some (sl5, f1 ++ ([.need c.j xs, .call st1.n c.j xs 1] ++ (f3 ++ (f4 ++ ([.must 2 [.v st1.n, r], .prim n4 3 [.v st1.n, r]] ++ f5)))), st5)
                      | none => none
                    | none => none
                  | none => none
                  else none
                | _ => none
              | [] => none
            | none => none
          | none => none
        | none => none
        else none
      | _, _ => none
    | [] => none
  | none => none
/-- A row of steps, and what comes behind it. -/
theorem runSeq_tail {P : Program} {fns : Fns} {call : CallH} (hcall : CallOK P fns call) {ops tail : List Oper} : ∀ {rest : List Oper} {slots slots' : List SV} {st st' : St} {fs : List Fact}, runSeq P call ops rest slots st = some (slots', fs, st') →
    MemLe st.mem st'.mem ∧ ∀ ρ, (∀ x ∈ fs, Fact.ok fns ρ x) → KnOK ρ st.kn → KnOK ρ st'.kn ∧
    ∀ (E : Env) (a : Act) (w : World), E.ρ = ρ → Good E st.mem w → Slots E slots a → ∀ (Q : Exit → Act → World → Prop), (∀ E' a' w', Ext E E' st.mem.length w → Slots E' slots' a' → Good E' st'.mem w' → Fr (Vis E st.mem) w w' →
      (∀ t, (∀ o ∈ rest, o.dst ≠ some t) → a'.tmps[t]? = a.tmps[t]?) → wpList P ops.toArray Q tail a' w') → wpList P ops.toArray Q (rest ++ tail) a w
  | [], slots, slots', st, st', fs, h => by
    cases h
    exact ⟨MemLe.refl _, fun ρ _ hk => ⟨hk, fun E a w _ hg hs Q hQ => hQ E a w (Ext.refl _ _ _) hs hg (Fr.refl _ _) fun _ _ => rfl⟩⟩
  | o :: rest, slots, slots', st, st', fs, h => by
    unfold runSeq at h
    split at h
    · rename_i s f st1 h1
      split at h
      · rename_i sl f' st2 h2
        cases h
        obtain ⟨m1, r1⟩ := runOne_ok hcall h1
        obtain ⟨m2, r2⟩ := runSeq_tail (tail := tail) hcall h2
        refine ⟨m1.trans m2, fun ρ hf hk => ?_⟩
        have k1 := r1 ρ (fun x hx => hf x (by simp [hx])) hk
        have k2 := r2 ρ (fun x hx => hf x (by simp [hx])) k1.1
        refine ⟨k2.1, fun E a w hρ hg hs Q hQ => ?_⟩
        have hev := evX_ok hs.at_
        refine k1.2 E a w hρ hg hs.sz (fun t s _ ht => hs.at_ t s ht) hev (wpList P ops.toArray Q (rest ++ tail)) Q fun E' v w' x1 x2 x3 x4 => ?_
        refine k2.2 E' _ w' (x1.ρ.trans hρ) x3 (hs.put x1.le x2) Q fun E'' a'' w'' y1 y2 y3 y4 y5 => ?_
        refine hQ E'' a'' w'' (x1.trans y1 m1.1 x4.size) y2 y3 (Fr.next x1 m1 hg.len x4 y4) fun t ht => ?_
        rw [y5 t fun o' ho => ht o' (List.mem_cons_of_mem _ ho)]
        have := ht o (List.mem_cons_self ..)
        cases hd : o.dst with
        | none => rfl
        | some d =>
          rw [hd] at this
          have hne : d ≠ t := fun e => this (by rw [e])
          simp [Act.put, Array.getElem?_setIfInBounds_ne hne]
      · cases h
    · cases h
theorem Good.fr {E : Env} {mem : Mem} {w w' : World} {S : Nat → Prop} (h : Good E mem w) (hf : Fr S w w') (h1 : ∀ b g, E.blk b = some g → ¬ S g) (h2 : ∀ b v l, E.val b = some (v, l) → 0 < l.length → ∀ k, v.ownBlock = some k → ¬ S k) : Good E mem w' := by
  refine ⟨h.len, h.nd, fun b g hg => Nat.lt_of_lt_of_le (h.lt b g hg) hf.size, fun b B hB => ?_, ⟨fun b v l hb => (h.vl.rd b v l hb).fr hf fun hl k _ hk => h2 b v l hb (by simpa [bvs] using hl) k hk, h.vl.ap⟩, h.vlen⟩
  obtain ⟨g, g1, g2, g3⟩ := h.at_ b B hB
  exact ⟨g, g1, by rw [hf.block g (Array.getElem?_eq_some_iff.1 g2).1 (h1 b g g1)]; exact g2, g3⟩
theorem bytes_are {zs : List Int} (h : ∀ z ∈ zs, InR .u8 z) : zs.map (Value.int .u8) = bvs (zs.map fun z => UInt8.ofNat z.toNat) := by
  simp only [bvs, List.map_map]
  refine List.map_congr_left fun z hz => ?_
  have h1 := (h z hz).lo
  have h2 := (h z hz).hi
  simp only [lo, hi] at h1 h2
  exact bv_ofInt z h1 (by omega)
theorem newsX_ok {fns : Fns} {E : Env} {mem : Mem} {w : World} {n n' : Nat} {s : SV} {r : Ref} {fs : List Fact} (hg : Good E mem w) (h : newsX mem n s = some (r, fs, n')) (hf : ∀ x ∈ fs, Fact.ok fns E.ρ x) {v : Value} (hv : s.Rel E v) :
    ∃ L : List UInt8, r.den E.ρ = codZ L ∧ Sl w 1 v L.length (bvs L) := by
  unfold newsX at h
  split at h
  · rename_i r' h1
    cases h
    obtain ⟨z, hz, h3, h4⟩ := argX_ok hg h1 hv
    have hz : r.den E.ρ = z := by simpa using hz
    exact ⟨decZ z, by rw [hz, codZ_decZ h4.1], h3⟩
  · split at h
    · rename_i rs h1
      cases h
      obtain ⟨h3, h4⟩ := argX_ok hg h1 hv
      have hp : E.ρ n = codZ ((rs.map (Ref.den E.ρ)).map fun x => UInt8.ofNat x.toNat) := hf (.prim n 4 rs) (by simp)
      refine ⟨(rs.map (Ref.den E.ρ)).map fun x : Int => UInt8.ofNat x.toNat, hp, ?_⟩
      rw [bytes_are h4] at h3
      simpa using h3
    · cases h
theorem wanted_none {o : Oper} (h : noGuard o = true) (ops : Array Oper) (t : Array Value) : Region.wanted o (yielded ops t) = true := by
  unfold noGuard at h
  simp only [Option.isNone_iff_eq_none] at h
  simp [Region.wanted, h]
theorem spA_ok {P : Program} {fns : Fns} {call : CallH} (hcall : CallOK P fns call) {c : Ctr} (hc : OwnOK P fns c) {ops : List Oper} {i j : Nat} {sl sl' : List SV} {st st' : St} {fs : List Fact} (h : spA P call c ops i j sl st = some (sl', fs, st')) :
    MemLe st.mem st'.mem ∧ ∀ ρ, (∀ x ∈ fs, Fact.ok fns ρ x) → KnOK ρ st.kn → KnOK ρ st'.kn ∧
    ∀ (E : Env) (a : Act) (w : World), E.ρ = ρ → Good E st.mem w → Slots E sl a → ∀ (Q : Exit → Act → World → Prop), (∀ E' a' w', Ext E E' st.mem.length w → Slots E' sl' a' → Good E' st'.mem w' → Fr (Vis E st.mem) w w' → Q .normal a' w') → wpList P ops.toArray Q ops a w := by
  unfold spA at h
  split at h
  · rename_i sl1 f1 st1 hpre
    split at h
    · rename_i o1 rest hdrop
      split at h
      · rename_i f args t1 hco hd1
        split at h
        · rename_i hk1
          simp only [Bool.and_eq_true] at hk1
          obtain ⟨⟨k1, k2⟩, k3⟩ := hk1
          have k1 := Nat.eq_of_beq_eq_true k1
          have k3 : t1 < sl1.length := Nat.le_of_ble_eq_true k3
          split at h
          · rename_i us hus
            split at h
            · rename_i xs hxs
              split at h
              · rename_i sl3 f3 st3 hmid
                split at h
                · rename_i oa post hdrop2
                  split at h
                  · rename_i t1' x t tx happ
                    split at h
                    · rename_i hk2
                      simp only [Bool.and_eq_true] at hk2
                      obtain ⟨⟨⟨⟨q1, q2⟩, q3⟩, q4⟩, q5⟩ := hk2
                      have q1 := Nat.eq_of_beq_eq_true q1
                      subst q1
                      split at h
                      · rename_i s hsx
                        split at h
                        · rename_i r f4 n4 hnews
                          split at h
                          · rename_i sl5 f5 st5 hpost
                            cases h
                            have eops : ops = ops.take i ++ (o1 :: (rest.take j ++ (oa :: post))) := by
                              rw [← hdrop2, List.take_append_drop, ← hdrop, List.take_append_drop]
                            obtain ⟨m1, r1⟩ := runSeq_tail (tail := o1 :: (rest.take j ++ (oa :: post))) hcall hpre
                            obtain ⟨m3, r3⟩ := runSeq_tail (tail := oa :: post) hcall hmid
                            obtain ⟨m5, r5⟩ := runSeq_ok hcall hpost
                            refine ⟨m1.trans (m3.trans ((MemLe.push _ _).trans m5)), fun ρ hf hk => ?_⟩
                            have c1 := r1 ρ (fun x hx => hf x (by simp [hx])) hk
                            have c3 := r3 ρ (fun x hx => hf x (by simp [hx])) c1.1
                            have c5 := r5 ρ (fun x hx => hf x (by simp [hx])) c3.1
                            have hneed := hf (.need c.j xs) (by simp)
                            have hcl := hf (.call st1.n c.j xs 1) (by simp)
                            have hmust := hf (.must 2 [.v st1.n, r]) (by simp)
                            have hcat := hf (.prim n4 3 [.v st1.n, r]) (by simp)
                            refine ⟨c5.1, fun E a w hρ hg hs Q hQ => ?_⟩
                            conv => arg 4; rw [eops]
                            refine c1.2 E a w hρ hg hs Q fun E1 a1 w1 x1 s1 g1 fr1 _ => ?_
                            have hρ1 : E1.ρ = ρ := x1.ρ.trans hρ
                            obtain ⟨ats, hop⟩ := callOf_eq hco
                            have hrel := evsX_ok (evX_ok s1.at_) hus
                            subst hρ1
                            simp only [Fact.ok] at hneed hcl hmust hcat
                            have hcl := hcl 0 (by omega)
                            rw [Nat.add_zero] at hcl
                            have hgo := hc w1 (args.map a1.eval) (xs.map fun l => l.map (Ref.den E1.ρ)) (argsX_ok g1 hxs hrel) hneed
                            rw [← k1] at hgo
                            refine wpList_step fun K hK => ?_
                            rw [if_pos (wanted_none k2 _ _)]
                            refine hgo.wp hop (Array.toList_inj.1 (by simp)) fun v w2 ⟨L, hL, hLm, hown, hb⟩ => hK _ _ ?_
                            rw [hd1]
                            have s2 : Slots E1 (sl1.set t1' .any) (a1.put (some t1') v) := s1.put ⟨rfl, fun _ _ h => h, fun _ _ h => h⟩ (d := some t1') (s := .any) trivial
                            refine c3.2 E1 _ w2 rfl (g1.below hb) s2 Q fun E3 a3 w3 x3 s3 g3 fr3 hkeep => ?_
                            have hρ3 : E3.ρ = E1.ρ := x3.ρ
                            have hv3 : a3.eval (.tmp t1') = v := by
                              have h1 := hkeep t1' (fun o ho e => by
                                have := List.all_eq_true.1 q5 o ho
                                rw [e] at this
                                simp at this)
                              have h2 : (a1.put (some t1') v).tmps[t1']? = some v := by simp [Act.put, s1.sz, k3]
                              rw [h2] at h1
                              show a3.tmps.getD t1' Go.undef = v
                              rw [Array.getD_eq_getD_getElem?, h1]; rfl
                            -- who owns what
                            have hB : ∃ B, w1.heap.size ≤ B ∧ B ≤ w3.heap.size ∧ Own w3 B 1 v L.length (bvs L) ∧ ∀ k, k < w3.heap.size → B ≤ k → v.ownBlock = some k → w1.heap.size ≤ k ∧ k < w2.heap.size := by
                              have hsz := Nat.le_trans hb.size fr3.size
                              rcases hown with ⟨p1, ⟨p2, p3⟩ | ⟨g, o, cap, rfl, p3, p4, p5⟩⟩
                              · exact ⟨w3.heap.size, hsz, Nat.le_refl _, ⟨p1, .inl ⟨p2, p3⟩⟩, fun k h1 h2 => by omega⟩
                              · refine ⟨w1.heap.size, Nat.le_refl _, hsz, ?_, fun k _ _ hk => by cases hk; exact ⟨p3, p4⟩⟩
                                refine Own.fr ⟨p1, .inr ⟨g, o, cap, rfl, p3, p4, p5⟩⟩ fr3 fun k hk1 hk2 hv => ?_
                                obtain ⟨b, B, _, hb2⟩ := hv
                                have := g1.lt b k hb2
                                omega
                            obtain ⟨B, b1, b2, hown3, hblk⟩ := hB
                            have old3 : ∀ b g, E3.blk b = some g → B ≤ g → v.ownBlock = some g → False := fun b g hb3 hg1 hg2 => by
                              have hlt := g3.lt b g hb3
                              obtain ⟨y1, y2⟩ := hblk g hlt hg1 hg2
                              rcases x3.new b g hb3 with h1 | ⟨_, h1⟩
                              · have := g1.lt b g h1; omega
                              · omega
                            obtain ⟨e, inf, u1, u2, u3, u4, u5⟩ := elemU8_ok q3
                            have hsl := evX_ok s3.at_ x s hsx
                            obtain ⟨L2, l1, l2⟩ := newsX_ok (fns := fns) g3 hnews (fun y hy => by rw [hρ3]; exact hf y (by simp [hy])) hsl
                            have htx : ∃ e', P.underlying tx = some (.slice e') := by
                              unfold isSliceT at q4
                              split at q4
                              · rename_i e' he; exact ⟨e', he⟩
                              · cases q4
                            obtain ⟨e', htx⟩ := htx
                            rw [hρ3] at l1
                            have hnL : E1.ρ st1.n = codZ L := by rw [hcl]; exact hL
                            have hsm : L.length + L2.length ≤ 1000000000 := by
                              have : mustP 2 [E1.ρ st1.n, r.den E1.ρ] := hmust
                              rw [hnL, l1] at this
                              have this : (decZ (codZ L)).length + (decZ (codZ L2)).length ≤ 1000000000 := this
                              rwa [decZ_codZ, decZ_codZ] at this
                            refine wpList_append (wanted_none q2 _ _) (.tmp t1') x t tx (appOf_eq happ) hown3 hv3 e inf _ 1 u1 u2 u5 u3 u4 rfl Nat.one_pos rfl (l2.src (bvs_one _) htx) (by unfold maxLen; omega) (by omega) b2 fun v' w4 hown4 fr4 hob => ?_
                            have hl4 : L.length + L2.length = (L ++ L2).length := by rw [List.length_append]
                            have hown4' : Own w4 B 1 v' (L ++ L2).length (bvs (L ++ L2)) := by
                              rw [← hl4, show bvs (L ++ L2) = bvs L ++ bvs L2 from by simp [bvs]]; exact hown4
                            have g4 : Good E3 st3.mem w4 := g3.fr fr4 (fun b g h1 h2 => old3 b g h1 h2.1 h2.2) fun b u l h1 h2 k h3 h4 => by
                              have hlt := (g3.vl.rd b u l h1).blk h2 h3
                              obtain ⟨y1, y2⟩ := hblk k hlt h4.1 h4.2
                              have oldv : ∀ d u' l', E1.val d = some (u', l') → 0 < l'.length → u'.ownBlock = some k → False := fun d u' l' hd hp hkk => by
                                have := (g1.vl.rd d u' l' hd).blk hp hkk
                                omega
                              rcases x3.vnew b (u, l) h1 with h5 | ⟨_, h5⟩
                              · exact oldv b u l h5 h2 h3
                              · rcases h5 h2 k h3 with h6 | ⟨d, u', l', d1, d2, d3⟩
                                · omega
                                · exact oldv d u' l' d1 d2 d3
                            have newv : ∀ k, 0 < (L ++ L2).length → v'.ownBlock = some k → B ≤ k ∧ (k < w3.heap.size → v.ownBlock = some k) := fun k hp hk => by
                              refine ⟨own_fresh hown4' hp hk, fun hlt => ?_⟩
                              rcases hob with h | h
                              · rw [← h]; exact hk
                              · rw [h] at hk; cases hk; omega
                            obtain ⟨z1, z2⟩ := g4.pushV2 (v := v') (l := L ++ L2) hown4'.sl fun hp c' g hc' hk => by
                              obtain ⟨n1, n2⟩ := newv g hp hk
                              exact old3 c' g hc' n1 (n2 (g3.lt c' g hc'))
                            have z3 : Ext E3 (E3.pushV st3.mem.length (v', L ++ L2)) st3.mem.length w1 := (Ext.refl _ _ _).pushV (Nat.le_refl _) (g3.vlen _ (Nat.le_refl _)) fun hp k hk => .inl (Nat.le_trans b1 (newv k hp hk).1)
                            obtain ⟨ad, cap, hform⟩ := hown4'.sl.form
                            have hn4 : E3.ρ n4 = codZ (L ++ L2) := by
                              rw [hρ3]
                              have : E1.ρ n4 = codZ (decZ (E1.ρ st1.n) ++ decZ (r.den E1.ρ)) := hcat
                              rw [this, hnL, l1, decZ_codZ, decZ_codZ]
                            have hval : (SV.c (.opq st3.mem.length (.v n4))).Rel (E3.pushV st3.mem.length (v', L ++ L2)) v' := opq_mk z2 (by show Str (E3.ρ n4); rw [hn4]; exact Str.cod (by rw [← hl4]; unfold maxLen; omega)) (by show decZ (E3.ρ n4) = _; rw [hn4, decZ_codZ]) ⟨ad, cap, hform⟩
                            have s4 := s3.put z3.le (d := oa.dst) hval
                            refine c5.2 (E3.pushV st3.mem.length (v', L ++ L2)) _ w4 hρ3 z1 s4 Q fun E5 a5 w5 x5 s5 g5 fr5 => ?_
                            have xa : Ext E E3 st.mem.length w := x1.trans x3 m1.1 (Nat.le_trans fr1.size hb.size)
                            have xb := xa.trans z3 (Nat.le_trans m1.1 m3.1) fr1.size
                            have hw14 : w.heap.size ≤ w4.heap.size := Nat.le_trans fr1.size (Nat.le_trans hb.size (Nat.le_trans fr3.size fr4.size))
                            refine hQ E5 a5 w5 (xb.trans x5 (Nat.le_trans m1.1 (Nat.le_trans m3.1 (by show _ ≤ (st3.mem ++ [none]).length; rw [List.length_append]; omega))) hw14) s5 g5 ?_
                            have t1 : Fr (Vis E st.mem) w w2 := fr1.trans (Fr.ofBelow hb _)
                            have t3 : Fr (Vis E st.mem) w w3 := t1.trans' fr3 fun k hk hv => Vis.back x1 m1 hg.len hk hv
                            have t4 : Fr (Vis E st.mem) w w4 := t3.trans' fr4 fun k hk hv => by
                              have := fr1.size
                              have := hv.1
                              omega
                            exact t4.trans' fr5 fun k hk hv => Vis.back xb (m1.trans (m3.trans (MemLe.push _ _))) hg.len hk hv
                          · cases h
                        · cases h
                      · cases h
                    · cases h
                  · cases h
                · cases h
              · cases h
            · cases h
          · cases h
        · cases h
      · cases h
    · cases h
  · cases h
/-- The same, of a statement. -/
def spC (P : Program) (call : CallH) (c : Ctr) (i j : Nat) (code : Code) (sl : List SV) (st : St) : Option (List SV × List Fact × St) :=
  match code with
  | .region _ ops false => spA P call c ops.toList i j sl st
  | _ => none
theorem spC_ok {P : Program} {fns : Fns} {call : CallH} (hcall : CallOK P fns call) {c : Ctr} (hc : OwnOK P fns c) {i j : Nat} {code : Code} {sl sl' : List SV} {st st' : St} {fs : List Fact} (h : spC P call c i j code sl st = some (sl', fs, st')) :
    Runs fns (code.wp P) sl st .normal sl' fs st' := by
  unfold spC at h
  split at h
  · rename_i id ops
    obtain ⟨m, r⟩ := spA_ok hcall hc h
    refine ⟨m, fun ρ hf hk => ⟨(r ρ hf hk).1, fun E a w hρ hg hs Q hQ => ?_⟩⟩
    refine wp_region_list ?_
    have := (r ρ hf hk).2 E a w hρ hg hs Q hQ
    rwa [Array.toArray_toList] at this
  · cases h
end Go.Sx
