/- Words for chacha's laws: the stream put on bytes in parts; a load of a whole box in a region that draws. No condition. -/
import Derived.Test.YtokndemdmkaofaaCha6
import Derived.Test.YtokndemdmkaofaaRel4
namespace Go.Bx
open Go Go.RowKit
theorem streamL_add (key : List UInt8) (count : Nat) (nonce : List UInt8) (a : Nat) : ∀ k, streamL key count nonce (a + k) = streamL key count nonce a ++ streamL key (count + a) nonce k
  | 0 => by simp [streamL]
  | k + 1 => by rw [← Nat.add_assoc, streamL, streamL, streamL_add, List.append_assoc, Nat.add_assoc]
theorem xorS_twice (key : List UInt8) (count : Nat) (nonce : List UInt8) (b : List UInt8) : xorS key count nonce (xorS key count nonce b) = b := by
  rw [xorS, xorS_len, xorS]
  exact xorB_twice _ _ (by rw [streamL_len]; omega)
theorem xorB_right : ∀ (a S : List UInt8) (n : Nat), a.length ≤ n → xorB a (S.take n) = xorB a S
  | [], _, _, _ => by simp [xorB]
  | _ :: _, [], _, _ => by simp
  | x :: a, y :: S, n, h => by
    obtain ⟨m, rfl⟩ : ∃ m, n = m + 1 := ⟨n - 1, by simp at h; omega⟩
    have ih := xorB_right a S m (by simpa using h)
    unfold xorB at *
    simp only [List.take_succ_cons, List.zipWith_cons_cons, ih]
theorem xorS_cut (key : List UInt8) (count : Nat) (nonce : List UInt8) (b : List UInt8) (c : Nat) (h : 64 * c ≤ b.length) :
    xorS key count nonce b = xorS key count nonce (b.take (64 * c)) ++ xorS key (count + c) nonce (b.drop (64 * c)) := by
  have e : (b.length + 63) / 64 = c + ((b.length - 64 * c + 63) / 64) := by omega
  rw [xorS, e, streamL_add, xorB_append _ _ _ (by rw [streamL_len]; exact h), streamL_len]
  rw [xorS, xorS, List.length_drop, List.length_take, Nat.min_eq_left h, show (64 * c + 63) / 64 = c by omega, xorB_take _ _ _ (by rw [streamL_len]; exact Nat.le_refl _)]
theorem step_loadB {P : Program} {ops : Array Oper} {o : Oper} {a : Act} {w : World} {K : Act → World → Prop} {Q : Exit → Act → World → Prop} {E : Prop} (hgd : o.guard = none) {ty : TypeId} {x : Operand} (ho : o.op = .load ty x)
    {g : Nat} {cs : List Value} {t : TypeId} (hg : w.heap[g]? = some (.cells cs.toArray t (0, 0))) (hx : a.eval x = .pointer (some ⟨g, 0, none⟩)) {d : TypeDesc}
    (hu : P.underlying ty = some d) (hd : d.isRow = true) (hi : (P.info? ty).map (·.size) = some cs.length)
    (h : K (a.put o.dst (.agg cs.toArray)) w) : if Region.wanted o (yielded ops a.tmps) = true then Oper.wp P o a w K Q else E := by
  rw [if_pos (by simp [Region.wanted, hgd])]
  exact wp_load_mid ty x ho g 0 hx cs d (by have := rangeAt_of hg; simpa using this) hu hd hi h
theorem laid2' {w w1 : World} {o p : Obj} (h : Below ((w.alloc o).alloc p).heap.size ((w.alloc o).alloc p) w1) : Held (w1.heap[w.heap.size]? = some o) ∧ Held (w1.heap[w.heap.size + 1]? = some p) :=
  ⟨⟨by rw [h.block _ (by simp; omega)]; exact laid1 (laid0 _ _) _⟩, ⟨by rw [h.block _ (by simp)]; exact laidN _ (by simp) rfl⟩⟩
/-- A tuple of bytes and nought; the bytes. -/
def TupΦ (n : Nat) (l : List UInt8) (k : Nat) (v : Value) (w : World) : Prop := match k with
  | 0 => ∃ r, v = .tuple #[r, .int .i64 0] ∧ Sl w 1 r n (bvs l)
  | _ => Sl w 1 v n (bvs l)
theorem TupΦ.stable (n : Nat) (l : List UInt8) : ∀ k v w w', Fr (fun _ => False) w w' → TupΦ n l k v w → TupΦ n l k v w'
  | 0, _, _, _, hf, ⟨r, e, h⟩ => ⟨r, e, h.fr hf (fun _ _ _ _ => id)⟩
  | _ + 1, _, _, _, hf, h => Sl.fr h hf (fun _ _ _ _ => id)
theorem TupΦ.fst {P : Program} {n : Nat} {l : List UInt8} {v : Value} {w : World} (h : TupΦ n l 0 v w) (w' : World) : ∃ r, (Instr.extract v 0).run P w' = .ok r w' ∧ TupΦ n l 1 r w := by
  obtain ⟨r, rfl, h⟩ := h
  exact ⟨r, rfl, h⟩
theorem TupΦ.snd {P : Program} {n : Nat} {l : List UInt8} {v : Value} {w : World} (h : TupΦ n l 0 v w) (w' : World) : (Instr.extract v 1).run P w' = .ok (.int .i64 0) w' := by
  obtain ⟨r, rfl, h⟩ := h
  rfl
theorem mulN : ∀ op', binN op' = binN .mul → op' = .mul := by intro op h; cases op <;> first | rfl | cases h
theorem subN : ∀ op', binN op' = binN .sub → op' = .sub := by intro op h; cases op <;> first | rfl | cases h
theorem quoN : ∀ op', binN op' = binN .quo → op' = .quo := by intro op h; cases op <;> first | rfl | cases h
theorem addNN : ∀ op', binN op' = binN .add → op' = .add := by intro op h; cases op <;> first | rfl | cases h
theorem BinQ.mul {P : Program} {t : TypeId} {k : IntKind} {a b c : Int} (h : k.wrap (a * b) = c) : BinQ P .mul t (.int k a) (.int k b) (.int k c) := ⟨fun w x y => by simp [go_sem, h]⟩
theorem BinQ.addk {P : Program} {t : TypeId} {k : IntKind} {a b c : Int} (h : k.wrap (a + b) = c) : BinQ P .add t (.int k a) (.int k b) (.int k c) := ⟨fun w x y => by simp [go_sem, h]⟩
end Go.Bx
namespace Go.Proofs.Ytokndemdmkaofaa
open Go.RowKit Go.Bx
theorem nmXor4 : (Try.f15.name == "runtime.NumGoroutine") = false := by kernel_rfl
/-- What a law holds of its boxes and its bytes behind each call. -/
structure Bxs (key nonce b : List UInt8) (va : Value) (w W : World) : Prop where
  k : W.heap[w.heap.size]? = some (.cells (bvs key).toArray 33 (0, 0))
  n : W.heap[w.heap.size + 1]? = some (.cells (bvs nonce).toArray 34 (0, 0))
  s : Sl W 1 va b.length (bvs b)
  z : w.heap.size + 2 ≤ W.heap.size
  below : Below w.heap.size w W
theorem Bxs.step {key nonce b : List UInt8} {va : Value} {w W W' : World} (h : Bxs key nonce b va w W) (hb : Below W.heap.size W W') : Bxs key nonce b va w W' :=
  ⟨by rw [hb.block _ (by have := h.z; omega)]; exact h.k, by rw [hb.block _ (by have := h.z; omega)]; exact h.n, h.s.grow hb, Nat.le_trans h.z hb.size, h.below.trans (hb.mono h.below.size)⟩
theorem Bxs.drew {key nonce b : List UInt8} {va : Value} {w W : World} (h : Bxs key nonce b va w W) : Bxs key nonce b va w W.drew :=
  ⟨h.k, h.n, h.s.fr (Fr.drew (fun _ => False) _) (fun _ _ _ _ => id), h.z, h.below.drew⟩
end Go.Proofs.Ytokndemdmkaofaa
