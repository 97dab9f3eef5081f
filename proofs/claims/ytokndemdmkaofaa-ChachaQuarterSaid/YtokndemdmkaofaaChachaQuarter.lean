/- The law ChachaQuarter returns true, whatever the input. No condition. -/
import Derived.Test.YtokndemdmkaofaaCha5
import Derived.Test.YtokndemdmkaofaaEq
import Derived.Test.YtokndemdmkaofaaRows
import Derived.ProofKit
import Derived.OpenShut
namespace Go.Proofs.Ytokndemdmkaofaa.chachaQuarter
open Go.ChangeShapes Go.WideShapes Go.ChangeAt Go.RowKit Go.Bx Go.Proofs.Ytokndemdmkaofaa

theorem four {a : List Int} (h : a.length = 4) : ∃ x0 x1 x2 x3, a = [x0, x1, x2, x3] := by
  match a, h with
  | [x0, x1, x2, x3], _ => exact ⟨_, _, _, _, rfl⟩
/-- The plain law. -/
theorem plain (a b c d a' b' c' d' : Nat) (ha : B32 a) (hb : B32 b) (hc : B32 c) (hd : B32 d) (ha' : B32 a') (hb' : B32 b') (hc' : B32 c') (hd' : B32 d') :
    ((qr a b c d).a = (qr a' b' c' d').a ∧ (qr a b c d).b = (qr a' b' c' d').b ∧ (qr a b c d).c = (qr a' b' c' d').c ∧ (qr a b c d).d = (qr a' b' c' d').d) ↔ (a = a' ∧ b = b' ∧ c = c' ∧ d = d') := by
  constructor
  · rintro ⟨h1, h2, h3, h4⟩
    refine qr_inj ha hb hc hd ha' hb' hc' hd' ?_
    generalize qr a b c d = p at *
    generalize qr a' b' c' d' = q at *
    cases p; cases q; simp_all
  · rintro ⟨rfl, rfl, rfl, rfl⟩; exact ⟨rfl, rfl, rfl, rfl⟩
theorem laid2 {w w1 : World} {o p : Obj} (h : Below ((w.alloc o).alloc p).heap.size ((w.alloc o).alloc p) w1) : Held (w1.heap[w.heap.size]? = some o) ∧ Held (w1.heap[w.heap.size + 1]? = some p) :=
  ⟨⟨by rw [h.block _ (by simp; omega)]; exact laid1 (laid0 _ _) _⟩, ⟨by rw [h.block _ (by simp)]; exact laidN _ (by simp) rfl⟩⟩
theorem row4 {w : World} {g : Nat} {x0 x1 x2 x3 : Value} {t : TypeId} {f : Nat × Nat} (h : w.heap[g]? = some (.cells #[x0, x1, x2, x3] t f)) : w.cell? ⟨g, 0, none⟩ = some x0 ∧ w.cell? ⟨g, 1, none⟩ = some x1 ∧ w.cell? ⟨g, 2, none⟩ = some x2 ∧ w.cell? ⟨g, 3, none⟩ = some x3 := by
  refine ⟨?_, ?_, ?_, ?_⟩ <;> (rw [cell_of_row w g _ _ _ _ h]; rfl)
set_option maxHeartbeats 4000000 in
theorem walk (a : List Int) (na : a.length = 4) (ia : ∀ x ∈ a, 0 ≤ x ∧ x < 4294967296) (b : List Int) (nb : b.length = 4) (ib : ∀ x ∈ b, 0 ≤ x ∧ x < 4294967296) (w : World) :
    Calls Try.prog 3 #[.agg (a.map (Value.int .u32)).toArray, .agg (b.map (Value.int .u32)).toArray] w fun e w' => e = .returned (.bool true) ∧ Below w.heap.size w w' := by
  obtain ⟨a0, a1, a2, a3, rfl⟩ := four na
  obtain ⟨b0, b1, b2, b3, rfl⟩ := four nb
  have i0 := ia a0 (by simp); have i1 := ia a1 (by simp); have i2 := ia a2 (by simp); have i3 := ia a3 (by simp)
  have j0 := ib b0 (by simp); have j1 := ib b1 (by simp); have j2 := ib b2 (by simp); have j3 := ib b3 (by simp)
  obtain ⟨p, hp⟩ : ∃ p, p = qr a0.toNat a1.toNat a2.toNat a3.toNat := ⟨_, rfl⟩
  obtain ⟨q, hq⟩ : ∃ q, q = qr b0.toNat b1.toNat b2.toNat b3.toNat := ⟨_, rfl⟩
  have hA := quarter_any a0 a1 a2 a3 i0 i1 i2 i3
  have hB := quarter_any b0 b1 b2 b3 j0 j1 j2 j3
  rw [← hp] at hA
  rw [← hq] at hB
  have HA := Held.mk hA
  have HB := Held.mk hB
  have heq : ∀ w, (Op.equalIn 10000 23 (.agg #[.int .u32 a0, .int .u32 a1, .int .u32 a2, .int .u32 a3]) (.agg #[.int .u32 b0, .int .u32 b1, .int .u32 b2, .int .u32 b3])).run Try.prog w = .ok ([a0, a1, a2, a3] == [b0, b1, b2, b3]) w := fun w => by
    obtain ⟨i, hi, _, hi1, _⟩ := info_parts info32
    exact run_eqInts (P := Try.prog) w 23 22 4 .u32 Try.underlying23 Try.underlying22 hi hi1 [a0, a1, a2, a3] [b0, b1, b2, b3] rfl rfl
  have HP : Held (([a0, a1, a2, a3] == [b0, b1, b2, b3]) = (decide (p.a = q.a) && decide (p.b = q.b) && decide (p.c = q.c) && decide (p.d = q.d))) := ⟨by
    have := plain a0.toNat a1.toNat a2.toNat a3.toNat b0.toNat b1.toNat b2.toNat b3.toNat (by unfold B32; omega) (by unfold B32; omega) (by unfold B32; omega) (by unfold B32; omega) (by unfold B32; omega) (by unfold B32; omega) (by unfold B32; omega) (by unfold B32; omega)
    rw [← hp, ← hq] at this
    rw [Bool.eq_iff_iff]
    simp only [beq_iff_eq, List.cons.injEq, and_true, Bool.and_eq_true, decide_eq_true_eq, and_assoc, this]
    omega⟩
  clear hA hB hp hq na nb ia ib i0 i1 i2 i3 j0 j1 j2 j3
  have HHeq := Held.mk heq
  clear heq
  obtain ⟨pa, pb, pc, pd⟩ := p
  obtain ⟨qa, qb, qc, qd⟩ := q
  simp only [u32v] at HA HB HP
  obtain ⟨r, hr⟩ : ∃ r, r = ([a0, a1, a2, a3] == [b0, b1, b2, b3]) := ⟨_, rfl⟩
  rw [← hr] at HP HHeq
  clear hr
  go_enter Try.func3, Try.ntmps3
  go_wp2_with (first
    | (go_at_call 13; refine (awake4_any _).mono ?_; rintro e w1 ⟨rfl, hb1⟩; obtain ⟨A1, A2⟩ := laid2 hb1; have c0 := row4 A1.out; have c1 := row4 A2.out; obtain ⟨c00, c01, c02, c03⟩ := c0; obtain ⟨c10, c11, c12, c13⟩ := c1; have HB1 := Held.mk hb1; clear hb1)
    | (have z := zz; clear z; refine wpList_loadB rfl rfl A1.out rfl Try.underlying23 rfl rfl ?_; clear A1)
    | (have z := zz; clear z; refine wpList_loadB rfl rfl A2.out rfl Try.underlying23 rfl rfl ?_; clear A2)
    | (go_at_call 14; refine (HA.out _).mono ?_; rintro e w1 ⟨rfl, rfl⟩; clear HA)
    | (go_at_call 14; refine (HB.out _).mono ?_; rintro e w1 ⟨rfl, rfl⟩; clear HB c00 c01 c02 c03 c10 c11 c12 c13; have zz := trivial; have heqq := HHeq.out))
  all_goals
    go_ret
    refine ⟨congrArg (fun b => Ending.returned (Value.bool b)) ?_, ?_⟩
    · have hp := HP.out
      clear HP HHeq heqq HB1
      subst hp
      clear zz
      by_cases hd : pd = qd <;> simp_all <;> omega
    · exact (((Below.refl _ _).alloc (Nat.le_refl _) _).alloc (by simp) _).trans (HB1.out.mono (by simp; omega))
end Go.Proofs.Ytokndemdmkaofaa.chachaQuarter
