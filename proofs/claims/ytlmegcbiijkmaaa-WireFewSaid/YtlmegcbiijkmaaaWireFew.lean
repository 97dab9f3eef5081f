/- The law WireFew returns true, whatever the input. No condition. -/
import Derived.Test.YtlmegcbiijkmaaaWireLaws
import Derived.Test.YtlmegcbiijkmaaaRows
import Derived.ProofKit
import Derived.OpenShut
namespace Go.Proofs.Ytlmegcbiijkmaaa.wireFew
open Go.ChangeShapes Go.WideShapes Go.ChangeAt Go.RowKit Go.Bx Go.Proofs.Ytlmegcbiijkmaaa

set_option maxHeartbeats 2000000 in
theorem walkMain (a b most V : Int) (n1 n2 : Nat) (bd : Bool) (w : World) (ha : 0 ≤ a) (hab : a ≤ b) (I : I64 a ∧ I64 b ∧ I64 most) (e1 : Held ((enc a.toNat).length = n1)) (e2 : Held ((enc b.toNat).length = n2))
    (h1 : 1 ≤ n1) (h12 : n1 ≤ n2) (h9 : n1 ≤ 9) (hV : Held (numV most (enc a.toNat) = V)) (hB : Held (numB most (enc a.toNat) false = bd))
    (hc : (a ≤ most ∧ (V == a) = true ∧ bd = false) ∨ (most < a ∧ a ≤ 0 ∧ (V == a) = true ∧ bd = false) ∨ (most < a ∧ 0 < a ∧ (V == a) = false ∧ bd = true)) :
    Calls Try.prog 3 #[.int .i64 a, .int .i64 b, .int .i64 most] w fun e w' => e = .returned (.bool true) ∧ Below w.heap.size w w' := by
  have HI := Held.mk I
  clear I
  rcases hc with ⟨hc1, hc2, rfl⟩ | ⟨hc1, hc3, hc2, rfl⟩ | ⟨hc1, hc3, hc2, rfl⟩
  all_goals
    try have hz : (a == 0) = false := by simp; omega
    try have hz1 : (a == 0) = true := by simp; omega
    go_enter Try.func3, Try.ntmps3
    go_wp2_with (go_at_call 14; refine (awake11_any _).mono ?_; rintro e w1 ⟨rfl, hb1⟩)
    refine (num_nil a _ HI.out.1).mono ?_
    rintro e w2 ⟨r2, rfl, ho2, hb2⟩
    obtain ⟨ra2, rc2, rfl⟩ := ho2.form
    have HO2 := Held.mk ho2
    clear ho2
    rw [e1.out]
    go_wp2_with fail
    refine (num_nil b _ HI.out.2.1).mono ?_
    rintro e w3 ⟨r3, rfl, ho3, hb3⟩
    obtain ⟨ra3, rc3, rfl⟩ := ho3.form
    clear ho3
    rw [e2.out]
    go_wp2_with fail
    refine (read_any _ (enc a.toNat) _ (by rw [← e1.out]; exact (HO2.out.grow hb3).sl) ⟨by rw [e1.out]; omega⟩).mono ?_
    rintro e w4 ⟨g, rfl, hr4, hg4, hb4⟩
    have HR := Held.mk hr4
    clear hr4
    go_wp2_with fail
    refine (rnum_any g _ _ most _ HR.out).mono ?_
    rintro e w5 ⟨he, hr5, hf5⟩
    rw [hV.out] at he
    rw [hB.out] at hr5
    subst he
    have HR5 := Held.mk hr5
    clear hr5
    go_wp2_with (go_at_call 18; refine (rbad_any g _ _ _ HR5.out).mono ?_; rintro e w6 ⟨rfl, rfl⟩)
    go_ret
    have hb4' := (hb1.trans ((hb2.trans ((hb3.trans (hb4.mono hb3.size)).mono hb2.size)).mono hb1.size))
    refine ⟨by first | rfl | (refine congrArg (fun b => Ending.returned (Value.bool b)) ?_; simp; omega), hb4'.trans (hf5.below hb4'.size (fun k hk e => by have := hb1.size; have := hb2.size; have := hb3.size; omega))⟩
set_option maxHeartbeats 400000 in
theorem walk (a : Int) (Ia : I64 a) (b : Int) (Ib : I64 b) (most : Int) (Im : I64 most) (w : World) :
    Calls Try.prog 3 #[.int .i64 a, .int .i64 b, .int .i64 most] w fun e w' => e = .returned (.bool true) ∧ Below w.heap.size w w' := by
  have I : I64 a ∧ I64 b ∧ I64 most := ⟨Ia, Ib, Im⟩
  clear Ia Ib Im
  by_cases h : a < 0 ∨ b < a
  · have HI := Held.mk I
    clear I
    rcases h with h | h
    · go_enter Try.func3, Try.ntmps3
      go_wp2_with (go_at_call 14; refine (awake11_any _).mono ?_; rintro e w1 ⟨rfl, hb1⟩)
      go_ret
      exact ⟨rfl, hb1⟩
    · go_enter Try.func3, Try.ntmps3
      go_wp2_with (go_at_call 14; refine (awake11_any _).mono ?_; rintro e w1 ⟨rfl, hb1⟩)
      all_goals (go_ret; exact ⟨rfl, hb1⟩)
  · have ha : 0 ≤ a := by omega
    have hab : a ≤ b := by omega
    have hlt : a.toNat < 2 ^ 63 := by have := I.1.hi; omega
    have hd := dec_enc a.toNat most.toNat [] hlt
    rw [List.append_nil] at hd
    refine walkMain a b most _ _ _ _ w ha hab I ⟨rfl⟩ ⟨rfl⟩ (enc_pos _) (enc_mono _ _ _ (Nat.le_refl _) (by omega) (by have := I.2.1.hi; omega)) (enc_len _ hlt) ⟨rfl⟩ ⟨rfl⟩ ?_
    by_cases hm : a.toNat ≤ most.toNat
    · rw [if_pos hm] at hd
      obtain ⟨q1, _, q3⟩ := some_num (most := most) false hd
      rw [q1, q3]
      by_cases h1 : a ≤ most
      · exact .inl ⟨h1, by simp; omega, rfl⟩
      · exact .inr (.inl ⟨by omega, by omega, by simp; omega, rfl⟩)
    · rw [if_neg hm] at hd
      obtain ⟨q1, _, q3⟩ := none_num (most := most) false hd
      rw [q1, q3]
      exact .inr (.inr ⟨by omega, by omega, by simp; omega, rfl⟩)
end Go.Proofs.Ytlmegcbiijkmaaa.wireFew
