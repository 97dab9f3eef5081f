/- Walks of chacha: the quarter round. No condition. -/
import Derived.Test.YtokndemdmkaofaaPlainCha
import Derived.Test.YtokndemdmkaofaaOct2
import Derived.Test.YtokndemdmkaofaaOctLit
import Derived.Laws.BitsAllLaws
namespace Go.Proofs.Ytokndemdmkaofaa
open Go.RowKit Go.Bx

theorem rotl_or (k : Nat) (hk : k = 16 ∨ k = 12 ∨ k = 8 ∨ k = 7) (x : Nat) (hx : x < 4294967296) : bits .or .u32 (((x * 2 ^ k % 4294967296 : Nat)) : Int) ((x / 2 ^ (32 - k) : Nat) : Int) = ((rot32 k x : Nat) : Int) := by
  have h1 : x * 2 ^ k % 4294967296 = x % 2 ^ (32 - k) * 2 ^ k := by rcases hk with rfl | rfl | rfl | rfl <;> omega
  have h2 : x / 2 ^ (32 - k) < 2 ^ k := by rcases hk with rfl | rfl | rfl | rfl <;> omega
  rw [u32_or_nat _ _ (Nat.mod_lt _ (by decide)) (Nat.lt_of_le_of_lt (Nat.div_le_self _ _) hx), h1, nat_join k _ _ (Nat.mul_mod_left _ _) h2]
  rfl
theorem rotI16 (x : Int) (X : Nat) (h : x = X) (hX : X < 4294967296) : bits .or .u32 (x * 65536 % 4294967296) (x / 65536) = ((rot32 16 X : Nat) : Int) ∧ rot32 16 X < 4294967296 := by
  subst h
  have := rotl_or 16 (by simp) X hX
  exact ⟨by simpa using this, rot16_lt hX⟩
theorem rotI12 (x : Int) (X : Nat) (h : x = X) (hX : X < 4294967296) : bits .or .u32 (x * 4096 % 4294967296) (x / 1048576) = ((rot32 12 X : Nat) : Int) ∧ rot32 12 X < 4294967296 := by
  subst h
  have := rotl_or 12 (by simp) X hX
  exact ⟨by simpa using this, rot12_lt hX⟩
theorem rotI8 (x : Int) (X : Nat) (h : x = X) (hX : X < 4294967296) : bits .or .u32 (x * 256 % 4294967296) (x / 16777216) = ((rot32 8 X : Nat) : Int) ∧ rot32 8 X < 4294967296 := by
  subst h
  have := rotl_or 8 (by simp) X hX
  exact ⟨by simpa using this, rot8_lt hX⟩
theorem rotI7 (x : Int) (X : Nat) (h : x = X) (hX : X < 4294967296) : bits .or .u32 (x * 128 % 4294967296) (x / 33554432) = ((rot32 7 X : Nat) : Int) ∧ rot32 7 X < 4294967296 := by
  subst h
  have := rotl_or 7 (by simp) X hX
  exact ⟨by simpa using this, rot7_lt hX⟩
set_option maxHeartbeats 1000000 in
theorem rot_any (x : Int) (k : Int) (hx0 : 0 ≤ x) (hx1 : x < 4294967296) (hk : k = 16 ∨ k = 12 ∨ k = 8 ∨ k = 7) (w : World) :
    Calls Try.prog 33 #[.int .u32 x, .int .i64 k] w fun e w' => ∃ y : Int, e = .returned (.int .u32 y) ∧ Held (y = ((rot32 k.toNat x.toNat : Nat) : Int)) ∧ 0 ≤ y ∧ y < 4294967296 ∧ w' = w := by
  have e16 : bits .and .u64 16 31 = 16 := by decide +kernel
  have e12 : bits .and .u64 12 31 = 12 := by decide +kernel
  have e8 : bits .and .u64 8 31 = 8 := by decide +kernel
  have e7 : bits .and .u64 7 31 = 7 := by decide +kernel
  have hX : x.toNat < 4294967296 := by omega
  have HX := Held.mk (show x = (x.toNat : Int) by omega)
  rcases hk with rfl | rfl | rfl | rfl
  · go_enter Try.func33, Try.ntmps33
    go_wp2
    go_ret
    have E := rotI16 x _ HX.out hX
    exact ⟨_, rfl, ⟨E.1⟩, by rw [E.1]; omega, by rw [E.1]; have := E.2; omega, rfl⟩
  · go_enter Try.func33, Try.ntmps33
    go_wp2
    go_ret
    have E := rotI12 x _ HX.out hX
    exact ⟨_, rfl, ⟨E.1⟩, by rw [E.1]; omega, by rw [E.1]; have := E.2; omega, rfl⟩
  · go_enter Try.func33, Try.ntmps33
    go_wp2
    go_ret
    have E := rotI8 x _ HX.out hX
    exact ⟨_, rfl, ⟨E.1⟩, by rw [E.1]; omega, by rw [E.1]; have := E.2; omega, rfl⟩
  · go_enter Try.func33, Try.ntmps33
    go_wp2
    go_ret
    have E := rotI7 x _ HX.out hX
    exact ⟨_, rfl, ⟨E.1⟩, by rw [E.1]; omega, by rw [E.1]; have := E.2; omega, rfl⟩
theorem xorI (a b : Int) (h1 : 0 ≤ a) (h2 : a < 4294967296) (h3 : 0 ≤ b) (h4 : b < 4294967296) : ∃ y : Int, bits .xor .u32 a b = y ∧ Held (y = ((a.toNat ^^^ b.toNat : Nat) : Int)) ∧ 0 ≤ y ∧ y < 4294967296 := by
  have h := u32_xor a b h1 h2 h3 h4
  have := Nat.xor_lt_two_pow (n := 32) (x := a.toNat) (y := b.toNat) (by omega) (by omega)
  exact ⟨_, rfl, ⟨h⟩, by rw [h]; omega, by rw [h]; omega⟩
def u32v (n : Nat) : Value := .int .u32 (n : Int)
theorem results4 {P : Program} {fn : Func} {t u v x : Tmp} (h : fn.results = #[.tmp t, .tmp u, .tmp v, .tmp x]) (tmps : Array Value) (w : World) :
    (results fn tmps).run P w = .ok (.tuple #[tmps.getD t undef, tmps.getD u undef, tmps.getD v undef, tmps.getD x undef]) w := by
  simp [results, h]
set_option maxHeartbeats 1000000 in
theorem quarter_any (a b c d : Int) (ha : 0 ≤ a ∧ a < 4294967296) (hb : 0 ≤ b ∧ b < 4294967296) (hc : 0 ≤ c ∧ c < 4294967296) (hd : 0 ≤ d ∧ d < 4294967296) (w : World) :
    Calls Try.prog 14 #[.int .u32 a, .int .u32 b, .int .u32 c, .int .u32 d] w fun e w' =>
      e = .returned (.tuple #[u32v (qr a.toNat b.toNat c.toNat d.toNat).a, u32v (qr a.toNat b.toNat c.toNat d.toNat).b, u32v (qr a.toNat b.toNat c.toNat d.toNat).c, u32v (qr a.toNat b.toNat c.toNat d.toNat).d]) ∧ w' = w := by
  obtain ⟨x1, e1, H1, p1, p1'⟩ := xorI d ((a + b) % 4294967296) hd.1 hd.2 (by omega) (by omega)
  obtain ⟨a0, a1⟩ := ha
  obtain ⟨b0, b1⟩ := hb
  obtain ⟨c0, c1⟩ := hc
  obtain ⟨d0, d1⟩ := hd
  go_enter Try.func14, Try.ntmps14
  go_wp2_with fail
  refine (rot_any x1 16 p1 p1' (by simp) _).mono ?_
  rintro e w1 ⟨y1, rfl, K1, q1, q1', rfl⟩
  obtain ⟨x2, e2, H2, p2, p2'⟩ := xorI b ((c + y1) % 4294967296) b0 b1 (by omega) (by omega)
  go_wp2_with fail
  refine (rot_any x2 12 p2 p2' (by simp) _).mono ?_
  rintro e w1 ⟨y2, rfl, K2, q2, q2', rfl⟩
  obtain ⟨x3, e3, H3, p3, p3'⟩ := xorI y1 ((a + b + y2) % 4294967296) q1 q1' (by omega) (by omega)
  go_wp2_with fail
  refine (rot_any x3 8 p3 p3' (by simp) _).mono ?_
  rintro e w1 ⟨y3, rfl, K3, q3, q3', rfl⟩
  obtain ⟨x4, e4, H4, p4, p4'⟩ := xorI y2 ((c + y1 + y3) % 4294967296) q2 q2' (by omega) (by omega)
  go_wp2_with fail
  refine (rot_any x4 7 p4 p4' (by simp) _).mono ?_
  rintro e w1 ⟨y4, rfl, K4, q4, q4', rfl⟩
  go_wp2_with fail
  refine bodyPost_ret (results4 rfl _ _) rfl ⟨?_, rfl⟩
  have k1 := K1.out; have k2 := K2.out; have k3 := K3.out; have k4 := K4.out
  have h1 := H1.out; have h2 := H2.out; have h3 := H3.out; have h4 := H4.out
  have ea : ((a + b) % 4294967296).toNat = add32 a.toNat b.toNat := by unfold add32; omega
  rw [ea] at h1
  have n1 : x1.toNat = d.toNat ^^^ add32 a.toNat b.toNat := by omega
  have m1 : y1.toNat = rot32 16 (d.toNat ^^^ add32 a.toNat b.toNat) := by rw [← n1]; exact (by omega : y1.toNat = rot32 (Int.toNat 16) x1.toNat)
  have ec : ((c + y1) % 4294967296).toNat = add32 c.toNat y1.toNat := by unfold add32; omega
  rw [ec] at h2
  have n2 : x2.toNat = b.toNat ^^^ add32 c.toNat y1.toNat := by omega
  have m2 : y2.toNat = rot32 12 (b.toNat ^^^ add32 c.toNat y1.toNat) := by rw [← n2]; exact (by omega : y2.toNat = rot32 (Int.toNat 12) x2.toNat)
  have ea2 : ((a + b + y2) % 4294967296).toNat = add32 (add32 a.toNat b.toNat) y2.toNat := by unfold add32; omega
  have ec2 : ((c + y1 + y3) % 4294967296).toNat = add32 (add32 c.toNat y1.toNat) y3.toNat := by unfold add32; omega
  rw [ea2] at h3
  rw [ec2] at h4
  have n3 : x3.toNat = y1.toNat ^^^ add32 (add32 a.toNat b.toNat) y2.toNat := by omega
  have m3 : y3.toNat = rot32 8 (y1.toNat ^^^ add32 (add32 a.toNat b.toNat) y2.toNat) := by rw [← n3]; exact (by omega : y3.toNat = rot32 (Int.toNat 8) x3.toNat)
  have n4 : x4.toNat = y2.toNat ^^^ add32 (add32 c.toNat y1.toNat) y3.toNat := by omega
  have m4 : y4.toNat = rot32 7 (y2.toNat ^^^ add32 (add32 c.toNat y1.toNat) y3.toNat) := by rw [← n4]; exact (by omega : y4.toNat = rot32 (Int.toNat 7) x4.toNat)
  have E1 : hr 16 12 ⟨a.toNat, b.toNat, c.toNat, d.toNat⟩ = ⟨add32 a.toNat b.toNat, y2.toNat, add32 c.toNat y1.toNat, y1.toNat⟩ := by
    unfold hr; simp only [← m1, ← m2]
  have E : qr a.toNat b.toNat c.toNat d.toNat = ⟨add32 (add32 a.toNat b.toNat) y2.toNat, y4.toNat, add32 (add32 c.toNat y1.toNat) y3.toNat, y3.toNat⟩ := by
    unfold qr
    rw [E1]
    unfold hr; simp only [← m3, ← m4]
  clear m1 m2 m3 m4 n1 n2 n3 n4 h1 h2 h3 h4 k1 k2 k3 k4 e1 e2 e3 e4 ea ea2 ec ec2 E1
  rw [E]
  simp only [u32v]
  have za : ((add32 (add32 a.toNat b.toNat) y2.toNat : Nat) : Int) = (a + b + y2) % 4294967296 := by unfold add32; omega
  have zc : ((add32 (add32 c.toNat y1.toNat) y3.toNat : Nat) : Int) = (c + y1 + y3) % 4294967296 := by unfold add32; omega
  have zb : ((y4.toNat : Nat) : Int) = y4 := by omega
  have zd : ((y3.toNat : Nat) : Int) = y3 := by omega
  rw [za, zb, zc, zd]
  rfl
end Go.Proofs.Ytokndemdmkaofaa
