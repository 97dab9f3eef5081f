/- Walks of wire, the second part: bytes, texts, words. Conditions: lengths within memory. -/
import Derived.Test.YtbhflfdlkiihgaaWire
import Derived.Test.YtbhflfdlkiihgaaBase3
import Derived.Deep.RegionWith
import Derived.WalkLawsBesides
namespace Go.Proofs.Ytbhflfdlkiihgaa
open Go.RowKit Go.Bx

/-- Bytes before which their number stands. -/
def lenE (x : List UInt8) : List UInt8 := enc x.length ++ x
theorem lenE_length (x : List UInt8) (h : Fits x.length) : (lenE x).length ≤ x.length + 9 := by
  have := enc_len x.length (by have := h.ok; omega)
  simp [lenE]; omega

set_option maxHeartbeats 400000 in
/-- wire.Bytes: what is there, the number of the bytes, they. -/
theorem wbytes_any (b x : Value) (l lx : List UInt8) (w : World) (h : Sl w 1 b l.length (bvs l)) (hx : Sl w 1 x lx.length (bvs lx)) (hn : Fits (l.length + lx.length + 16)) :
    Calls Try.prog 50 #[b, x] w fun e w' => ∃ r, e = .returned r ∧ Own w' w.heap.size 1 r (l ++ lenE lx).length (bvs (l ++ lenE lx)) ∧ Below w.heap.size w w' := by
  obtain ⟨i0, hi, hz0, hz1, hz2⟩ := info_parts infoB
  obtain ⟨xa, xc, rfl⟩ := hx.form
  have HS := Held.mk h
  have HX := Held.mk hx
  have hle : (enc lx.length).length ≤ 9 := enc_len _ (by have := hn.ok; omega)
  have HL := Held.mk hle
  clear h hx hle
  go_enter Try.func50, Try.ntmps50
  go_wp2_with (first | (go_at_call 27; refine (num_any _ l _ _ HS.out (hn.le (by omega)) ⟨by omega, by have := hn.ok; omega⟩).mono ?_; rintro e w1 ⟨r, rfl, hown1, hb1⟩; rw [Int.toNat_natCast] at hown1; have HO := Held.mk hown1; clear hown1) | (at_builtin; go_must (refine wpList_append rfl _ _ 29 29 rfl (HO.out) rfl 5 i0 (.int .u8 0) 1 Try.underlying29 hi hz0 hz1 hz2 rfl (by decide) rfl ((HX.out.grow hb1).src (bvs_one _) Try.underlying29) ?_ ?_ ?_ ?_); exact (hn.le (by rw [List.length_append]; have := HL.out; omega)).max; exact (hn.le (by rw [List.length_append]; have := HL.out; omega)).mul; exact hb1.size; intro v' w2 hown2 hfr hob))
  go_ret
  refine ⟨_, rfl, ?_, hb1.trans (hfr.own hb1.size)⟩
  rw [← bvs_append, List.append_assoc] at hown2
  rw [show (l ++ lenE lx).length = (l ++ enc lx.length).length + lx.length from by simp [lenE]; omega]
  exact hown2

set_option maxHeartbeats 400000 in
/-- wire.Text. -/
theorem wtext_any (b : Value) (s : ByteArray) (l : List UInt8) (w : World) (h : Sl w 1 b l.length (bvs l)) (hn : Fits (l.length + s.size + 16)) :
    Calls Try.prog 29 #[b, .string s] w fun e w' => ∃ r, e = .returned r ∧ Own w' w.heap.size 1 r (l ++ lenE s.data.toList).length (bvs (l ++ lenE s.data.toList)) ∧ Below w.heap.size w w' := by
  have HS := Held.mk h
  have hds : s.data.toList.length = s.size := by rw [Array.length_toList]; rfl
  have HD := Held.mk hds
  clear h hds
  go_enter Try.func29, Try.ntmps29
  go_wp2_with (first | (refine wpList_str_bytes rfl _ 9 29 rfl rfl 5 Try.underlying9 Try.underlying29 Try.underlying5 (hn.le (by omega)) ?_; intro v1 w1 hown1 hb1; have HO := Held.mk hown1; clear hown1) | (go_at_call 50; refine (wbytes_any _ _ l s.data.toList _ (HS.out.grow hb1) (by rw [HD.out]; exact HO.out.sl) (by rw [HD.out]; exact hn)).mono ?_; rintro e w2 ⟨r, rfl, hown2, hb2⟩))
  go_ret
  exact ⟨_, rfl, hown2.lower hb1.size, hb1.trans (hb2.mono hb1.size)⟩
theorem nmClone : (Try.f46.name == "runtime.NumGoroutine") = false := by kernel_rfl
/-- What taking x bytes leaves. -/
def takeV (x : Nat) (l : List UInt8) : List UInt8 := if x ≤ l.length then l.take x else []
def takeL (x : Nat) (l : List UInt8) : List UInt8 := if x ≤ l.length then l.drop x else []
def takeB (x : Nat) (l : List UInt8) (bad : Bool) : Bool := if x ≤ l.length then bad else true
theorem takeV_len (x : Nat) (l : List UInt8) : (takeV x l).length ≤ l.length := by unfold takeV; split <;> simp; omega
theorem take_any (g q : Nat) (l : List UInt8) (bad : Bool) (x : Int) (w : World) (h : Rdr w g q l bad) (h0 : 0 ≤ x) (hl : Fits l.length) :
    Calls Try.prog 54 #[.pointer (some ⟨g, 0, none⟩), .int .i64 x] w fun e w' => ∃ r, e = .returned r ∧ Own w' w.heap.size 1 r (takeV x.toNat l).length (bvs (takeV x.toNat l)) ∧ Rdr w' g q (takeL x.toNat l) (takeB x.toNat l bad) ∧ Fr (· = g) w w' := by
  by_cases hx : x ≤ (l.length : Int)
  · refine (take_yes g q l bad x w h h0 hx hl).mono ?_
    rintro e w' ⟨r, rfl, ho, hr, hf⟩
    have hx2 : x.toNat ≤ l.length := by omega
    refine ⟨r, rfl, ?_, ?_, hf⟩
    · unfold takeV; rw [if_pos hx2, List.length_take, Nat.min_eq_left hx2]; exact ho
    · unfold takeL takeB; rw [if_pos hx2, if_pos hx2]; exact hr
  · refine (take_no g q l bad x w h (by omega)).mono ?_
    rintro e w' ⟨r, rfl, ho, hr, hf⟩
    have hx2 : ¬ x.toNat ≤ l.length := by omega
    refine ⟨r, rfl, ?_, ?_, hf⟩
    · unfold takeV; rw [if_neg hx2]; exact ho
    · unfold takeL takeB; rw [if_neg hx2, if_neg hx2]; exact hr
theorem numV_nonneg (x : Int) (l : List UInt8) : 0 ≤ numV x l := by unfold numV; split <;> omega
theorem decF_suffix (k : Nat) : ∀ (i v : Nat) (l : List UInt8) (r : Nat × List UInt8), decF k i v l = some r → r.2.length ≤ l.length := by
  induction k with
  | zero => intro i v l r h; cases h
  | succ k ih =>
    intro i v l r h
    cases l with
    | nil => cases h
    | cons c l =>
      rw [decF] at h
      split at h
      · have := ih _ _ _ _ h; simp; omega
      · split at h
        · cases h
        · cases h; simp
theorem numL_len (x : Int) (l : List UInt8) : (numL x l).length ≤ l.length := by
  unfold numL dec
  cases h : decF 9 0 0 l with
  | none => simp
  | some r =>
    obtain ⟨v, r⟩ := r
    have := decF_suffix _ _ _ _ _ h
    by_cases hm : v ≤ x.toNat
    · simp [hm]; exact this
    · simp [hm]
/-- What reading bytes leaves. -/
def bytV (x : Int) (l : List UInt8) : List UInt8 := takeV (numV x l).toNat (numL x l)
def bytL (x : Int) (l : List UInt8) : List UInt8 := takeL (numV x l).toNat (numL x l)
def bytB (x : Int) (l : List UInt8) (bad : Bool) : Bool := takeB (numV x l).toNat (numL x l) (numB x l bad)
theorem bytV_len (x : Int) (l : List UInt8) : (bytV x l).length ≤ l.length := Nat.le_trans (takeV_len _ _) (numL_len x l)
theorem bytL_len (x : Int) (l : List UInt8) : (bytL x l).length ≤ l.length := by
  refine Nat.le_trans ?_ (numL_len x l)
  unfold bytL takeL; split <;> simp
set_option maxHeartbeats 400000 in
theorem rbytes_any (g q : Nat) (l : List UInt8) (bad : Bool) (x : Int) (w : World) (h : Rdr w g q l bad) (hl : Fits l.length) :
    Calls Try.prog 49 #[.pointer (some ⟨g, 0, none⟩), .int .i64 x] w fun e w' => ∃ r, e = .returned r ∧ Own w' w.heap.size 1 r (bytV x l).length (bvs (bytV x l)) ∧ Rdr w' g q (bytL x l) (bytB x l bad) ∧ Fr (· = g) w w' := by
  have HR := Held.mk h
  clear h
  go_enter Try.func49, Try.ntmps49
  go_wp2_with fail
  refine (rnum_any g q l bad x w HR.out).mono ?_
  rintro e w1 ⟨rfl, hr1, hf1⟩
  go_wp2_with fail
  refine (take_any g q _ _ _ _ hr1 (numV_nonneg x l) (hl.le (numL_len x l))).mono ?_
  rintro e w2 ⟨r, rfl, ho, hr2, hf2⟩
  have HO := Held.mk ho
  have HR2 := Held.mk hr2
  clear ho hr2 hr1 HR
  go_wp2
  go_ret
  exact ⟨_, rfl, HO.out.lower hf1.size, HR2.out, hf1.trans hf2⟩
set_option maxHeartbeats 400000 in
theorem rtext_any (g q : Nat) (l : List UInt8) (bad : Bool) (x : Int) (w : World) (h : Rdr w g q l bad) (hl : Fits l.length) :
    Calls Try.prog 25 #[.pointer (some ⟨g, 0, none⟩), .int .i64 x] w fun e w' => e = .returned (.string ⟨(bytV x l).toArray⟩) ∧ Rdr w' g q (bytL x l) (bytB x l bad) ∧ Fr (· = g) w w' := by
  have HR := Held.mk h
  clear h
  go_enter Try.func25, Try.ntmps25
  go_wp2_with (first | (go_at_call 49; refine (rbytes_any g q l bad _ _ HR.out hl).mono ?_; rintro e w1 ⟨r, rfl, ho, hr1, hf1⟩; have HO := Held.mk ho; clear ho) | (refine wpList_bytes_str rfl _ 29 9 rfl rfl HO.out.sl 5 Try.underlying9 Try.underlying29 Try.underlying5 ?_))
  go_ret
  exact ⟨rfl, hr1, hf1⟩
set_option maxHeartbeats 400000 in
theorem rbad_any (g q : Nat) (l : List UInt8) (bad : Bool) (w : World) (h : Rdr w g q l bad) :
    Calls Try.prog 48 #[.pointer (some ⟨g, 0, none⟩)] w fun e w' => e = .returned (.bool bad) ∧ w = w' := by
  obtain ⟨sv, t, hg, hs, hne⟩ := h.ex
  have c1 : w.cell? ⟨g, 1, none⟩ = some (.bool bad) := by rw [cell_of_row w g 1 _ _ _ hg]; rfl
  clear hg hs hne h
  go_enter Try.func48, Try.ntmps48
  go_wp2
  go_ret
  exact ⟨rfl, rfl⟩
set_option maxHeartbeats 400000 in
theorem rend_any (g q : Nat) (l : List UInt8) (bad : Bool) (w : World) (h : Rdr w g q l bad) :
    Calls Try.prog 26 #[.pointer (some ⟨g, 0, none⟩)] w fun e w' => e = .returned (.bool (!bad && l.isEmpty)) ∧ w = w' := by
  obtain ⟨sv, t, hg, hs, hne⟩ := h.ex
  obtain ⟨a, c, rfl⟩ := hs.form
  have c0 : w.cell? ⟨g, 0, none⟩ = some (.slice a l.length c) := by rw [cell_of_row w g 0 _ _ _ hg]; rfl
  have c1 : w.cell? ⟨g, 1, none⟩ = some (.bool bad) := by rw [cell_of_row w g 1 _ _ _ hg]; rfl
  clear hg hs hne h
  cases bad
  · go_enter Try.func26, Try.ntmps26
    go_wp2
    go_ret
    exact ⟨by cases l with | nil => rfl | cons c l => (simp; omega), rfl⟩
  · go_enter Try.func26, Try.ntmps26
    go_wp2
    go_ret
    exact ⟨rfl, rfl⟩
end Go.Proofs.Ytbhflfdlkiihgaa
