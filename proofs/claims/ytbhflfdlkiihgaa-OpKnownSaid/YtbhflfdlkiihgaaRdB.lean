/- Walks of the paper's own reader: bytes read. Conditions: lengths within memory. -/
import Derived.Test.YtbhflfdlkiihgaaRdR
import Derived.Test.YtbhflfdlkiihgaaWire2
import Derived.Test.YtbhflfdlkiihgaaQt
namespace Go.Proofs.Ytbhflfdlkiihgaa
open Go.RowKit Go.Bx
set_option linter.unusedSimpArgs false
set_option linter.unusedVariables false
set_option maxHeartbeats 1000000 in
theorem take7_no (G : Value × TypeId × List UInt8) (g q p : Nat) (l : List UInt8) (bad : Bool) (x : Int) (w : World) (h : R7 G w g q p l bad) (hx : bad = true ∨ (l.length : Int) < x) (hx1 : x ≤ 9223372036854775807) :
    Calls Try.prog 51 #[.pointer (some ⟨g, 0, none⟩), .int .i64 x] w fun e w' => ∃ r, e = .returned r ∧ Own w' w.heap.size 1 r 0 [] ∧ R7 G w' g q p [] true ∧ Fr (· = g) w w' := by
  obtain ⟨sv, t, L, rfl, hg, hs, hne, hp, hb0, hb1, hL⟩ := h.ex
  obtain ⟨a, c, rfl⟩ := hs.form
  have c0 : w.cell? ⟨g, 0, none⟩ = some (.slice a L.length c) := by rw [cell_of_row w g 0 _ _ _ hg]; rfl
  have c1 : w.cell? ⟨g, 1, none⟩ = some (.int .i64 (p : Int)) := by rw [cell_of_row w g 1 _ _ _ hg]; rfl
  have c2 : w.cell? ⟨g, 2, none⟩ = some (.bool bad) := by rw [cell_of_row w g 2 _ _ _ hg]; rfl
  have f2 : w.frozen? ⟨g, 2, none⟩ = false := frozen_of_row w g 2 _ _ hg
  have FIN : Held (∀ (W : World), W.heap[g]? = some (.cells #[.slice a L.length c, .int .i64 (p : Int), .bool bad] t (0, 0)) → (∃ n, W = w.drewN n) → R7 (.slice a L.length c, t, L) (W.setCell ⟨g, 2, none⟩ (.bool true)) g q p [] true ∧ Fr (· = g) w (W.setCell ⟨g, 2, none⟩ (.bool true))) := ⟨by
    rintro W hW ⟨n, rfl⟩
    have hfr : Fr (· = g) (w.drewN n) ((w.drewN n).setCell ⟨g, 2, none⟩ (.bool true)) := Fr.setCell (S := (· = g)) _ (p := ⟨g, 2, none⟩) rfl _
    refine ⟨⟨_, _, L, rfl, heap_setCell_same _ _ _ _ _ _ hW, ?_, hne, hp, (by intro h; cases h), fun _ => rfl, hL⟩, (Fr.drewN _ _ _).trans hfr⟩
    exact hs.fr ((Fr.drewN (· = g) w n).trans hfr) (fun hp k _ hk e => by rw [(hne hp).1] at hk; cases hk; exact (hne hp).2 e)⟩
  have HG := Held.mk hg
  cases bad
  · have hlen : l.length = L.length - p := by rw [← hb0 rfl, List.length_drop]
    have hlt : ((L.length : Int) - (p : Int)) < x := by rcases hx with h | h; cases h; omega
    have hw : IntKind.i64.wrap ((L.length : Int) - (p : Int)) = (L.length : Int) - (p : Int) := by rw [IntKind.wrap_i64]; omega
    clear hg hs h hne hp hb0 hb1 hL hlen
    go_enter Try.func51, Try.ntmps51
    go_wp2
    go_quiet (fail)
    go_wp2_with fail
    go_ret
    obtain ⟨r1, r2⟩ := FIN.out (w.drewN _) HG.out ⟨_, rfl⟩
    exact ⟨_, rfl, Own.nil _ _ _, r1, r2⟩
  · clear hg hs h hne hp hb0 hb1 hL hx
    go_enter Try.func51, Try.ntmps51
    go_wp2
    go_quiet (fail)
    go_wp2_with fail
    go_ret
    obtain ⟨r1, r2⟩ := FIN.out (w.drewN _) HG.out ⟨_, rfl⟩
    exact ⟨_, rfl, Own.nil _ _ _, r1, r2⟩
set_option maxHeartbeats 1000000 in
theorem take7_yes (G : Value × TypeId × List UInt8) (g q p : Nat) (l : List UInt8) (x : Int) (w : World) (h : R7 G w g q p l false) (h0 : 0 ≤ x) (hx : x ≤ (l.length : Int)) (hl : Fits l.length) :
    Calls Try.prog 51 #[.pointer (some ⟨g, 0, none⟩), .int .i64 x] w fun e w' => ∃ r, e = .returned r ∧ Own w' w.heap.size 1 r x.toNat (bvs (l.take x.toNat)) ∧ R7 G w' g q (atP G p (l.drop x.toNat) false) (l.drop x.toNat) false ∧ Fr (· = g) w w' := by
  obtain ⟨sv, t, L, rfl, hg, hs, hne, hp, hb0, hb1, hL⟩ := h.ex
  obtain ⟨a, c, rfl⟩ := hs.form
  obtain ⟨i0, hi, hz0, hz1, hz2⟩ := info_parts infoB
  have hd := hb0 rfl
  have hlen : l.length = L.length - p := by rw [← hd, List.length_drop]
  have c0 : w.cell? ⟨g, 0, none⟩ = some (.slice a L.length c) := by rw [cell_of_row w g 0 _ _ _ hg]; rfl
  have c1 : w.cell? ⟨g, 1, none⟩ = some (.int .i64 (p : Int)) := by rw [cell_of_row w g 1 _ _ _ hg]; rfl
  have c2 : w.cell? ⟨g, 2, none⟩ = some (.bool false) := by rw [cell_of_row w g 2 _ _ _ hg]; rfl
  have f1 : w.frozen? ⟨g, 1, none⟩ = false := frozen_of_row w g 1 _ _ hg
  have hw1 : IntKind.i64.wrap ((L.length : Int) - (p : Int)) = (L.length : Int) - (p : Int) := by rw [IntKind.wrap_i64]; omega
  have hw2 : IntKind.i64.wrap ((p : Int) + x) = (p : Int) + x := by rw [IntKind.wrap_i64]; omega
  have hge : ¬ ((L.length : Int) - (p : Int) < x) := by omega
  obtain ⟨a1, c3, hr1, hs1, hbk⟩ := ex_cut_lh Try.underlying29 hi hs hz1 .i64 .i64 (p : Int) ((p : Int) + x) (by omega) (by omega) (by omega)
  have ht : ((p : Int) + x).toNat - ((p : Int)).toNat = x.toNat := by omega
  rw [ht] at hr1 hs1
  have hcut : ∀ w', Sl w' 1 (.slice a L.length c) L.length (bvs L) → Sl w' 1 (.slice a1 x.toNat c3) x.toNat (bvs (l.take x.toNat)) := fun w' h' => by
    have := hs1 w' h'
    rwa [bvs_mid, Int.toNat_natCast, hd] at this
  have HC := Held.mk hcut
  have HG := Held.mk hg
  have HF := Held.mk hs
  have HN := Held.mk hne
  have FIN : Held (∀ (W : World), Fr (· = g) w W → W.heap[g]? = some (.cells #[.slice a L.length c, .int .i64 (p : Int), .bool false] t (0, 0)) → R7 (.slice a L.length c, t, L) (W.setCell ⟨g, 1, none⟩ (.int .i64 ((p : Int) + x))) g q (atP (.slice a L.length c, t, L) p (l.drop x.toNat) false) (l.drop x.toNat) false ∧ Fr (· = g) w (W.setCell ⟨g, 1, none⟩ (.int .i64 ((p : Int) + x)))) := ⟨by
    intro W hfw hW
    have hfr : Fr (· = g) W (W.setCell ⟨g, 1, none⟩ (.int .i64 ((p : Int) + x))) := Fr.setCell (S := (· = g)) _ (p := ⟨g, 1, none⟩) rfl _
    have e2 : atP (.slice a L.length c, t, L) p (l.drop x.toNat) false = p + x.toNat := by
      show L.length - (l.drop x.toNat).length = _
      rw [List.length_drop]; omega
    rw [e2]
    have e1 : (p : Int) + x = ((p + x.toNat : Nat) : Int) := by omega
    refine ⟨⟨_, _, L, rfl, ?_, ?_, hne, by omega, fun _ => ?_, (by intro h; cases h), hL⟩, hfw.trans hfr⟩
    · rw [← e1]; exact heap_setCell_same _ _ _ _ _ _ hW
    · exact hs.fr (hfw.trans hfr) (fun hp k _ hk e => by rw [(hne hp).1] at hk; cases hk; exact (hne hp).2 e)
    · rw [← List.drop_drop, hd]⟩
  have hglt : g < w.heap.size := (Array.getElem?_eq_some_iff.1 hg).1
  have HGL := Held.mk hglt
  have hF1 : Fits (0 + x.toNat) := by rw [Nat.zero_add]; exact hl.le (by omega)
  have hm1 := hF1.max
  have hl1 := hF1.mul
  clear hs1 hbk hg hs h hne hp hb0 hb1 hL hlen hcut hd hx hF1 ht hglt
  go_enter Try.func51, Try.ntmps51
  go_wp2
  go_quiet (fail)
  go_wp2_with fail
  refine gen_world ?_
  intro W1 HW
  have hfw : Fr (· = g) w W1 := by rw [HW.out]; exact Fr.drewN _ _ _
  have hbw : Below w.heap.size w W1 := by rw [HW.out]; exact below_drewN (Below.refl _ _) _
  have hg1 : W1.heap[g]? = some (.cells #[.slice a L.length c, .int .i64 (p : Int), .bool false] t (0, 0)) := by rw [HW.out]; exact HG.out
  have HG1 := Held.mk hg1
  have hgl1 : g < W1.heap.size := (Array.getElem?_eq_some_iff.1 hg1).1
  have hA : ∀ o : Obj, Below W1.heap.size W1 (W1.alloc o).drew := fun o => ((Below.refl _ _).alloc (Nat.le_refl _) o).drew
  have d0 : ∀ o : Obj, (W1.alloc o).drew.cell? ⟨g, 0, none⟩ = some (.slice a L.length c) := fun o => by rw [(hA o).cell (p := ⟨g, 0, none⟩) hgl1, cell_of_row W1 g 0 _ _ _ hg1]; rfl
  have d1 : ∀ o : Obj, (W1.alloc o).drew.cell? ⟨g, 1, none⟩ = some (.int .i64 (p : Int)) := fun o => by rw [(hA o).cell (p := ⟨g, 1, none⟩) hgl1, cell_of_row W1 g 1 _ _ _ hg1]; rfl
  have b0 : W1.drew.cell? ⟨g, 0, none⟩ = some (.slice a L.length c) := by rw [(Below.refl _ _).drew.cell (B := W1.heap.size) (w := W1) (p := ⟨g, 0, none⟩) hgl1, cell_of_row W1 g 0 _ _ _ hg1]; rfl
  have b1 : W1.drew.cell? ⟨g, 1, none⟩ = some (.int .i64 (p : Int)) := by rw [(Below.refl _ _).drew.cell (B := W1.heap.size) (w := W1) (p := ⟨g, 1, none⟩) hgl1, cell_of_row W1 g 1 _ _ _ hg1]; rfl
  have hown0 : ∀ (W : World), Own W w.heap.size 1 (.slice (some ⟨W1.heap.size, 0, none⟩) 0 0) 0 [] := fun W => Own.zero _ _ _ _ _
  have hown2 : ∀ (W : World), Own W w.heap.size 1 (.slice (some ⟨W1.drew.heap.size, 0, none⟩) 0 0) 0 [] := fun W => Own.zero _ _ _ _ _
  have hgrow : ∀ o : Obj, Below w.heap.size w (W1.alloc o).drew := fun o => (hbw.alloc hbw.size o).drew
  have hgrow2 : ∀ o : Obj, Below w.heap.size w (W1.drew.alloc o) := fun o => hbw.drew.alloc hbw.size o
  have hsrc : ∀ o : Obj, Src Try.prog 1 29 (.slice a1 x.toNat c3) x.toNat (bvs (l.take x.toNat)) (W1.alloc o).drew := fun o => (HC.out _ (HF.out.grow (hgrow o))).src (bvs_one _) Try.underlying29
  have hsrc2 : ∀ o : Obj, Src Try.prog 1 29 (.slice a1 x.toNat c3) x.toNat (bvs (l.take x.toNat)) (W1.drew.alloc o) := fun o => (HC.out _ (HF.out.grow (hgrow2 o))).src (bvs_one _) Try.underlying29
  have HGr := Held.mk hgrow
  have HGr2 := Held.mk hgrow2
  clear hg1 hgrow hgrow2 hbw hA hgl1
  go_region_law (first
    | (refine step_append rfl _ _ 29 29 rfl (hown0 _) rfl 5 i0 (.int .u8 0) 1 Try.underlying29 hi hz0 hz1 hz2 rfl Nat.one_pos rfl (hsrc _) hm1 hl1 (HGr.out _).size ?_; intro v1 w1 hown1 hfr1 hob1; rw [Nat.zero_add, List.nil_append] at hown1; have HO := Held.mk hown1; have HB := Held.mk ((HGr.out _).trans (hfr1.own (HGr.out _).size)); clear hown1 hob1 hfr1)
    | (refine step_append rfl _ _ 29 29 rfl (hown2 _) rfl 5 i0 (.int .u8 0) 1 Try.underlying29 hi hz0 hz1 hz2 rfl Nat.one_pos rfl (hsrc2 _) hm1 hl1 (HGr2.out _).size ?_; intro v1 w1 hown1 hfr1 hob1; rw [Nat.zero_add, List.nil_append] at hown1; have HO := Held.mk hown1; have HB := Held.mk ((HGr2.out _).trans (hfr1.own (HGr2.out _).size)); clear hown1 hob1 hfr1))
  all_goals
    have hg2 := HB.out.block g HGL.out
    rw [HG.out] at hg2
    have e1 : w1.cell? ⟨g, 1, none⟩ = some (.int .i64 (p : Int)) := by rw [cell_of_row w1 g 1 _ _ _ hg2]; rfl
    have f1 : w1.frozen? ⟨g, 1, none⟩ = false := frozen_of_row w1 g 1 _ _ hg2
    have HG2 := Held.mk hg2
    clear hg2
    go_wp2
    go_ret
    obtain ⟨r1, r2⟩ := FIN.out _ (Fr.ofBelow HB.out _) HG2.out
    have hfr : Fr (· = g) w1 (w1.setCell ⟨g, 1, none⟩ (.int .i64 ((p : Int) + x))) := Fr.setCell (S := (· = g)) _ (p := ⟨g, 1, none⟩) rfl _
    exact ⟨_, rfl, HO.out.fr hfr (fun k hk _ e => by have := HGL.out; omega), r1, r2⟩
/-- Bytes read: it, and where the reader stands then. -/
def atB (G : Value × TypeId × List UInt8) (p : Nat) (x : Int) (l : List UInt8) (bad : Bool) : Nat := atP G (atP G p (numL x l) (numB x l bad)) (bytL x l) (bytB x l bad)
theorem R7.setBad {G : Value × TypeId × List UInt8} {g q p : Nat} {l : List UInt8} {bad : Bool} {w : World} (h : R7 G w g q p l bad) (n : Nat) : R7 G ((w.drewN n).setCell ⟨g, 2, none⟩ (.bool true)) g q p [] true ∧ Fr (· = g) w ((w.drewN n).setCell ⟨g, 2, none⟩ (.bool true)) := by
  obtain ⟨sv, t, L, rfl, hg, hs, hne, hp, hb0, hb1, hL⟩ := h.ex
  have hfr : Fr (· = g) (w.drewN n) ((w.drewN n).setCell ⟨g, 2, none⟩ (.bool true)) := Fr.setCell (S := (· = g)) _ (p := ⟨g, 2, none⟩) rfl _
  refine ⟨⟨_, _, L, rfl, heap_setCell_same _ _ _ _ _ _ (show (w.drewN n).heap[g]? = _ from hg), ?_, hne, hp, (by intro h; cases h), fun _ => rfl, hL⟩, (Fr.drewN _ _ _).trans hfr⟩
  exact hs.fr ((Fr.drewN (· = g) w n).trans hfr) (fun hp k _ hk e => by rw [(hne hp).1] at hk; cases hk; exact (hne hp).2 e)
theorem R7.flat {G : Value × TypeId × List UInt8} {g q p : Nat} {l : List UInt8} {bad : Bool} {w : World} (h : R7 G w g q p l bad) : bad = true → l = [] := by
  obtain ⟨sv, t, L, rfl, hg, hs, hne, hp, hb0, hb1, hL⟩ := h.ex
  exact hb1
theorem num_bad {x : Int} {l : List UInt8} {bad : Bool} (hb : bad = true → l = []) (h : numB x l bad = true) : numV x l = 0 ∧ numL x l = [] := by
  cases hd : dec x.toNat l with
  | none => obtain ⟨h1, h2, _⟩ := none_num (most := x) bad hd; exact ⟨h1, h2⟩
  | some r =>
    obtain ⟨v, r⟩ := r
    obtain ⟨_, _, h3⟩ := some_num (most := x) bad hd
    rw [h3] at h
    have := hb h
    subst this
    cases hd
set_option maxHeartbeats 1000000 in
theorem bytes7_any (G : Value × TypeId × List UInt8) (g q p : Nat) (l : List UInt8) (bad : Bool) (x : Int) (hx0 : 0 ≤ x) (hx1 : x ≤ 1000000) (w : World) (h : R7 G w g q p l bad) (hl : Fits l.length) :
    Calls Try.prog 35 #[.pointer (some ⟨g, 0, none⟩), .int .i64 x] w fun e w' => ∃ r, e = .returned r ∧ Own w' w.heap.size 1 r (bytV x l).length (bvs (bytV x l)) ∧ R7 G w' g q (atB G p x l bad) (bytL x l) (bytB x l bad) ∧ Fr (· = g) w w' := by
  have HR := Held.mk h
  have hflat := h.flat
  have HZ := Held.mk (fun hb : numB x l bad = true => num_bad (x := x) hflat hb)
  have hv0 := numV_nonneg x l
  have hv1 : numV x l ≤ x := by
    unfold numV dec
    cases hd : decF 9 0 0 l with
    | none => simpa using hx0
    | some p =>
      obtain ⟨v, r⟩ := p
      by_cases hv : v ≤ x.toNat
      · simp only [if_pos hv]; omega
      · simp only [if_neg hv]; omega
  have hlen := numL_len x l
  obtain ⟨v, hv⟩ : ∃ v, v = numV x l := ⟨_, rfl⟩
  obtain ⟨l1, hl1⟩ : ∃ l1, l1 = numL x l := ⟨_, rfl⟩
  obtain ⟨b1, hb1⟩ : ∃ b1, b1 = numB x l bad := ⟨_, rfl⟩
  have HV : Held (bytV x l = takeV v.toNat l1 ∧ bytL x l = takeL v.toNat l1 ∧ bytB x l bad = takeB v.toNat l1 b1) := ⟨by unfold bytV bytL bytB; rw [hv, hl1, hb1]; exact ⟨rfl, rfl, rfl⟩⟩
  rw [← hv] at HZ hv0 hv1
  rw [← hl1] at HZ hlen
  rw [← hb1] at HZ
  obtain ⟨p1, hp1⟩ : ∃ p1, p1 = atP G p l1 b1 := ⟨_, rfl⟩
  have hPB : atB G p x l bad = atP G p1 (takeL v.toNat l1) (takeB v.toNat l1 b1) := by unfold atB; rw [HV.out.2.1, HV.out.2.2, hp1, hl1, hb1]
  rw [HV.out.1, HV.out.2.1, HV.out.2.2, hPB]
  clear h hflat hPB HV
  go_enter Try.func35, Try.ntmps35
  go_wp2_with fail
  refine (num7_any G g q p l bad x hx0 w HR.out).mono ?_
  rintro e w1 ⟨rfl, hr1, hf1⟩
  rw [← hl1, ← hb1, ← hp1] at hr1
  rw [← hv]
  have HP1 := Held.mk hr1
  obtain ⟨sv, t, L, rfl, hg, hs, hne, hp, hb0, hb2, hL⟩ := hr1.ex
  obtain ⟨a, c, rfl⟩ := hs.form
  have c0 : w1.cell? ⟨g, 0, none⟩ = some (.slice a L.length c) := by rw [cell_of_row w1 g 0 _ _ _ hg]; rfl
  have c2 : w1.cell? ⟨g, 2, none⟩ = some (.bool b1) := by rw [cell_of_row w1 g 2 _ _ _ hg]; rfl
  have f2 : w1.frozen? ⟨g, 2, none⟩ = false := frozen_of_row w1 g 2 _ _ hg
  have hlL : l1.length ≤ L.length := by
    cases b1
    · rw [← hb0 rfl, List.length_drop]; omega
    · rw [hb2 rfl]; simp
  have HF1 := Held.mk hf1
  clear hg hs hne hp hb0 hb2 hr1 hf1 hp1 hv hl1 hb1
  cases b1
  · by_cases hB : (L.length : Int) < v
    · have htk : ¬ v.toNat ≤ l1.length := by omega
      have HT := Held.mk htk
      clear htk
      go_wp2_with fail
      go_ret
      obtain ⟨r1, r2⟩ := HP1.out.setBad 0
      unfold takeV takeL takeB
      rw [if_neg HT.out, if_neg HT.out, if_neg HT.out]
      exact ⟨_, rfl, Own.nil _ _ _, r1, HF1.out.trans r2⟩
    · go_wp2_with fail
      by_cases hx : v ≤ (l1.length : Int)
      · refine (take7_yes _ g q p1 l1 v w1 HP1.out hv0 hx (hl.le hlen)).mono ?_
        rintro e w2 ⟨r, rfl, ho, hr2, hf2⟩
        have hx2 : v.toNat ≤ l1.length := by omega
        have HO := Held.mk ho
        have HR2 := Held.mk hr2
        have HT := Held.mk hx2
        clear ho hr2 hx2
        go_wp2_with fail
        go_ret
        unfold takeV takeL takeB
        rw [if_pos HT.out, if_pos HT.out, if_pos HT.out, List.length_take, Nat.min_eq_left HT.out]
        exact ⟨_, rfl, HO.out.lower HF1.out.size, HR2.out, HF1.out.trans hf2⟩
      · refine (take7_no _ g q p1 l1 false v w1 HP1.out (.inr (by omega)) (by omega)).mono ?_
        rintro e w2 ⟨r, rfl, ho, hr2, hf2⟩
        have hx2 : ¬ v.toNat ≤ l1.length := by omega
        have HO := Held.mk ho
        have HR2 := Held.mk hr2
        have HT := Held.mk hx2
        clear ho hr2 hx2
        go_wp2_with fail
        go_ret
        unfold takeV takeL takeB
        rw [if_neg HT.out, if_neg HT.out, if_neg HT.out]
        exact ⟨_, rfl, HO.out.lower HF1.out.size, HR2.out, HF1.out.trans hf2⟩
  · obtain ⟨z1, z2⟩ := HZ.out rfl
    subst z1 z2
    clear HZ
    go_wp2_with fail
    go_ret
    obtain ⟨r1, r2⟩ := HP1.out.setBad 0
    exact ⟨_, rfl, Own.nil _ _ _, r1, HF1.out.trans r2⟩
end Go.Proofs.Ytbhflfdlkiihgaa
