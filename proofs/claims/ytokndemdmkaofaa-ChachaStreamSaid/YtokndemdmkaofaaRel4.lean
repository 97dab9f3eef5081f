/- More kinds of steps of a region that is reckoned: parts of slices, builtins, what lays memory. No condition. -/
import Derived.Test.YtokndemdmkaofaaRel3
namespace Go.Bx
open Go Go.RowKit
section
variable {ev : Operand → Option SV} {op : Op}
theorem sop12 {t : Nat} {us : List SV} (h : sopR ev op = some ([12, t], us)) : ∃ x u, op = .slice t x none none none ∧ ev x = some u ∧ us = [u] := by
  replace h := sopR_of2 h (by simp)
  unfold sopOf2 at h
  split at h
  · rename_i t' x
    obtain ⟨e, u, hu, he⟩ := mk1_some h
    simp only [List.cons.injEq, and_true, true_and] at e
    subst e
    exact ⟨x, u, rfl, hu, he⟩
  all_goals first
    | exact absurd (mk1_some h).1 (by simp)
    | exact absurd (mk2_some h).1 (by simp)
    | exact absurd (mk3_some h).1 (by simp)
    | (split at h <;> cases h)
    | cases h
    | skip
  unfold sopOf at h
  split at h
  all_goals first
    | exact absurd (mk1_some h).1 (by simp)
    | exact absurd (mk2_some h).1 (by simp)
    | (split at h <;> cases h)
    | cases h
theorem sop13 {t : Nat} {us : List SV} (h : sopR ev op = some ([13, t], us)) : ∃ x y u v, op = .slice t x (some y) none none ∧ ev x = some u ∧ ev y = some v ∧ us = [u, v] := by
  replace h := sopR_of2 h (by simp)
  unfold sopOf2 at h
  split at h
  · exact absurd (mk1_some h).1 (by simp)
  · rename_i t' x y
    obtain ⟨e, u, v, hu, hv, he⟩ := mk2_some h
    simp only [List.cons.injEq, and_true, true_and] at e
    subst e
    exact ⟨x, y, u, v, rfl, hu, hv, he⟩
  all_goals first
    | exact absurd (mk1_some h).1 (by simp)
    | exact absurd (mk2_some h).1 (by simp)
    | exact absurd (mk3_some h).1 (by simp)
    | (split at h <;> cases h)
    | cases h
    | skip
  unfold sopOf at h
  split at h
  all_goals first
    | exact absurd (mk1_some h).1 (by simp)
    | exact absurd (mk2_some h).1 (by simp)
    | (split at h <;> cases h)
    | cases h
theorem sop14 {t : Nat} {us : List SV} (h : sopR ev op = some ([14, t], us)) : ∃ x y u v, op = .slice t x none (some y) none ∧ ev x = some u ∧ ev y = some v ∧ us = [u, v] := by
  replace h := sopR_of2 h (by simp)
  unfold sopOf2 at h
  split at h
  · exact absurd (mk1_some h).1 (by simp)
  · exact absurd (mk2_some h).1 (by simp)
  · rename_i t' x y
    obtain ⟨e, u, v, hu, hv, he⟩ := mk2_some h
    simp only [List.cons.injEq, and_true, true_and] at e
    subst e
    exact ⟨x, y, u, v, rfl, hu, hv, he⟩
  all_goals first
    | exact absurd (mk1_some h).1 (by simp)
    | exact absurd (mk2_some h).1 (by simp)
    | exact absurd (mk3_some h).1 (by simp)
    | (split at h <;> cases h)
    | cases h
    | skip
  unfold sopOf at h
  split at h
  all_goals first
    | exact absurd (mk1_some h).1 (by simp)
    | exact absurd (mk2_some h).1 (by simp)
    | (split at h <;> cases h)
    | cases h
theorem sop15 {t : Nat} {us : List SV} (h : sopR ev op = some ([15, t], us)) : ∃ x y z u v k, op = .slice t x (some y) (some z) none ∧ ev x = some u ∧ ev y = some v ∧ ev z = some k ∧ us = [u, v, k] := by
  replace h := sopR_of2 h (by simp)
  unfold sopOf2 at h
  split at h
  · exact absurd (mk1_some h).1 (by simp)
  · exact absurd (mk2_some h).1 (by simp)
  · exact absurd (mk2_some h).1 (by simp)
  · rename_i t' x y z
    obtain ⟨e, u, v, k, hu, hv, hk, he⟩ := mk3_some h
    simp only [List.cons.injEq, and_true, true_and] at e
    subst e
    exact ⟨x, y, z, u, v, k, rfl, hu, hv, hk, he⟩
  all_goals first
    | exact absurd (mk1_some h).1 (by simp)
    | exact absurd (mk2_some h).1 (by simp)
    | (split at h <;> cases h)
    | cases h
    | skip
  unfold sopOf at h
  split at h
  all_goals first
    | exact absurd (mk1_some h).1 (by simp)
    | exact absurd (mk2_some h).1 (by simp)
    | (split at h <;> cases h)
    | cases h
theorem sop16 {n : Nat} {l : List Nat} {us : List SV} (h : sopR ev op = some (16 :: n :: l, us)) : ∃ b args ats, op = .call { callee := .builtin b, args, argTypes := ats } ∧ bN b = n ∧ ats.toList = l ∧ svsOf ev args.toList = some us := by
  replace h := sopR_of2 h (by simp)
  unfold sopOf2 at h
  split at h
  · exact absurd (mk1_some h).1 (by simp)
  · exact absurd (mk2_some h).1 (by simp)
  · exact absurd (mk2_some h).1 (by simp)
  · exact absurd (mk3_some h).1 (by simp)
  · rename_i b args ats
    split at h
    · rename_i us' hus
      have h0 := Option.some.inj h
      have h1 := congrArg Prod.fst h0
      simp only [List.cons.injEq, true_and] at h1
      obtain rfl : us' = us := congrArg Prod.snd h0
      exact ⟨b, args, ats, rfl, h1.1, h1.2, hus⟩
    · cases h
  all_goals first
    | exact absurd (mk1_some h).1 (by simp)
    | exact absurd (mk2_some h).1 (by simp)
    | (split at h <;> cases h)
    | cases h
    | skip
  unfold sopOf at h
  split at h
  all_goals first
    | exact absurd (mk1_some h).1 (by simp)
    | exact absurd (mk2_some h).1 (by simp)
    | (split at h <;> cases h)
    | cases h
theorem sop17 {t : Nat} {us : List SV} (h : sopR ev op = some ([17, t], us)) : ∃ x y u v, op = .makeSlice t x y ∧ ev x = some u ∧ ev y = some v ∧ us = [u, v] := by
  replace h := sopR_of2 h (by simp)
  unfold sopOf2 at h
  split at h
  · exact absurd (mk1_some h).1 (by simp)
  · exact absurd (mk2_some h).1 (by simp)
  · exact absurd (mk2_some h).1 (by simp)
  · exact absurd (mk3_some h).1 (by simp)
  · split at h <;> cases h
  · rename_i t' x y
    obtain ⟨e, u, v, hu, hv, he⟩ := mk2_some h
    simp only [List.cons.injEq, and_true, true_and] at e
    subst e
    exact ⟨x, y, u, v, rfl, hu, hv, he⟩
  all_goals first
    | exact absurd (mk1_some h).1 (by simp)
    | exact absurd (mk2_some h).1 (by simp)
    | (split at h <;> cases h)
    | cases h
    | skip
  unfold sopOf at h
  split at h
  all_goals first
    | exact absurd (mk1_some h).1 (by simp)
    | exact absurd (mk2_some h).1 (by simp)
    | (split at h <;> cases h)
    | cases h
theorem sop20 {t i : Nat} {us : List SV} (h : sopR ev op = some ([20, t, i], us)) : ∃ x u, op = .field t x i ∧ ev x = some u ∧ us = [u] := by
  replace h := sopR_of2 h (by simp)
  unfold sopOf2 at h
  split at h
  · exact absurd (mk1_some h).1 (by simp)
  · exact absurd (mk2_some h).1 (by simp)
  · exact absurd (mk2_some h).1 (by simp)
  · exact absurd (mk3_some h).1 (by simp)
  · split at h <;> cases h
  · exact absurd (mk2_some h).1 (by simp)
  · cases h
  · exact absurd (mk1_some h).1 (by simp)
  · rename_i t' x i'
    obtain ⟨e, u, hu, he⟩ := mk1_some h
    simp only [List.cons.injEq, and_true, true_and] at e
    obtain ⟨rfl, rfl⟩ := e
    exact ⟨x, u, rfl, hu, he⟩
  all_goals first
    | (split at h <;> cases h)
    | skip
  unfold sopOf at h
  split at h
  all_goals first
    | exact absurd (mk1_some h).1 (by simp)
    | exact absurd (mk2_some h).1 (by simp)
    | (split at h <;> cases h)
    | cases h
end
theorem minN : ∀ b, bN b = 2 → b = .min := by intro b h; cases b <;> first | rfl | cases h
theorem maxN : ∀ b, bN b = 3 → b = .max := by intro b h; cases b <;> first | rfl | cases h
theorem appendN : ∀ b, bN b = 0 → b = .append := by intro b h; cases b <;> first | rfl | cases h
theorem copyN : ∀ b, bN b = 1 → b = .copy := by intro b h; cases b <;> first | rfl | cases h
theorem capN : ∀ b, bN b = 4 → b = .cap := by intro b h; cases b <;> first | rfl | cases h
section
variable {P : Program} {W0 : World} {base : List Value} {m : Nat} {Φ : Nat → Value → World → Prop} {S : Nat → Prop} {St : Nat → World → Prop}
theorem FactR.cut {t : TypeId} {p v : SV} {deps : List Nat} (h : ∀ (φ : List Value) (x : ExtW W0), (∀ k ∈ deps, Φ k (φ.getD k undef) x.w) → (Instr.sliceAt t (p.den (base ++ φ)) none none none).run P x.w = .ok (v.den (base ++ φ)) x.w) : FactR P W0 base m Φ ([12, t], [p]) v deps := by
  intro φ _ z hd ev a o hev hs
  obtain ⟨x, u, ho, hu, he⟩ := sop12 hs
  simp only [List.cons.injEq, and_true] at he
  subst he
  refine quietAt_pure ?_
  simp only [execOp, ho, Option.map, hev _ _ hu]
  rw [Sem.run_bind, h φ z hd]
  rfl
theorem FactR.cutL {t : TypeId} {p l v : SV} {deps : List Nat} (h : ∀ (φ : List Value) (x : ExtW W0), (∀ k ∈ deps, Φ k (φ.getD k undef) x.w) → (Instr.sliceAt t (p.den (base ++ φ)) (some (l.den (base ++ φ))) none none).run P x.w = .ok (v.den (base ++ φ)) x.w) : FactR P W0 base m Φ ([13, t], [p, l]) v deps := by
  intro φ _ z hd ev a o hev hs
  obtain ⟨x, y, u, k, ho, hu, hk, he⟩ := sop13 hs
  simp only [List.cons.injEq, and_true] at he
  obtain ⟨rfl, rfl⟩ := he
  refine quietAt_pure ?_
  simp only [execOp, ho, Option.map, hev _ _ hu, hev _ _ hk]
  rw [Sem.run_bind, h φ z hd]
  rfl
theorem FactR.cutH {t : TypeId} {p l v : SV} {deps : List Nat} (h : ∀ (φ : List Value) (x : ExtW W0), (∀ k ∈ deps, Φ k (φ.getD k undef) x.w) → (Instr.sliceAt t (p.den (base ++ φ)) none (some (l.den (base ++ φ))) none).run P x.w = .ok (v.den (base ++ φ)) x.w) : FactR P W0 base m Φ ([14, t], [p, l]) v deps := by
  intro φ _ z hd ev a o hev hs
  obtain ⟨x, y, u, k, ho, hu, hk, he⟩ := sop14 hs
  simp only [List.cons.injEq, and_true] at he
  obtain ⟨rfl, rfl⟩ := he
  refine quietAt_pure ?_
  simp only [execOp, ho, Option.map, hev _ _ hu, hev _ _ hk]
  rw [Sem.run_bind, h φ z hd]
  rfl
theorem FactR.cutLH {t : TypeId} {p l k v : SV} {deps : List Nat} (h : ∀ (φ : List Value) (x : ExtW W0), (∀ k ∈ deps, Φ k (φ.getD k undef) x.w) → (Instr.sliceAt t (p.den (base ++ φ)) (some (l.den (base ++ φ))) (some (k.den (base ++ φ))) none).run P x.w = .ok (v.den (base ++ φ)) x.w) : FactR P W0 base m Φ ([15, t], [p, l, k]) v deps := by
  intro φ _ z hd ev a o hev hs
  obtain ⟨x, y, y2, u, k', k2, ho, hu, hk, hk2, he⟩ := sop15 hs
  simp only [List.cons.injEq, and_true] at he
  obtain ⟨rfl, rfl, rfl⟩ := he
  refine quietAt_pure ?_
  simp only [execOp, ho, Option.map, hev _ _ hu, hev _ _ hk, hev _ _ hk2]
  rw [Sem.run_bind, h φ z hd]
  rfl
theorem FactR.field {t i : Nat} {p v : SV} {deps : List Nat} (h : ∀ (φ : List Value) (x : ExtW W0), (∀ k ∈ deps, Φ k (φ.getD k undef) x.w) → (Instr.field t (p.den (base ++ φ)) i).run P x.w = .ok (v.den (base ++ φ)) x.w) : FactR P W0 base m Φ ([20, t, i], [p]) v deps := by
  intro φ _ z hd ev a o hev hs
  obtain ⟨x, u, ho, hu, he⟩ := sop20 hs
  simp only [List.cons.injEq, and_true] at he
  subst he
  refine quietAt_pure ?_
  simp only [execOp, ho, hev _ _ hu]
  rw [Sem.run_bind, h φ z hd]
  rfl
/-- A builtin that changes nothing. -/
theorem FactR.builtin {b : Builtin} {n : Nat} {l : List Nat} {us : List SV} {v : SV} {deps : List Nat} (hb : ∀ b', bN b' = n → b' = b)
    (h : ∀ (φ : List Value) (x : ExtW W0), (∀ k ∈ deps, Φ k (φ.getD k undef) x.w) → ∀ ty cs, (builtin b l.toArray ty cs (us.map (SV.den (base ++ φ))).toArray).run P x.w = .ok (.value (v.den (base ++ φ))) x.w) : FactR P W0 base m Φ (16 :: n :: l, us) v deps := by
  intro φ _ z hd ev a o hev hs
  obtain ⟨b', args, ats, ho, hn, hl, hus⟩ := sop16 hs
  obtain rfl := hb _ hn
  subst hl
  have hv := svs_eval hev hus
  have hm : args.map a.eval = (us.map (SV.den (base ++ φ))).toArray := by rw [← hv]; exact Array.toList_inj.1 (by simp)
  refine quietAt_pure ?_
  simp only [execOp, ho, resolve, invoke, Sem.run_bind, Sem.run_pure, Result.andThen_ok, hm]
  have key : ∀ cs, (Go.builtin b' ats o.type cs (us.map (SV.den (base ++ φ))).toArray).run P z.w = .ok (.value (v.den (base ++ φ))) z.w := fun cs => by simpa using h φ z hd o.type cs
  exact key _
/-- A builtin that lays or changes memory. -/
theorem FreshS.builtin {b : Builtin} {n k : Nat} {l : List Nat} {us : List SV} {deps : List Nat} {j : Option Nat} (hb : ∀ b', bN b' = n → b' = b)
    (h : ∀ (φ : List Value) (x : ExtS S W0), (∀ k ∈ deps, Φ k (φ.getD k undef) x.w) → (∀ i, j = some i → St i x.w) → ∀ ty cs, ∃ v w', (builtin b l.toArray ty cs (us.map (SV.den (base ++ φ))).toArray).run P x.w = .ok (.value v) w' ∧ (j = none → Fr (fun _ => False) x.w w') ∧ Fr S x.w w' ∧ (∀ i, j = some i → St (i + 1) w') ∧ Φ k v w') : FreshS P S St W0 base m Φ j k (16 :: n :: l, us) deps := by
  intro φ _ z hd hS ev a o hev hs K Q hK
  obtain ⟨b', args, ats, ho, hn, hl, hus⟩ := sop16 hs
  obtain rfl := hb _ hn
  subst hl
  have hv := svs_eval hev hus
  have hm : args.map a.eval = (us.map (SV.den (base ++ φ))).toArray := by rw [← hv]; exact Array.toList_inj.1 (by simp)
  have key : ∀ cs, Oper.upon P o a K Q ((Go.builtin b' ats o.type cs (us.map (SV.den (base ++ φ))).toArray).run P z.w) := fun cs => by
    obtain ⟨v, w', hr, hf0, hf, hS', hΦ⟩ := h φ z hd hS o.type cs
    have hr' : (Go.builtin b' ats o.type cs (us.map (SV.den (base ++ φ))).toArray).run P z.w = .ok (.value v) w' := by simpa using hr
    rw [hr']
    exact hK v w' hf0 hf hS' hΦ
  unfold Oper.wp
  simp only [execOp, ho, resolve, invoke, Sem.run_bind, Sem.run_pure, Result.andThen_ok, hm]
  exact key _
/-- A part of a made tuple, itself under a name. -/
theorem FreshS.extr {p : SV} {i k : Nat} {deps : List Nat} (h : ∀ (φ : List Value) (x : ExtS S W0), (∀ k ∈ deps, Φ k (φ.getD k undef) x.w) → ∃ v, (Instr.extract (p.den (base ++ φ)) i).run P x.w = .ok v x.w ∧ Φ k v x.w) : FreshS P S St W0 base m Φ none k ([11, i], [p]) deps := by
  intro φ _ z hd _ ev a o hev hs K Q hK
  unfold sopR at hs
  split at hs
  · split at hs <;> cases hs
  · exact absurd (mk2_some hs).1 (by simp)
  · exact absurd (mk1_some hs).1 (by simp)
  · rename_i y i' ho
    obtain ⟨e, u, hu, he⟩ := mk1_some hs
    simp only [List.cons.injEq, and_true, true_and] at e he
    subst he e
    obtain ⟨v, hr, hΦ⟩ := h φ z hd
    unfold Oper.wp
    simp only [execOp, ho, hev _ _ hu, Sem.run_bind, hr, Result.andThen_ok, Sem.run_pure, Oper.upon]
    exact hK v z.w (fun _ => Fr.refl _ _) (Fr.refl _ _) (fun i hi => by cases hi) hΦ
  · replace hs := sopOf2_of hs (by simp)
    unfold sopOf at hs
    split at hs
    all_goals first
      | exact absurd (mk1_some hs).1 (by simp)
      | exact absurd (mk2_some hs).1 (by simp)
      | (split at hs <;> cases hs)
      | cases hs
/-- A slice that is made. -/
theorem FreshS.make {t : TypeId} {p q : SV} {k : Nat} {deps : List Nat}
    (h : ∀ (φ : List Value) (x : ExtS S W0), (∀ k ∈ deps, Φ k (φ.getD k undef) x.w) → ∃ v w', (Instr.makeSlice t (p.den (base ++ φ)) (q.den (base ++ φ))).run P x.w = .ok v w' ∧ Fr (fun _ => False) x.w w' ∧ Φ k v w') : FreshS P S St W0 base m Φ none k ([17, t], [p, q]) deps := by
  intro φ _ z hd _ ev a o hev hs K Q hK
  obtain ⟨x, y, u, v, ho, hu, hv, he⟩ := sop17 hs
  simp only [List.cons.injEq, and_true] at he
  obtain ⟨rfl, rfl⟩ := he
  obtain ⟨v, w', hr, hf, hΦ⟩ := h φ z hd
  unfold Oper.wp execOp
  simp only [ho, hev _ _ hu, hev _ _ hv, Sem.run_bind, Sem.run_pure, Result.andThen_ok, hr]
  exact hK v w' (fun _ => hf) (hf.mono fun _ _ h => h.elim) (fun i hi => by cases hi) hΦ
end
/-- A frame of known size, its slots under one name. -/
theorem frame_fn (t : Array Value) (n : Nat) (h : t.size = n) : ∃ f : Nat → Value, (∀ i, t.getD i Go.undef = f i) ∧ t = ((List.range n).map f).toArray :=
  ⟨fun i => t.getD i Go.undef, fun _ => rfl, by
    apply Array.ext
    · simp [h]
    · intro i h1 h2
      simp [h1]⟩
end Go.Bx
