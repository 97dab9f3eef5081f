/- A law that is shown by a reckoning: what its row asks. No condition. -/
import Derived.Test.YtbhflfdlkiihgaaSxD
import Derived.Conc.MuLone
namespace Go.Sx
open Go Go.RowKit Go.Bx
theorem CtrOK.calls {P : Program} {fns : Fns} {c : Ctr} (h : CtrOK P fns c) {fn : Func} {body : Code} (hf : P.funcs[c.f]? = some fn) (hname : (fn.name == "runtime.NumGoroutine") = false) (hb : fn.body = some body)
    (hr : c.rs = [.bool]) {xs : List (List Int)} (hg : fns.g c.j xs = [1]) (hp : fns.pre c.j xs) {w : World} {vs : List Value} (ha : ArgsAre w c.ps vs xs) (hps : isObj c.ps = false := by rfl) : Calls P c.f vs.toArray w fun e w' => e = .returned (.bool true) ∧ Below w.heap.size w w' := by
  rcases h.old hps w vs xs ha hp with ⟨_, _, _, _, _, h4⟩ | ⟨v, h1, _⟩
  · refine h4.mono fun e w' ⟨v, he, hv, _, hbl⟩ => ⟨?_, hbl⟩
    rw [hr] at hv
    have hv' : v = resVal (fun i => (fns.g c.j xs).getD i 0) [.bool] := hv
    rw [he, hv', hg]; rfl
  · rw [Go.MuLone.run_callFunc_enter hf hname hb] at h1
    cases h1
theorem not_bit0 {x y : Int} {dy : Decidable (y ≠ 0)} (h : x = b2i !(@decide (y ≠ 0) dy)) (hy : y = 0) : x = 1 := by subst hy; rw [h]; simp [b2i]
theorem arg_u8 {w : World} (l : List UInt8) {n : Nat} (hl : l.length = n) : ArgIs w (.arr .u8 n) (.agg (bvs l).toArray) (l.map fun b => (b.toNat : Int)) := by
  refine ⟨by simp [hl], by simp [bvs, bv, Function.comp_def], fun z hz => ?_⟩
  obtain ⟨b, _, rfl⟩ := List.mem_map.1 hz
  have := b.toNat_lt
  exact ⟨by simp [lo], by simp [hi]; omega⟩
theorem arg_int {w : World} {k : IntKind} {z : Int} (h : InR k z) : ArgIs w (.int k) (.int k z) [z] := ⟨z, rfl, rfl, h⟩
end Go.Sx
