/- The statement ScalarLong: the law's walk, by the reckoning. No condition. -/
import Derived.Test.YtokndemdmkaofaaSk7
namespace Go.Proofs.Ytokndemdmkaofaa.scalarLong
open Go.RowKit Go.Bx Go.Sx
theorem walk (a : List UInt8) (na : a.length = 32) (b : List UInt8) (nb : b.length = 32) (w : World) :
    Calls Try.prog 12 #[.agg (bvs a).toArray, .agg (bvs b).toArray] w fun e w' => e = .returned (.bool true) ∧ Below w.heap.size w w' :=
  CtrOK.calls okLong (fn := Try.f12) (body := (Try.f12).body.getD .skip) (by kernel_rfl) (by kernel_rfl) (by kernel_rfl) rfl (xs := [(a.map fun b => (b.toNat : Int)), (b.map fun b => (b.toNat : Int))]) rfl trivial ⟨arg_u8 a na, arg_u8 b nb, trivial⟩
end Go.Proofs.Ytokndemdmkaofaa.scalarLong
