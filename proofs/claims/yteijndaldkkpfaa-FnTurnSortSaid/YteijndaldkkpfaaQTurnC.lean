/-
  Cut to what this claim uses.
-/
import Derived.Shelf.SlGeneric
import Derived.Test.YteijndaldkkpfaaQTurnB
namespace Go.Proofs.YteijndaldkkpfaaW.PrintMore
set_option linter.unusedVariables false
set_option linter.unusedSimpArgs false
open Go.Proofs Go.Deep Go.Shelf
open Go.RowKit Go.Proofs.YteijndaldkkpfaaW.PrintWords Go.Proofs.YteijndaldkkpfaaW.PrintLast Go.Proofs.YteijndaldkkpfaaW.PrintMore
def tm_rev_ren : Go.Shelf.Ren := ⟨fun | 112 => 60 | n => n, fun | 28 => 22 | 3 => 3 | 4 => 4 | 0 => 0 | n => n, fun | n => n⟩
theorem tm_rev : Go.Proofs.Lays.n112 Try.prog tm_rev_ren := {
  mixed := by kernel_rfl
  f112 := Try.func60.trans (congrArg some (by kernel_rfl))
  t0 := Try.underlying0
  a0 := Try.isAgg0
  z0 := Try.sizeOf0
  v0 := Try.zeroValue0
  t3 := Try.underlying3
  a3 := Try.isAgg3
  z3 := Try.sizeOf3
  v3 := Try.zeroValue3
  t4 := Try.underlying4
  a4 := Try.isAgg4
  z4 := Try.sizeOf4
  v4 := Try.zeroValue4
  t28 := Try.underlying22
  a28 := Try.isAgg22
  z28 := Try.sizeOf22
  v28 := Try.zeroValue22 }
theorem rev_walk (A s n : Nat) (zs : List Int) (w : World) (hz : n ≤ zs.length) (hbig : n ≤ 9223372036854775807) (hc : ∀ j, j < zs.length → w.cell? ⟨A, s + j, none⟩ = some (.int .i64 (zs.getD j 0))) (hf : ∀ j, j < n → w.frozen? ⟨A, s + j, none⟩ = false) :
    Calls Try.prog 60 #[.slice (some ⟨A, s, none⟩) n n] w fun e w' => e = .returned (.tuple #[]) ∧ ∃ q, w' = (w.drewN q).setCells A s ((zs.take n).reverse.map (Value.int .i64)) :=
  Any.slices_Reverse_int_cells tm_rev A s n n zs w hz hbig hc hf
end Go.Proofs.YteijndaldkkpfaaW.PrintMore
