/- Arguments that are coordinators or parts, opened to data. -/
import Derived.Test.YtlmcejpjhdaanaaGenLift
import Derived.Test.YtlmcejpjhdaanaaDataC
namespace Go.Proofs.Ytlmcejpjhdaanaa
open Go.ChangeShapes Go.WideShapes Go.ChangeAt Go.RowKit Go.Joins Go.Deep

section
variable {H : Type} {enc : TypeId × Value → H}
theorem Try.opensInts : Opens enc Try.prog (repSl repInt) 24 := opens_sl Try.underlying24 (by kernel_rfl) (by decide) (opens_int Try.underlying3)
theorem Try.opensIntWs : Opens enc Try.prog (repSl repIntW) 24 := opens_sl Try.underlying24 (by kernel_rfl) (by decide) (opens_intw Try.underlying3)
theorem Try.opensUp : Opens enc Try.prog repUp 150 :=
  opens_as (fun x => ⟨x.1, x.2.1, x.2.2⟩) (fun _ => rfl) (opens_3 Try.underlying150 (by kernel_rfl) rfl rfl rfl (opens_int Try.underlying3) (opens_int Try.underlying3) (opens_int Try.underlying3) rfl rfl rfl)
theorem Try.opensUps : Opens enc Try.prog (repSl repUp) 139 := opens_sl Try.underlying139 (by kernel_rfl) (by decide) Try.opensUp
theorem Try.opensPt : Opens enc Try.prog repPt 141 :=
  opens_as (fun x => ⟨x.1, x.2⟩) (fun _ => rfl) (opens_2 Try.underlying141 (by kernel_rfl) rfl rfl (opens_int Try.underlying3) Try.opensUps rfl rfl)
theorem Try.opensPts : Opens enc Try.prog (repSl repPt) 95 := opens_sl Try.underlying95 (by kernel_rfl) (by decide) Try.opensPt
theorem Try.opensTx : Opens enc Try.prog repTx 97 :=
  opens_as (fun x => ⟨x.1, x.2.1, x.2.2⟩) (fun _ => rfl) (opens_3 Try.underlying97 (by kernel_rfl) rfl rfl rfl Try.opensPts Try.opensIntWs (opens_int Try.underlying3) rfl rfl rfl)
theorem Try.opensTxs : Opens enc Try.prog (repSl repTx) 38 := opens_sl Try.underlying38 (by kernel_rfl) (by decide) Try.opensTx
theorem Try.cellsCo : Try.prog.cellsOf 40 = 2 := by kernel_rfl
theorem Try.opensCo : Opens enc Try.prog repCo 40 :=
  opens_as (fun x => ⟨x.1, x.2⟩) (fun _ => rfl) (opens_2 Try.underlying40 (by kernel_rfl) rfl rfl Try.opensTxs Try.opensInts rfl rfl)
end
end Go.Proofs.Ytlmcejpjhdaanaa
