/- Arguments that are coordinators or parts, opened to data. -/
import Derived.Test.YtbgjidamhheekaaGenLift
import Derived.Test.YtbgjidamhheekaaDataC
namespace Go.Proofs.Ytbgjidamhheekaa
open Go.ChangeShapes Go.WideShapes Go.ChangeAt Go.RowKit Go.Joins Go.Deep

section
variable {H : Type} {enc : TypeId × Value → H}
theorem Try.opensInts : Opens enc Try.prog (repSl repInt) 23 := opens_sl Try.underlying23 (by kernel_rfl) (by decide) (opens_int Try.underlying3)
theorem Try.opensIntWs : Opens enc Try.prog (repSl repIntW) 23 := opens_sl Try.underlying23 (by kernel_rfl) (by decide) (opens_intw Try.underlying3)
theorem Try.opensUp : Opens enc Try.prog repUp 134 :=
  opens_as (fun x => ⟨x.1, x.2.1, x.2.2⟩) (fun _ => rfl) (opens_3 Try.underlying134 (by kernel_rfl) rfl rfl rfl (opens_int Try.underlying3) (opens_int Try.underlying3) (opens_int Try.underlying3) rfl rfl rfl)
theorem Try.opensUps : Opens enc Try.prog (repSl repUp) 115 := opens_sl Try.underlying115 (by kernel_rfl) (by decide) Try.opensUp
theorem Try.opensPt : Opens enc Try.prog repPt 117 :=
  opens_as (fun x => ⟨x.1, x.2⟩) (fun _ => rfl) (opens_2 Try.underlying117 (by kernel_rfl) rfl rfl (opens_int Try.underlying3) Try.opensUps rfl rfl)
theorem Try.opensPts : Opens enc Try.prog (repSl repPt) 73 := opens_sl Try.underlying73 (by kernel_rfl) (by decide) Try.opensPt
theorem Try.opensTx : Opens enc Try.prog repTx 75 :=
  opens_as (fun x => ⟨x.1, x.2.1, x.2.2⟩) (fun _ => rfl) (opens_3 Try.underlying75 (by kernel_rfl) rfl rfl rfl Try.opensPts Try.opensIntWs (opens_int Try.underlying3) rfl rfl rfl)
theorem Try.opensTxs : Opens enc Try.prog (repSl repTx) 22 := opens_sl Try.underlying22 (by kernel_rfl) (by decide) Try.opensTx
theorem Try.cellsCo : Try.prog.cellsOf 25 = 2 := by kernel_rfl
theorem Try.opensCo : Opens enc Try.prog repCo 25 :=
  opens_as (fun x => ⟨x.1, x.2⟩) (fun _ => rfl) (opens_2 Try.underlying25 (by kernel_rfl) rfl rfl Try.opensTxs Try.opensInts rfl rfl)
end
end Go.Proofs.Ytbgjidamhheekaa
