/- An argument that is a quarantine, opened to data. -/
import Derived.Test.YtjofgbbofagoiaaGenLift
import Derived.Test.YtjofgbbofagoiaaDataQ
namespace Go.Proofs.Ytjofgbbofagoiaa
open Go.ChangeShapes Go.WideShapes Go.ChangeAt Go.RowKit Go.Joins Go.Deep

section
variable {H : Type} {enc : TypeId × Value → H}
theorem Try.cellsQu : Try.prog.cellsOf 42 = 2 := by kernel_rfl
theorem Try.opensInts : Opens enc Try.prog (repSl repInt) 27 := opens_sl Try.underlying27 (by kernel_rfl) (by decide) (opens_int Try.underlying3)
theorem Try.opensOb : Opens enc Try.prog repOb 114 :=
  opens_as (fun x => ⟨x.1, x.2.1, x.2.2⟩) (fun _ => rfl) (opens_3 Try.underlying114 (by kernel_rfl) rfl rfl rfl (opens_int Try.underlying3) Try.opensInts (opens_str Try.underlying9) rfl rfl rfl)
instance : Inhabited Ob := ⟨⟨0, [], ⟨#[]⟩⟩⟩
theorem Try.opensObs : Opens enc Try.prog (repSl repOb) 39 := opens_sl Try.underlying39 (by kernel_rfl) (by decide) Try.opensOb
theorem Try.opensAr : Opens enc Try.prog repAr 117 :=
  opens_as (fun x => ⟨x.1, x.2⟩) (fun _ => rfl) (opens_2 Try.underlying117 (by kernel_rfl) rfl rfl (opens_int Try.underlying3) Try.opensObs rfl rfl)
theorem Try.opensArs : Opens enc Try.prog (repSl repAr) 40 := opens_sl Try.underlying40 (by kernel_rfl) (by decide) Try.opensAr
theorem Try.opensQu : Opens enc Try.prog repQu 42 :=
  opens_as (fun x => ⟨x.1, x.2⟩) (fun _ => rfl) (opens_2 Try.underlying42 (by kernel_rfl) rfl rfl Try.opensObs Try.opensArs rfl rfl)
end
end Go.Proofs.Ytjofgbbofagoiaa
