/- The statement FnTakeCrossCardSaid: for every input FnTakeCross answers true and leaves its arguments as they were. No condition. -/
import Derived.Test.YtpanclbmfpgalaaDoorRows
import Derived.Test.YtpanclbmfpgalaaDoorLiftBase
import Derived.Test.YtpanclbmfpgalaaDoorTie
import Derived.Test.YtpanclbmfpgalaaDoorCards
import Derived.LaidMore
import Derived.OpenShut
import Derived.Stop.Joined
import Derived.Stop.LaidErr
import Derived.SevenTiedAt
import Derived.Test.YtpanclbmfpgalaaDoorFnTakeCross
namespace Go.Proofs.YtpanclbmfpgalaaDoor
open Go.ChangeShapes Go.WideShapes Go.ChangeAt Go.RowKit Go.Joins Go.Deep

theorem Tryd.own : ownKnob Tryd.prog.godebug = none := by kernel_rfl
theorem Tryd.laidOut : laidOutB Tryd.prog = true := by kernel_rfl
theorem Tryd.cellsByte : Tryd.prog.cellsOf 5 = 1 := by kernel_rfl

theorem Tryd.gE : Tryd.prog.globalNamed "loop.example/atomicpush/impl.errLocked" = some 0 := by kernel_rfl
theorem Tryd.gEType : (Tryd.prog.globals[0]?).map (·.type) = some 46 := by kernel_rfl
theorem Tryd.star : "*" ++ "errors.errorString" = "*errors.errorString" := by decide
theorem Tryd.rowES (u : TypeId) (h : Tryd.prog.typeName? 3 u = some "*errors.errorString") : u = 76 :=
  typeName_ptr_named (nm := "errors.errorString") (by rw [Tryd.star]; kernel_rfl) (by kernel_rfl) (by decide) u (by rw [Tryd.star]; exact h)
theorem Tryd.cellsES : Tryd.prog.cellsOf 102 = 1 := by kernel_rfl
theorem Tryd.cellsStr : Tryd.prog.cellsOf 9 = 1 := by kernel_rfl
/-- the door's own heap meets the condition -/
theorem door_met (os : Os) (args : Array Value) : laidMetH Tryd.prog Rows.fnTakeCrossRow.laid ((World.doorLaid Tryd.prog 400 os).forCall (fun _ _ => 0) ⟨#[], args, []⟩).memory :=
  laidMetH_of_parts3 (fuel := 8) (laidMet_of_run' 8 (by kernel_rfl) (by kernel_rfl)) (by kernel_rfl) (by kernel_rfl)
theorem var_below {P : Program} {W W' : World} {n : String} {g : Nat} {cs : Array Value} (hg : P.globalNamed n = some g) (hlt : g < W.heap.size) (h : W.var? P n = some cs) (hb : Below W.heap.size W W') : W'.var? P n = some cs := by
  unfold World.var? at h ⊢
  rw [hg] at h ⊢
  simp only [Option.bind_some] at h ⊢
  rw [hb.block g hlt]
  exact h

set_option maxRecDepth 100000 in
theorem FnTakeCross_lifted (os : Os) (started : os.Started) (H : Type) (enc : TypeId × Value → H) :
    ReturnsInHanded {} Tryd.checked os 4 .any (fun w args => (Rows.fnTakeCrossSpec.pre enc Tryd.prog Tryd.f4 [] false w args ∧ laidMetH Tryd.prog Rows.fnTakeCrossRow.laid w) ∧ sizedMet enc Tryd.prog Tryd.f4 (OpenSpec.ofChange Rows.fnTakeCrossSpec) false w args) (Rows.fnTakeCrossSpec.post enc Tryd.prog Tryd.f4 false true false false) := by
  refine returnsInHanded_of_change_and (C := Tryd.checked) (X := fun w _ => laidMetH Tryd.prog Rows.fnTakeCrossRow.laid w) (fun _ _ _ hh h => h.of_heap hh) Tryd.own started (by kernel_rfl) Tryd.func4
    (ChangeSpec.witness_shaped (enc := enc) (C := Tryd.checked) (os := os) (X := fun w _ => laidMetH Tryd.prog Rows.fnTakeCrossRow.laid w) false (World.doorLaid Tryd.prog 400 os) #[.slice none 0 0, .slice none 0 0] 8 rfl (World.shaped_of_RefB (by kernel_rfl) (by kernel_rfl)) (by kernel_rfl) (by kernel_rfl) (by kernel_rfl) (door_met os _)) ?_
  intro W base args ds gs before hval0 hW _ _ hL0 _
  have hL : laidMet Tryd.prog Rows.fnTakeCrossRow.laid W := by
    have := hL0
    rwa [MakeChecks.laidMetH_plain _ _ _ (by kernel_rfl)] at this
  obtain ⟨a0, s0, hv0, _, _, _⟩ := laid_sentinel hL Tryd.gE Tryd.gEType Tryd.underlying46 Tryd.rowES Tryd.underlying76 Tryd.underlying102 rfl rfl Tryd.underlying9 Tryd.cellsES Tryd.cellsStr
  have hE : W.cell? ⟨0, 0, none⟩ = some (.iface 76 (.pointer (some a0))) := by simpa using World.var?_cell Tryd.gE hv0 0
  have h0b := block_lt_of_cellL hE
  have hval : ∀ (j : Nat) t v, Tryd.f4.params[j]? = some t → args[j]? = some v → Value.okWide Tryd.prog W .any base t v := hval0
  have hW' := hW
  obtain ⟨p, q, hA0, hV, rfl, _, _⟩ := hW
  have hA : DataW.TrodAll enc Tryd.prog W 0 (fun _ => true) true Tryd.f4.params.toList args.toList ds p := hA0
  rw [Tryd.params4] at hA hval
  obtain ⟨v0, v1, d0, d1, p0, p1, rfl, rfl, rfl, h0, h1⟩ := trodAll_two hA
  have hV1 : DataW.TrodVars enc Tryd.prog W (fun _ => true) ["loop.example/atomicpush/impl.errLocked"] gs q := hV
  obtain ⟨rfl, rfl⟩ := hV1.unique (vars_read1 enc Tryd.gE Tryd.gEType Tryd.underlying46 hv0 trivial _)
  obtain ⟨A0, n0, c0, rfl, hr0, hn0⟩ := open_bytes Tryd.underlying22 Tryd.underlying5 Tryd.cellsByte (hval 0 _ v0 rfl rfl) h0
  obtain ⟨A1, n1, c1, rfl, hr1, hn1⟩ := open_bytes Tryd.underlying22 Tryd.underlying5 Tryd.cellsByte (hval 1 _ v1 rfl rfl) h1
  clear hA0 hval0
  have hlt : ∀ x ∈ p0 ++ p1, x.block < W.heap.size := fun x hx => hW'.lt x (by simp at hx ⊢; rcases hx with h | h <;> simp [h])
  refine (FnTakeCross_walk A0 n0 c0 A1 n1 c1 a0 W hr0 hn0 hr1 hn1 hE).mono fun e W' ⟨he, hb⟩ => ?_
  subst he
  exact ⟨_, rfl, post_of_below (pa := p0 ++ p1) (pv := [.cell 0 0]) hW' (fun _ _ _ => trodAll_mk1 (shut_bool Tryd.underlying4 true))
    (fun sp hsp => trodAll_mk2 (arg_stays Tryd.laidOut (by kernel_rfl) (of_decide_eq_true (by kernel_rfl)) h0 hb (fun x hx => hlt x (by simp [hx])) (fun x hx => hsp x (by simp [hx]))) (arg_stays Tryd.laidOut (by kernel_rfl) (of_decide_eq_true (by kernel_rfl)) h1 hb (fun x hx => hlt x (by simp [hx])) (fun x hx => hsp x (by simp [hx])))) (fun sp _ => vars_read1 enc Tryd.gE Tryd.gEType Tryd.underlying46 (var_below Tryd.gE h0b hv0 hb) trivial sp) (by simp) hb
    (ok_one (by kernel_rfl) rfl (okWide_bool_mk Tryd.underlying4 true))⟩

theorem FnTakeCross_holds : Rows.FnTakeCrossSaid :=
  OpenClaim.holds_of_wide 4 Tryd.f4 rfl rfl rfl rfl rfl rfl rfl ⟨rfl, rfl, rfl, rfl, rfl⟩ rfl rfl rfl rfl rfl (by kernel_rfl) Tryd.func4 (by kernel_rfl)
    (of_decide_eq_true (by kernel_rfl)) (by unfold Func.isWrapper; rw [if_neg (of_decide_eq_false (by kernel_rfl))]; exact ⟨rfl, rfl⟩)
    (fun os started H enc _ => FnTakeCross_lifted os started H enc)
theorem FnTakeCross_card_holds : Rows.FnTakeCrossCardSaid :=
  Claim7.holds_tied_plain_at .later [] [.sentinel] true (true, "51b1f738c25202918b11f15a4cbc7fedca1b3411eea78b95f73b45e1dd1161e7") true
    FnTakeCross_holds (fun _ h => by cases h) (by kernel_rfl) (fun _ h => by cases h) fnTakeCross_row_tie rfl ⟨rfl, rfl⟩ (by kernel_rfl) rfl
    (fun f fn hf hfn => by
      obtain rfl : f = 4 := Option.some.inj ((show Tryd.prog.funcNamed "loop.example/atomicpush/laws.FnTakeCross" = some 4 by kernel_rfl).symm.trans hf) |>.symm
      obtain rfl : fn = Tryd.f4 := (Option.some.inj (Tryd.func4.symm.trans hfn)).symm
      exact ⟨by kernel_rfl, fun j t ht => by
        rw [Tryd.params4] at ht
        have h3 : t = 22 := by
          rcases j with _ | _ | j
          · simpa using ht.symm
          · simpa using ht.symm
          · simp at ht
        subst h3
        exact (show Tryd.prog.wantsStandIn 22 = false by kernel_rfl)⟩)
    (by kernel_rfl)
end Go.Proofs.YtpanclbmfpgalaaDoor
