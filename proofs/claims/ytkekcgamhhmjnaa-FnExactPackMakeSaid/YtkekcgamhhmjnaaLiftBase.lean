/- From a walk to a row: arguments opened to plain data; the row's last step where the call has only laid new memory. -/
import Derived.Test.YtkekcgamhhmjnaaPlain
import Derived.ProofKit
import Derived.Lib.SmallJoins
import Derived.ChangeSame
import Derived.Deep.Slices
namespace Go.Proofs.Ytkekcgamhhmjnaa
open Go.ChangeShapes Go.WideShapes Go.ChangeAt Go.RowKit Go.Joins Go.Deep

section
variable {H : Type} {enc : TypeId × Value → H} {P : Program}
theorem post_of_below {f : Func} {s : ChangeSpec} {apart fresh handsOn again : Bool} {W W' : World} {args : Array Value} {v : Value} {ds gs : List (DataW H)} {before pa pv : List MemPlace}
    (hW : DataW.Whole enc P f.params.toList s.vars apart W args.toList ds gs before)
    (hres : ∀ (b : Nat) (sp : Nat → Bool) (hd : Bool), DataW.TrodAll enc P W' b sp hd f.resultTypes.toList (v.resultList f.resultTypes.size) (s.fn H (ds ++ gs)).results [])
    (hargs : ∀ sp : Nat → Bool, (∀ p ∈ before, sp p.block = true) → DataW.TrodAll enc P W' 0 sp true f.params.toList args.toList (s.fn H (ds ++ gs)).args pa)
    (hvars : ∀ sp : Nat → Bool, (∀ p ∈ before, sp p.block = true) → DataW.TrodVars enc P W' sp s.vars (s.fn H (ds ++ gs)).vars pv)
    (hps : before = pa ++ pv) (hb : Below W.heap.size W W')
    (hok : ∀ (j : Nat) (t : TypeId) (r : Value), f.resultTypes[j]? = some t → (v.resultList f.resultTypes.size)[j]? = some r → Value.okWide P W' .any 0 t r) :
    s.post enc P f apart fresh handsOn again W args v W' := by
  have hlt : ∀ p ∈ before, p.block < W.heap.size := fun p hp => hW.lt p hp
  have hold : ∀ p ∈ before, (fun b => decide (b < W.heap.size)) p.block = true := fun p hp => by simpa using hlt p hp
  refine ⟨ds, gs, before, [], pa, pv, hW, hres _ _ _, hargs _ hold, hvars _ hold, World.keptBut_mono (fun p hp => ⟨hp, ?_⟩) (hb.frame (· ∈ before)), fun _ => ?_⟩
  · rw [hps, List.mem_append] at hp
    exact Or.inr hp
  · obtain ⟨_, _, _, _, _, hz, hn⟩ := hW
    refine ⟨hok, _, _, ([] ++ pa) ++ pv, ⟨[] ++ pa, pv, trodAll_append (hargs _ (fun _ _ => rfl)) (hres _ _ _), hvars _ (fun _ _ => rfl), rfl, ?_, ?_⟩, ?_⟩
    · intro b off hp
      have hin : MemPlace.cell b off ∈ before := by rw [hps]; simpa using hp
      rw [hb.frozen (hlt _ hin)]
      exact hz b off hin
    · intro ha
      have := hn ha
      rw [hps] at this
      simpa using this
    · intro p hp _
      rw [hps]
      simpa using hp

/-- an argument reads behind the call as before it -/
theorem arg_stays {t : TypeId} (hl : laidOutB P = true) (hr : P.readableRec t = true) (hrow : t < P.types.size) {W W' : World} {v : Value} {d : DataW H} {ps : List MemPlace}
    (h : DataW.Trod enc P W 0 (fun _ => true) true t v d ps) (hb : Below W.heap.size W W') (hlt : ∀ x ∈ ps, x.block < W.heap.size) {sp : Nat → Bool} (hsp : ∀ x ∈ ps, sp x.block = true) :
    DataW.Trod enc P W' 0 sp true t v d ps :=
  WideElems.Trod_stays hl hr hrow h (fun x hx => hb.same (hlt x hx)) hsp

theorem open_rints {w : World} {base : Nat} {t e : TypeId} {fuel : Nat} {cs : List Value} {x : DataW H × List MemPlace} (ht : P.underlying t = some (.slice e)) (he : P.underlying e = some (.int .i64)) (hc : P.cellsOf e = 1)
    (h : DataW.trod enc P w base (fun _ => true) true fuel t cs = some x) : ∃ A n c xs, cs = [.slice A n c] ∧ RInts w A n xs ∧ n ≤ maxLen := by
  rcases open_ints ht he hc h with ⟨rfl, _⟩ | ⟨a, len, cap, zs, rfl, _, hl, hm, hz, _, hcell, _⟩
  · exact ⟨none, 0, 0, [], rfl, ⟨rfl, fun h => absurd h (by omega)⟩, by simp [maxLen]⟩
  · simp only [if_true] at hz
    refine ⟨some a, len, cap, zs.take len, rfl, ⟨by simp; omega, fun hn => ⟨a, rfl, ?_, fun j x hx => ?_⟩⟩, by omega⟩
    · have h0 := hcell 0 (by omega)
      have := World.block_lt_of_cell? _ _ h0
      rwa [block_of_add] at this
    · rw [List.getElem?_take] at hx
      split at hx
      · rw [hcell j (by omega)]; simp [List.getD, hx]
      · cases hx

/-- a struct of an int, a slice of ints and a string -/
theorem open_obj {r : Reach} {b0 base : Nat} {w : World} {T ti ts tl tn : TypeId} {f0 f1 f2 : Field} {v : Value} {d : DataW H} {p : List MemPlace} (hs : P.underlying T = some (.struct #[f0, f1, f2]))
    (hone : oneCellFields P #[f0, f1, f2] = true) (hC : P.cellsOf T = 3) (e0 : f0.type = ti) (e1 : f1.type = tl) (e2 : f2.type = ts)
    (hi : P.underlying ti = some (.int .i64)) (hl : P.underlying tl = some (.slice tn)) (hn : P.underlying tn = some (.int .i64)) (hc : P.cellsOf tn = 1) (hst : P.underlying ts = some .string)
    (hv : Value.okWide P w r b0 T v) (h : DataW.Trod enc P w base (fun _ => true) true T v d p) :
    ∃ k A n c xs t, v = .agg #[.int .i64 k, .slice A n c, .string t] ∧ RInts w A n xs ∧ n ≤ maxLen ∧ t.size ≤ maxLen := by
  subst e0 e1 e2
  obtain ⟨v0, v1, v2, y0, y1, y2, m, rfl, _, _, h0, h1, h2⟩ := open_agg3 hs hone hC hv h
  obtain ⟨k, ek, _, _⟩ := DataW.trod_int hi h0
  obtain ⟨A, n, c, xs, ex, hr, hm⟩ := open_rints hl hn hc h1
  obtain ⟨t, et, _, ht⟩ := DataW.trod_string hst h2
  simp only [List.cons.injEq, and_true] at ek ex et
  subst ek ex et
  exact ⟨k, A, n, c, xs, t, rfl, hr, hm, ht⟩
theorem open_bytes {r : Reach} {b0 base : Nat} {w : World} {tl tn : TypeId} {v : Value} {d : DataW H} {p : List MemPlace} (hl : P.underlying tl = some (.slice tn)) (hn : P.underlying tn = some (.int .u8)) (hc : P.cellsOf tn = 1)
    (hv : Value.okWide P w r b0 tl v) (h : DataW.Trod enc P w base (fun _ => true) true tl v d p) :
    ∃ A n c, v = .slice A n c ∧ (RBytes w w.heap.size A n ∧ n ≤ c) ∧ n ≤ maxLen := by
  obtain ⟨a0, len, cap, rfl⟩ := okWide_slice hl hv
  obtain ⟨fuel, hf⟩ := h
  rcases open_ints hl hn hc hf with ⟨hcs, _⟩ | ⟨a, len', cap', zs, hcs, _, hle, hm, hz, _, hcell, hwf⟩
  · simp [Value.cells] at hcs
    obtain ⟨rfl, rfl, rfl⟩ := hcs
    exact ⟨none, 0, 0, rfl, ⟨fun h => absurd h (by omega), by omega⟩, by simp [maxLen]⟩
  · simp [Value.cells] at hcs
    obtain ⟨rfl, rfl, rfl⟩ := hcs
    simp only [if_true] at hz
    refine ⟨some a, len, cap, rfl, ⟨fun hn0 => ⟨a, rfl, ?_, fun j hj => ?_⟩, hle⟩, by omega⟩
    · have h0 := hcell 0 (by omega)
      have := World.block_lt_of_cell? _ _ h0
      rwa [block_of_add] at this
    · have hw := hwf (zs.getD j 0) (by simp [List.getD, List.getElem?_eq_getElem (show j < zs.length by omega)])
      have hb : 0 ≤ zs.getD j 0 ∧ zs.getD j 0 ≤ 255 := by
        simp [Lit.wf, IntKind.min, IntKind.max, IntKind.signed, IntKind.bits] at hw
        exact hw
      exact ⟨_, hb.1, hb.2, hcell j (by omega)⟩
theorem int_bounds {n : Int} (h : (Lit.int .i64 n).wf = true) : -9223372036854775808 ≤ n ∧ n ≤ 9223372036854775807 := by
  simp [Lit.wf, IntKind.min, IntKind.max, IntKind.signed, IntKind.bits] at h
  exact h
end
end Go.Proofs.Ytkekcgamhhmjnaa
