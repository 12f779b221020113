/- Walks: the reference's l22Shard. -/
import Derived.Test.YtlmcejpjhdaanaaCoM
namespace Go.Proofs.Ytlmcejpjhdaanaa
open Go.RowKit Go.Sort

/-- an index, or -1 -/
def idxI (o : Option Nat) : Int := match o with | some k => (k : Int) | none => -1
theorem shAt_some {ps : List Pt} {s : Int} {k : Nat} {p : Pt} (h : ∀ j p, ps[j]? = some p → j < k → p.shard ≠ s) (hp : ps[k]? = some p) (hs : p.shard = s) : shAt ps s = some k := by
  unfold shAt
  rw [List.findIdx?_eq_some_iff_getElem]
  obtain ⟨h1, h2⟩ := List.getElem?_eq_some_iff.1 hp
  refine ⟨h1, by rw [h2]; simpa using hs, fun j hj => ?_⟩
  have := h j _ (List.getElem?_eq_getElem (by omega)) hj
  simpa using this
theorem shAt_none {ps : List Pt} {s : Int} (h : ∀ (j : Nat) (p : Pt), ps[j]? = some p → p.shard ≠ s) : shAt ps s = none := by
  unfold shAt
  rw [List.findIdx?_eq_none_iff]
  intro p hp
  obtain ⟨i, hi⟩ := List.mem_iff_getElem?.1 hp
  simpa using h i p hi
theorem shAt_lt {ps : List Pt} {s : Int} {k : Nat} (h : shAt ps s = some k) : ∃ p, ps[k]? = some p ∧ p.shard = s := by
  unfold shAt at h
  rw [List.findIdx?_eq_some_iff_getElem] at h
  obtain ⟨h1, h2, _⟩ := h
  exact ⟨_, List.getElem?_eq_getElem h1, by simpa using h2⟩

set_option maxRecDepth 100000 in
set_option maxHeartbeats 1600000 in
theorem l22Shard_any (A : Option Addr) (n c : Nat) (ps : List Pt) (s : Int) (w : World) (h : RSl repPt 0 w A n ps) (hn : n ≤ maxLen) :
    Calls Try.prog 76 #[.slice A n c, .int .i64 s] w fun e w' => e = .returned (.int .i64 (idxI (shAt ps s))) ∧ w' = w := by
  unfold maxLen at hn
  have hl := h.1
  go_enter Try.func76, Try.ntmps76
  go_wp2
  go_loopw [5] (fun i wr => ∃ k : Nat, k ≤ n ∧ i = .int .i64 k ∧ wr = w ∧ Hid (∀ (j : Nat) (p : Pt), ps[j]? = some p → j < k → p.shard ≠ s)) (fun i _ => n - (intOf i).toNat)
  case atStart => exact ⟨0, Nat.zero_le _, rfl, rfl, fun j p _ h => absurd h (by omega)⟩
  case round =>
    obtain ⟨k, hk, rfl, rfl, hH⟩ := hrel
    by_cases hlt : k < n
    · obtain ⟨b, off, p, cs, rfl, hb, hx, hcx, hvx⟩ := h.at_ hlt
      obtain ⟨U, m, e, rfl, -, -⟩ := repPt_cells hvx
      have c0 : wr.cell? ⟨b, off + k * 2, none⟩ = some (.int .i64 p.shard) := hcx 0 _ rfl
      have HX := Lib.hid hx
      clear hcx hvx hx
      by_cases hs : p.shard = s
      · go_wp2
        go_ret
        exact ⟨by rw [shAt_some hH.out HX.out hs]; rfl, rfl⟩
      · go_wp2
        go_roundw
        case rel => exact ⟨k + 1, by omega, by go_num, trivial, fun j q hq hj => by
          by_cases e : j = k
          · subst e
            have := HX.out
            rw [hq] at this
            injection this with this
            subst this
            exact hs
          · exact hH.out j q hq (by omega)⟩
        case measure => simp [intOf]; omega
    · obtain rfl : k = n := by omega
      go_wp2
      go_ret
      exact ⟨by rw [shAt_none (fun j p hp => hH.out j p hp (by have := (List.getElem?_eq_some_iff.1 hp).1; omega))]; rfl, rfl⟩
end Go.Proofs.Ytlmcejpjhdaanaa
