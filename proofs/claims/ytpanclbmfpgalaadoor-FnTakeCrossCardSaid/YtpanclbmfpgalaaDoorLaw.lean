/- Walks: the laws' own helpers on slices of ints and on objects: copies, comparisons, sizes. -/
import Derived.Test.YtpanclbmfpgalaaDoorIds
import Derived.Test.YtpanclbmfpgalaaDoorMem
namespace Go.Proofs.YtpanclbmfpgalaaDoor
open Go.RowKit Go.Sort

theorem int_info : (Tryd.prog.info? 3).map (fun i => (i.zero, i.size, i.bytes)) = some (some (.int .i64 0), 1, 8) := by kernel_rfl


/-- what is left of a budget -/
def szI (l : Int) (n : Nat) : Int := if l - n < 0 then -1 else l - n


/-- of an object: its links, then its text -/
def szO (l : Int) (n m : Nat) : Int := if szI l n < 0 then -1 else szI (szI l n) m


theorem eq_take (xs ys : List Int) (k : Nat) (hl : xs.length = ys.length) (x y : Int) (hx : xs[k]? = some x) (hy : ys[k]? = some y) : (xs.take (k+1) = ys.take (k+1)) ↔ (xs.take k = ys.take k ∧ x = y) := by
  have hk : k < xs.length := (List.getElem?_eq_some_iff.1 hx).1
  have hk' : k < ys.length := by omega
  have hxk : xs[k] = x := (List.getElem?_eq_some_iff.1 hx).2
  have hyk : ys[k] = y := (List.getElem?_eq_some_iff.1 hy).2
  rw [List.take_succ_eq_append_getElem hk, List.take_succ_eq_append_getElem hk', hxk, hyk]
  constructor
  · intro h
    have := List.append_inj h (by simp; omega)
    exact ⟨this.1, by simpa using this.2⟩
  · rintro ⟨h1, h2⟩; rw [h1, h2]

def eqI (xs ys : List Int) : Bool := decide (xs = ys)



end Go.Proofs.YtpanclbmfpgalaaDoor
