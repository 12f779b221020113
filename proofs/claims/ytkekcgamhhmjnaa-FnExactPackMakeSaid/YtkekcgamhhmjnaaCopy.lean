/- Walks: the reference's copies of slices of objects, its StorePut's parts. -/
import Derived.Test.YtkekcgamhhmjnaaOwn
import Derived.Test.YtkekcgamhhmjnaaObjLaw
namespace Go.Proofs.Ytkekcgamhhmjnaa
open Go.RowKit Go.Sort

/-- after an append onto the row, of one object -/
theorem OwnO.push {w w1 : World} {B n m d k : Nat} {v v' : Value} {os : List Ob} {o : Ob} {A : Option Addr} {cs : List Value} (hown : w.ownsRow B 34 3 v k cs) (hel : Elems cs os (LinkIn w B)) (hlk : LinkIn w B A m o.xs) (hm : m ≤ maxLen) (ht : o.t.size ≤ maxLen)
    (hg : w.grownBy w1 v.ownBlock) (hown' : w1.ownsRow B 34 3 v' n (cs ++ [.int .i64 o.k, .slice A m d, .string o.t])) : OwnO w1 B v' n (os ++ [o]) :=
  ⟨_, hown', (hel.append (Elems.one hlk hm ht)).mono fun _ _ _ hx => hx.grown hg fun g e => Or.inr (by
    rcases hown.2 with ⟨rfl, _⟩ | ⟨g', cap, cur, rfl, _, hh, _⟩
    · cases e
    · have : g' = g := by simpa [Value.ownBlock] using e
      subst this
      exact ⟨_, _, _, hh, by decide⟩)⟩

theorem Blk.cellsAt {w : World} {g : Nat} {t : TypeId} {cs : List Value} (h : Blk w g t cs) : ∀ j u, cs[j]? = some u → w.cell? ((⟨g, 0, none⟩ : Addr).add j) = some u := fun j u hu => by
  rw [show (⟨g, 0, none⟩ : Addr).add j = ⟨g, j, none⟩ by unfold Addr.add; split <;> simp_all, h.cell]; exact hu
def Copied (w : World) (n : Nat) (os : List Ob) (e : Ending) (w' : World) : Prop := ∃ v, e = .returned v ∧ OwnO w' w.heap.size v n os ∧ Below w.heap.size w w'
def smallOs (os : List Ob) : Prop := ∀ o ∈ os, o.xs.length ≤ 1000000


end Go.Proofs.Ytkekcgamhhmjnaa
