/- Slices of objects that read as lists; whether a list is a store: the program's and the reference's StoreValid. -/
import Derived.Test.YtkekcgamhhmjnaaId
import Derived.Test.YtkekcgamhhmjnaaChain
import Derived.BigQuiet
namespace Go.Proofs.Ytkekcgamhhmjnaa
open Go.RowKit Go.Sort

structure Ob where
  k : Int
  xs : List Int
  t : ByteArray
def Ob.ok (o : Ob) : Bool := objOkB o.k o.xs o.t
def Ob.id (o : Ob) : Int := idV o.k o.xs o.t

/-- the three cells of an object from place i on -/
def RObj (w : World) (b off : Nat) (o : Ob) : Prop := ∃ B m d, w.cell? ⟨b, off, none⟩ = some (.int .i64 o.k) ∧ w.cell? ⟨b, off + 1, none⟩ = some (.slice B m d) ∧ w.cell? ⟨b, off + 1 + 1, none⟩ = some (.string o.t) ∧ RInts w B m o.xs ∧ m ≤ maxLen ∧ o.t.size ≤ maxLen
def RObjs (w : World) (A : Option Addr) (n : Nat) (os : List Ob) : Prop :=
  os.length = n ∧ (0 < n → ∃ b off, A = some ⟨b, off, none⟩ ∧ b < w.heap.size ∧ ∀ i o, os[i]? = some o → RObj w b (off + i * 3) o)
theorem RObj.next {w w' : World} {b off : Nat} {o : Ob} (h : RObj w b off o) (hb : Below w.heap.size w w') (hlt : b < w.heap.size) : RObj w' b off o := by
  obtain ⟨B, m, d, h0, h1, h2, h3, h4⟩ := h
  exact ⟨B, m, d, (hb.cell (p := ⟨b, off, none⟩) hlt).trans h0, (hb.cell (p := ⟨b, off + 1, none⟩) hlt).trans h1, (hb.cell (p := ⟨b, off + 1 + 1, none⟩) hlt).trans h2, h3.next hb, h4⟩
theorem RObjs.next {w w' : World} {A : Option Addr} {n : Nat} {os : List Ob} (h : RObjs w A n os) (hb : Below w.heap.size w w') : RObjs w' A n os :=
  ⟨h.1, fun hn => by
    obtain ⟨b, off, e, hlt, hc⟩ := h.2 hn
    exact ⟨b, off, e, Nat.lt_of_lt_of_le hlt hb.size, fun i o ho => (hc i o ho).next hb hlt⟩⟩
theorem RObjs.at_ {w : World} {A : Option Addr} {n : Nat} {os : List Ob} (h : RObjs w A n os) {k : Nat} (hk : k < n) :
    ∃ b off o, A = some ⟨b, off, none⟩ ∧ b < w.heap.size ∧ os[k]? = some o ∧ RObj w b (off + k * 3) o := by
  obtain ⟨b, off, e, hb, hc⟩ := h.2 (by omega)
  have hl : k < os.length := by have := h.1; omega
  exact ⟨b, off, os[k], e, hb, List.getElem?_eq_getElem hl, hc k _ (List.getElem?_eq_getElem hl)⟩

/-- all valid, ascending by their ids -/
def ascO (os : List Ob) : Bool := chainB Ob.ok (fun a b => decide (a.id < b.id)) os
/-- a store -/
def storeB (os : List Ob) : Bool := ascO os && decide ((os.length : Int) ≤ 16)

end Go.Proofs.Ytkekcgamhhmjnaa
