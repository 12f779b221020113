/- slices.Sorted(maps.Keys(m)) at keys that are transactions: by the library's contracts. -/
import Derived.Test.YtjofgbbofagoiaaSortC
import Derived.Test.YtjofgbbofagoiaaQuMap
import Derived.Shelf.SlIterI.Nil
import Derived.Shelf.SlGeneric
namespace Go.Proofs.Ytjofgbbofagoiaa
open Go.Shelf Go.RowKit Go.Sort Go.Maps

def Try.keysA_ren : Go.Shelf.Ren := ⟨fun | 7 => 106 | 10 => 119 | n => n, fun | 23 => 76 | 26 => 3 | 3 => 23 | 28 => 126 | 0 => 0 | 27 => 125 | 33 => 71 | 4 => 4 | n => n, fun | n => n⟩
theorem Try.keysA : Go.Proofs.SlLaysZI.n7 Try.prog Try.keysA_ren := {
  mixed := by kernel_rfl
  f7 := ⟨Try.f106.name, by decide, Try.func106.trans (congrArg some (by kernel_rfl))⟩
  f10 := ⟨Try.f119.name, by decide, Try.func119.trans (congrArg some (by kernel_rfl))⟩
  t0 := Try.underlying0
  a0 := Try.isAgg0
  z0 := Try.sizeOf0
  v0 := Try.zeroValue0
  t4 := Try.underlying4
  a4 := Try.isAgg4
  z4 := Try.sizeOf4
  v4 := Try.zeroValue4
  t23 := Try.underlying76
  a23 := Try.isAgg76
  z23 := Try.sizeOf76
  v23 := Try.zeroValue76
  t26 := Try.underlying3
  a26 := Try.isAgg3
  z26 := Try.sizeOf3
  v26 := Try.zeroValue3
  t27 := Try.underlying125
  a27 := Try.isAgg125
  z27 := Try.sizeOf125
  v27 := Try.zeroValue125
  t28 := Try.underlying126
  a28 := Try.isAgg126
  z28 := Try.sizeOf126
  v28 := Try.zeroValue126
  t33 := Try.underlying71
  a33 := Try.isAgg71
  z33 := Try.sizeOf71
  v33 := Try.zeroValue71 }
def Try.sortedA_ren : Go.Shelf.Ren := ⟨fun | 6 => 105 | 8 => 118 | 9 => 84 | 11 => 135 | 13 => 111 | 12 => 110 | 23 => 130 | 24 => 131 | 14 => 121 | 15 => 122 | 16 => 123 | 17 => 124 | 18 => 125 | 19 => 126 | 20 => 127 | 21 => 128 | 22 => 129 | 25 => 136 | 26 => 137 | 27 => 138 | 28 => 139 | 29 => 140 | 30 => 141 | 31 => 143 | n => n, fun | 26 => 3 | 28 => 126 | 24 => 27 | 0 => 0 | 3 => 3 | 37 => 132 | 48 => 146 | 50 => 148 | 4 => 4 | 40 => 139 | 39 => 138 | 45 => 80 | 5 => 5 | 9 => 9 | 51 => 151 | 55 => 155 | 57 => 157 | 58 => 158 | 33 => 71 | n => n, fun | n => n⟩
theorem Try.sortedA : Go.Proofs.SlLaysZI.n6 Try.prog Try.sortedA_ren := {
  mixed := by kernel_rfl
  f6 := ⟨Try.f105.name, by decide, Try.func105.trans (congrArg some (by kernel_rfl))⟩
  f8 := ⟨Try.f118.name, by decide, Try.func118.trans (congrArg some (by kernel_rfl))⟩
  f11 := ⟨Try.f135.name, by decide, Try.func135.trans (congrArg some (by kernel_rfl))⟩
  t0 := Try.underlying0
  a0 := Try.isAgg0
  z0 := Try.sizeOf0
  v0 := Try.zeroValue0
  t24 := Try.underlying27
  a24 := Try.isAgg27
  z24 := Try.sizeOf27
  v24 := Try.zeroValue27
  t26 := Try.underlying3
  a26 := Try.isAgg3
  z26 := Try.sizeOf3
  v26 := Try.zeroValue3
  t28 := Try.underlying126
  a28 := Try.isAgg126
  z28 := Try.sizeOf126
  v28 := Try.zeroValue126
  i26 := by kernel_rfl }
/-- slices.Sort's two contracts at this dump. -/
theorem Try.sortsA (m : Nat) : AnyZI.SortsIn Try.prog Try.sortedA_ren Fence.wide m :=
  ⟨fun blk off cap ss W hH hblk hsz => callsIn_wide.2 (Any.slices_Sort_int Try.lays189 blk off cap ss W hH hblk hsz),
   fun p cap W => callsIn_wide.2 (Any.slices_Sort_int_none Try.lays189 p cap W)⟩
theorem keysOf_any (mb : Option Nat) (W : World) : Calls Try.prog 106 #[.map mb] W fun e w' => e = .returned (.func (.func 119) #[] #[.pointer (some ⟨W.heap.size, 0, none⟩)]) ∧ w' = W.alloc (.cells #[.map mb] 76) :=
  (callsIn_wide (n := 5)).1 (AnyZI.keys_in Try.keysA Fence.wide 5 trivial rfl mb W)
theorem intKeys_ars (l : List (Int × Value)) : intKeys (arsD l) = l.map (·.1) := by
  unfold arsD intKeys
  simp only
  rw [List.map_map]
  rfl
theorem size_ars (l : List (Int × Value)) : Maps.size (arsD l) = l.length := by
  unfold arsD Maps.size
  simp
set_option maxHeartbeats 1000000 in
theorem sortedKeys_any (b nn : Nat) (l : List (Int × Value)) (w : World) (hown : w.ownsMap Try.prog 3 RH b nn (arsD l)) (hl : l.length ≤ 100) (hp : (l.map (·.1)).Pairwise (· < ·)) :
    Calls Try.prog 105 #[.func (.func 119) #[] #[.pointer (some ⟨w.heap.size, 0, none⟩)]] (w.alloc (.cells #[.map (some b)] 76)) fun e w' => ∃ v, e = .returned v ∧
      w'.ownsRow (w.heap.size + 1) 3 1 v l.length (ints (l.map (·.1))) ∧ Below (w.heap.size + 1) (w.alloc (.cells #[.map (some b)] 76)) w' := by
  have hbl := hown.lt
  have hsz := size_ars l
  have hseq : SeqGives Fence.wide 2 Try.prog 119 #[.pointer (some ⟨w.heap.size, 0, none⟩)] encZ (fun ss => ss.Perm (intKeys (arsD l))) (Maps.size (arsD l)) (w.alloc (.cells #[.map (some b)] 76)) :=
    AnyZI.keys_gives (ρ := Try.keysA_ren) { Try.keysA with } Fence.wide _ trivial rfl (by omega) w.heap.size b nn (arsD l) _ (by simp) (by simp) (by
      obtain ⟨es, clock, hb, Ft, hs, hD⟩ := hown
      exact ⟨es, clock, (Below.heap_alloc _ _ b hbl).trans hb, Ft, hs, hD⟩)
  have cS := AnyZI.sorted_in Try.sortedA Fence.wide 5 trivial trivial trivial trivial rfl (by omega) (Try.sortsA _) (enters_of Try.func84 (by kernel_rfl) rfl) 119 #[.pointer (some ⟨w.heap.size, 0, none⟩)] trivial (enters_of Try.func119 (by kernel_rfl) rfl) _ _ (by rw [hsz]; simp only [maxLen]; omega) (by rw [hsz]; omega) _ hseq
  change CallsIn _ _ Try.prog 105 _ _ _ at cS
  refine ((callsIn_wide (n := 5)).1 cS).mono ?_
  rintro e w' ⟨v, ss, rfl, hS, hrow, -, hb⟩
  rw [intKeys_ars] at hS
  have hm : ss.mergeSort (fun x y => decide (x ≤ y)) = l.map (·.1) := by
    refine List.Perm.eq_of_pairwise (le := fun x y : Int => x ≤ y) (fun x y _ _ h1 h2 => by omega) ?_ ?_ ((List.mergeSort_perm _ _).trans hS)
    · have := List.pairwise_mergeSort (le := fun x y : Int => decide (x ≤ y)) (fun a b c h1 h2 => by simp at h1 h2 ⊢; omega) (fun a b => by simp; omega) ss
      exact this.imp fun h => by simpa using h
    · exact hp.imp fun h => by omega
  have hlen : ss.length = l.length := by rw [hS.length_eq, List.length_map]
  rw [hm, hlen] at hrow
  refine ⟨v, rfl, ?_, by simpa using hb⟩
  have : (w.alloc (.cells #[.map (some b)] 76)).heap.size = w.heap.size + 1 := by simp
  rw [this] at hrow
  exact hrow
end Go.Proofs.Ytjofgbbofagoiaa
