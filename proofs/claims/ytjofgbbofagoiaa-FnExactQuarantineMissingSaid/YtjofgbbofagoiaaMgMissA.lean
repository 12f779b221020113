import Derived.Test.YtjofgbbofagoiaaSortC
import Derived.Test.YtjofgbbofagoiaaQuMap
import Derived.Shelf.SlIterI.Nil
import Derived.Shelf.SlGeneric
import Derived.Test.YtjofgbbofagoiaaQuAreas
import Derived.Test.YtjofgbbofagoiaaImplCopy
import Derived.Deep.RegionHeld3
import Derived.Test.YtjofgbbofagoiaaQuDisc
import Derived.Test.YtjofgbbofagoiaaQuMissS
import Derived.Test.YtjofgbbofagoiaaRchI
/- slices.Sorted(maps.Keys(m)) at keys that are transactions: by the library's contracts. -/
namespace Go.Proofs.Ytjofgbbofagoiaa
open Go.Shelf Go.RowKit Go.Sort Go.Maps

def Try.keysA_ren : Go.Shelf.Ren := ⟨fun | 7 => 106 | 10 => 119 | n => n, fun | 23 => 76 | 26 => 3 | 3 => 23 | 28 => 126 | 0 => 0 | 27 => 125 | 33 => 71 | 4 => 4 | n => n, fun | n => n⟩
theorem Try.keysA : Go.Proofs.SlLaysZI.n7 Try.prog Try.keysA_ren := {
  mixed := by kernel_rfl
  f7 := ⟨Try.f106.name, by decide, Try.func106.trans (congrArg some (by kernel_rfl))⟩
  f10 := ⟨Try.f119.name, by decide, Try.func119.trans (congrArg some (by kernel_rfl))⟩
  t0 := Try.underlying0
  a0 := Try.isAgg0
  z0 := Try.sizeOf0
  v0 := Try.zeroValue0
  t4 := Try.underlying4
  a4 := Try.isAgg4
  z4 := Try.sizeOf4
  v4 := Try.zeroValue4
  t23 := Try.underlying76
  a23 := Try.isAgg76
  z23 := Try.sizeOf76
  v23 := Try.zeroValue76
  t26 := Try.underlying3
  a26 := Try.isAgg3
  z26 := Try.sizeOf3
  v26 := Try.zeroValue3
  t27 := Try.underlying125
  a27 := Try.isAgg125
  z27 := Try.sizeOf125
  v27 := Try.zeroValue125
  t28 := Try.underlying126
  a28 := Try.isAgg126
  z28 := Try.sizeOf126
  v28 := Try.zeroValue126
  t33 := Try.underlying71
  a33 := Try.isAgg71
  z33 := Try.sizeOf71
  v33 := Try.zeroValue71 }
def Try.sortedA_ren : Go.Shelf.Ren := ⟨fun | 6 => 105 | 8 => 118 | 9 => 84 | 11 => 135 | 13 => 111 | 12 => 110 | 23 => 130 | 24 => 131 | 14 => 121 | 15 => 122 | 16 => 123 | 17 => 124 | 18 => 125 | 19 => 126 | 20 => 127 | 21 => 128 | 22 => 129 | 25 => 136 | 26 => 137 | 27 => 138 | 28 => 139 | 29 => 140 | 30 => 141 | 31 => 143 | n => n, fun | 26 => 3 | 28 => 126 | 24 => 27 | 0 => 0 | 3 => 3 | 37 => 132 | 48 => 146 | 50 => 148 | 4 => 4 | 40 => 139 | 39 => 138 | 45 => 80 | 5 => 5 | 9 => 9 | 51 => 151 | 55 => 155 | 57 => 157 | 58 => 158 | 33 => 71 | n => n, fun | n => n⟩
theorem Try.sortedA : Go.Proofs.SlLaysZI.n6 Try.prog Try.sortedA_ren := {
  mixed := by kernel_rfl
  f6 := ⟨Try.f105.name, by decide, Try.func105.trans (congrArg some (by kernel_rfl))⟩
  f8 := ⟨Try.f118.name, by decide, Try.func118.trans (congrArg some (by kernel_rfl))⟩
  f11 := ⟨Try.f135.name, by decide, Try.func135.trans (congrArg some (by kernel_rfl))⟩
  t0 := Try.underlying0
  a0 := Try.isAgg0
  z0 := Try.sizeOf0
  v0 := Try.zeroValue0
  t24 := Try.underlying27
  a24 := Try.isAgg27
  z24 := Try.sizeOf27
  v24 := Try.zeroValue27
  t26 := Try.underlying3
  a26 := Try.isAgg3
  z26 := Try.sizeOf3
  v26 := Try.zeroValue3
  t28 := Try.underlying126
  a28 := Try.isAgg126
  z28 := Try.sizeOf126
  v28 := Try.zeroValue126
  i26 := by kernel_rfl }
/-- slices.Sort's two contracts at this dump. -/
theorem Try.sortsA (m : Nat) : AnyZI.SortsIn Try.prog Try.sortedA_ren Fence.wide m :=
  ⟨fun blk off cap ss W hH hblk hsz => callsIn_wide.2 (Any.slices_Sort_int Try.lays189 blk off cap ss W hH hblk hsz),
   fun p cap W => callsIn_wide.2 (Any.slices_Sort_int_none Try.lays189 p cap W)⟩
theorem keysOf_any (mb : Option Nat) (W : World) : Calls Try.prog 106 #[.map mb] W fun e w' => e = .returned (.func (.func 119) #[] #[.pointer (some ⟨W.heap.size, 0, none⟩)]) ∧ w' = W.alloc (.cells #[.map mb] 76) :=
  (callsIn_wide (n := 5)).1 (AnyZI.keys_in Try.keysA Fence.wide 5 trivial rfl mb W)
theorem intKeys_ars (l : List (Int × Value)) : intKeys (arsD l) = l.map (·.1) := by
  unfold arsD intKeys
  simp only
  rw [List.map_map]
  rfl
theorem size_ars (l : List (Int × Value)) : Maps.size (arsD l) = l.length := by
  unfold arsD Maps.size
  simp
set_option maxHeartbeats 1000000 in
theorem sortedKeys_any (b nn : Nat) (l : List (Int × Value)) (w : World) (hown : w.ownsMap Try.prog 3 RH b nn (arsD l)) (hl : l.length ≤ 100) (hp : (l.map (·.1)).Pairwise (· < ·)) :
    Calls Try.prog 105 #[.func (.func 119) #[] #[.pointer (some ⟨w.heap.size, 0, none⟩)]] (w.alloc (.cells #[.map (some b)] 76)) fun e w' => ∃ v, e = .returned v ∧
      w'.ownsRow (w.heap.size + 1) 3 1 v l.length (ints (l.map (·.1))) ∧ Below (w.heap.size + 1) (w.alloc (.cells #[.map (some b)] 76)) w' := by
  have hbl := hown.lt
  have hsz := size_ars l
  have hseq : SeqGives Fence.wide 2 Try.prog 119 #[.pointer (some ⟨w.heap.size, 0, none⟩)] encZ (fun ss => ss.Perm (intKeys (arsD l))) (Maps.size (arsD l)) (w.alloc (.cells #[.map (some b)] 76)) :=
    AnyZI.keys_gives (ρ := Try.keysA_ren) { Try.keysA with } Fence.wide _ trivial rfl (by omega) w.heap.size b nn (arsD l) _ (by simp) (by simp) (by
      obtain ⟨es, clock, hb, Ft, hs, hD⟩ := hown
      exact ⟨es, clock, (Below.heap_alloc _ _ b hbl).trans hb, Ft, hs, hD⟩)
  have cS := AnyZI.sorted_in Try.sortedA Fence.wide 5 trivial trivial trivial trivial rfl (by omega) (Try.sortsA _) (enters_of Try.func84 (by kernel_rfl) rfl) 119 #[.pointer (some ⟨w.heap.size, 0, none⟩)] trivial (enters_of Try.func119 (by kernel_rfl) rfl) _ _ (by rw [hsz]; simp only [maxLen]; omega) (by rw [hsz]; omega) _ hseq
  change CallsIn _ _ Try.prog 105 _ _ _ at cS
  refine ((callsIn_wide (n := 5)).1 cS).mono ?_
  rintro e w' ⟨v, ss, rfl, hS, hrow, -, hb⟩
  rw [intKeys_ars] at hS
  have hm : ss.mergeSort (fun x y => decide (x ≤ y)) = l.map (·.1) := by
    refine List.Perm.eq_of_pairwise (le := fun x y : Int => x ≤ y) (fun x y _ _ h1 h2 => by omega) ?_ ?_ ((List.mergeSort_perm _ _).trans hS)
    · have := List.pairwise_mergeSort (le := fun x y : Int => decide (x ≤ y)) (fun a b c h1 h2 => by simp at h1 h2 ⊢; omega) (fun a b => by simp; omega) ss
      exact this.imp fun h => by simpa using h
    · exact hp.imp fun h => by omega
  have hlen : ss.length = l.length := by rw [hS.length_eq, List.length_map]
  rw [hm, hlen] at hrow
  refine ⟨v, rfl, ?_, by simpa using hb⟩
  have : (w.alloc (.cells #[.map (some b)] 76)).heap.size = w.heap.size + 1 := by simp
  rw [this] at hrow
  exact hrow
end Go.Proofs.Ytjofgbbofagoiaa
/- Walk: quarantineOf: the quarantine of a store and a map of areas. -/
namespace Go.Proofs.Ytjofgbbofagoiaa
open Go.RowKit Go.Sort Go.Maps

theorem find_ars {p : Int × Value} : ∀ {l : List (Int × Value)} {k : Nat}, (l.map (·.1)).Pairwise (· < ·) → l[k]? = some p → l.find? (fun q => decide (q.1 = p.1)) = some p
  | [], _, _, h => by simp at h
  | q :: l, 0, _, h => by
    have : q = p := by simpa using h
    subst this
    simp
  | q :: l, k + 1, hp, h => by
    rw [List.map_cons, List.pairwise_cons] at hp
    have hx : l[k]? = some p := by simpa using h
    have hlt := hp.1 p.1 (List.mem_map_of_mem (List.mem_of_getElem? hx))
    rw [List.find?_cons, decide_eq_false (by omega)]
    exact find_ars hp.2 hx
theorem look_ars {w : World} {gm nn k : Nat} {l : List (Int × Value)} {p : Int × Value} (hM : w.ownsMap Try.prog 3 RH gm nn (arsD l)) (hp : (l.map (·.1)).Pairwise (· < ·)) (hx : l[k]? = some p) (ht : 0 ≤ p.1 ∧ p.1 ≤ 11) :
    (Instr.lookup 76 (.map (some gm)) (.int .i64 p.1) false).run Try.prog w = .ok p.2 w := by
  obtain ⟨v, ps, hrun, hv⟩ := hM.lookup intK Try.underlying76 (z := .slice none 0 0) (zd := .held (.slice none 0 0)) (zp := []) (by kernel_rfl) rfl (int_key ht)
  rw [at_ars, find_ars hp hx] at hv
  have : v = p.2 ∧ ps = [] := by
    unfold RH at hv
    simpa using hv
  rw [← this.1]
  exact hrun
/-- where quarantineOf stands: the result's box, the quarantine's, its areas, the map, the keys -/
def QoSt (w : World) (A : Option Addr) (n c gm nn : Nat) (l : List (Int × Value)) (K C : Option Addr) (k d : Nat) (wr : World) : Prop :=
  Blk wr w.heap.size 26 [.slice none 0 0, .slice none 0 0] ∧ Blk wr (w.heap.size + 1) 26 [.slice A n c, .slice C k d] ∧
  wr.ownsRow (w.heap.size + 2) 70 2 (.slice C k d) k ((l.take k).map arC).flatten ∧ wr.ownsMap Try.prog 3 RH gm nn (arsD l) ∧ LinkIn wr (w.heap.size + 3) K l.length (l.map (·.1)) ∧ Below w.heap.size w wr
section
variable {w wr w9 : World} {A K C C9 : Option Addr} {n c gm nn k d d9 : Nat} {l : List (Int × Value)} {p : Int × Value}
theorem QoSt.next {wx : World} (h : QoSt w A n c gm nn l K C k d wr) (hb : Below wr.heap.size wr wx) : QoSt w A n c gm nn l K C k d wx := by
  obtain ⟨h1, h2, h3, h4, h5, h6⟩ := h
  exact ⟨h1.next hb, h2.next hb, own_below h3 hb, h4.kept (row := none) ⟨hb.os, hb.tape, hb.output, hb.size, fun i hi _ => hb.block i hi⟩ (by simp), h5.next hb, below_ext h6 hb⟩
theorem QoSt.add (hgm : gm < w.heap.size) (h : QoSt w A n c gm nn l K C k d wr) (hx : l[k]? = some p) (hg9 : wr.grownBy w9 (Value.slice C k d).ownBlock) (hb9 : Below (w.heap.size + 2) wr w9)
    (hown9 : w9.ownsRow (w.heap.size + 2) 70 2 (.slice C9 (k + 1) d9) (k + 1) (((l.take k).map arC).flatten ++ [.int .i64 p.1, p.2])) :
    QoSt w A n c gm nn l K C9 (k + 1) d9 (w9.setCell ⟨w.heap.size + 1, 1, none⟩ (.slice C9 (k + 1) d9)) := by
  obtain ⟨h1, h2, h3, h4, h5, h6⟩ := h
  have hB := h2.grown hg9 (fun e => own_ne_blk h3 h2 (by decide) e.symm)
  have hR := h1.grown hg9 (fun e => own_ne_blk h3 h1 (by decide) e.symm)
  have hC : ∀ g, (Value.slice C k d).ownBlock = some g → w.heap.size + 2 ≤ g ∧ ∃ cs, Blk wr g 70 cs := fun g e => by
    rcases h3.2 with ⟨h0, _⟩ | ⟨g1, cap, cur, hv, hb, hh, _⟩
    · rw [h0] at e; cases e
    · rw [hv] at e
      have : g1 = g := by simpa [Value.ownBlock] using e
      subst this
      exact ⟨hb, cur.toList, by unfold Blk; simpa using hh⟩
  have hM := h4.kept hg9 (fun e => by have := (hC gm e.symm).1; omega)
  have hK := h5.grown hg9 (fun g e => Or.inr (by
    obtain ⟨_, cs, hb⟩ := hC g e
    exact ⟨_, _, _, hb, by decide⟩))
  have hT : ((l.take (k + 1)).map arC).flatten = ((l.take k).map arC).flatten ++ [.int .i64 p.1, p.2] := by
    obtain ⟨q1, q2⟩ := List.getElem?_eq_some_iff.1 hx
    rw [List.take_succ_eq_append_getElem q1, List.map_append, List.flatten_append, q2]
    rfl
  have hgs := grownSetQ w9 (w.heap.size + 1) 1 (.slice C9 (k + 1) d9)
  refine ⟨hR.far (p := ⟨w.heap.size + 1, 1, none⟩) (by dsimp only; omega) _, ?_, ?_, hM.setCell (a := ⟨w.heap.size + 1, 1, none⟩) (by dsimp only; omega) _, hK.grown hgs (fun g e => Or.inl (by injection e with e; omega)), below_store (h6.trans (hb9.mono (by omega))) (Nat.le_succ _) _⟩
  · have := hB.set_ 1 (.slice C9 (k + 1) d9)
    simpa only [List.set_cons_zero, List.set_cons_succ] using this
  · rw [hT]
    exact own_grown hown9 hgs (by omega)
end
set_option maxRecDepth 100000 in
set_option maxHeartbeats 3200000 in
theorem quarantineOf_any (A : Option Addr) (n c gm nn : Nat) (l : List (Int × Value)) (w : World) (hown : w.ownsMap Try.prog 3 RH gm nn (arsD l)) (hl : l.length ≤ 100) (hp : (l.map (·.1)).Pairwise (· < ·)) (ht : ∀ p ∈ l, 0 ≤ p.1 ∧ p.1 ≤ 11) (hv : ∀ p ∈ l, ∃ A n c, p.2 = .slice A n c) :
    Calls Try.prog 67 #[.slice A n c, .map (some gm)] w fun e w' => ∃ C d, e = .returned (.agg #[.slice A n c, .slice C l.length d]) ∧
      w'.ownsRow w.heap.size 70 2 (.slice C l.length d) l.length (l.map arC).flatten ∧ Below w.heap.size w w' := by
  have hgm := hown.lt
  have b0 := below_box2 w (.cells #[.slice none 0 0, .slice none 0 0] 26) (.cells #[.slice A n c, .slice none 0 0] 26)
  have x0 := (Blk.new w 26 [.slice none 0 0, .slice none 0 0]).alloc (.cells #[.slice A n c, .slice none 0 0] 26)
  have x1 := Blk.new (w.alloc (.cells #[.slice none 0 0, .slice none 0 0] 26)) 26 [.slice A n c, .slice none 0 0]
  have hM1 := (hown.alloc (.cells #[.slice none 0 0, .slice none 0 0] 26)).alloc (.cells #[.slice A n c, .slice none 0 0] 26)
  have hz1 : ((w.alloc (.cells #[.slice none 0 0, .slice none 0 0] 26)).alloc (.cells #[.slice A n c, .slice none 0 0] 26)).heap.size = w.heap.size + 2 := by simp
  have hz0 : (w.alloc (.cells #[.slice none 0 0, .slice none 0 0] 26)).heap.size = w.heap.size + 1 := by simp
  rw [hz0] at x1
  go_enter Try.func67, Try.ntmps67
  go_wp2_with fail
  refine (keysOf_any (some gm) _).mono ?_
  rintro e w2 ⟨rfl, rfl⟩
  go_wp2_with fail
  have cS := sortedKeys_any gm nn l _ hM1 hl hp
  rw [hz1] at cS
  refine cS.mono ?_
  rintro e w3 ⟨v, rfl, hrow, hb3⟩
  obtain ⟨K, kc, rfl, hkc⟩ := own_form hrow
  have hz2 : (((w.alloc (.cells #[.slice none 0 0, .slice none 0 0] 26)).alloc (.cells #[.slice A n c, .slice none 0 0] 26)).alloc (.cells #[.map (some gm)] 76)).heap.size = w.heap.size + 2 + 1 := by simp
  rw [← hz2] at hb3
  have hS : QoSt w A n c gm nn l K none 0 0 w3 := ⟨(x0.alloc _).next hb3, (x1.alloc _).next hb3, ⟨by simp, .inl ⟨rfl, rfl⟩⟩, (hM1.alloc _).kept (row := none) ⟨hb3.os, hb3.tape, hb3.output, hb3.size, fun i hi _ => hb3.block i hi⟩ (by simp), LinkIn.of_own hrow, below_ext (b0.alloc b0.size _) hb3⟩
  clear hb3 hrow hM1 x0 x1 b0 hz0 hz1 hz2 cS hown
  have HP := Lib.hid hp
  clear hp
  go_wp2_with fail
  go_loopw [14] (fun i wr => ∃ k C d, k ≤ l.length ∧ i = .int .i64 (k : Int) ∧ QoSt w A n c gm nn l K C k d wr) (fun i _ => l.length - (intOf i).toNat)
  case atStart => exact ⟨0, none, 0, Nat.zero_le _, rfl, hS⟩
  case round =>
    obtain ⟨k, C, d, hk, rfl, hSk⟩ := hrel
    by_cases hlt : k < l.length
    · obtain ⟨p, hx⟩ : ∃ p, l[k]? = some p := ⟨_, List.getElem?_eq_getElem hlt⟩
      have HX := Lib.hid hx
      have hm := List.mem_of_getElem? hx
      have htp := ht p hm
      obtain ⟨PA, pn, pc, hpv⟩ := hv p hm
      obtain ⟨h1, h2, h3, h4, h5, h6⟩ := id hSk
      have hlook := look_ars h4 HP.out hx htp
      have hki : (k : Int) < (l.length : Int) := by omega
      obtain ⟨ad, e, hlt2, hc⟩ := h5.1.2 (by omega)
      obtain ⟨-, e2, -⟩ := h5.2 ad e
      subst e
      have hc0 := hc k p.1 (by rw [List.getElem?_map, hx]; rfl)
      obtain ⟨q0, q1⟩ := h2.cells2
      have fz1 := h2.frozen 1
      rw [e2] at hc0 hlt2
      generalize ad.block = gk at *
      subst e2
      rw [add_flat, Nat.zero_add] at hc0
      have HK9 := Lib.hid hk
      clear hc h1 h2 h5 h6 hx hm
      have E1 : Below wr.heap.size wr (wr.alloc (.cells #[.int .i64 p.1, .slice PA pn pc] 70)) := below_box wr _
      have E2 := Blk.new wr 70 [.int .i64 p.1, .slice PA pn pc]
      have hSa := hSk.next E1
      have E3 := hSa.2.2.1
      have E4 := (hSk.2.2.2.2.2).size
      have E5 := (hSk.2.1).lt
      have E6 : ∀ (j : Nat) (u : Value), [Value.int .i64 p.1, .slice PA pn pc][j]? = some u → (wr.alloc (.cells #[.int .i64 p.1, .slice PA pn pc] 70)).cell? ((⟨wr.heap.size, 0, none⟩ : Addr).add j) = some u := fun j u hu => by
        have := E2.cell j
        rw [hu] at this
        rw [add_flat, Nat.zero_add]
        exact this
      have E7 : ∀ u ∈ [Value.int .i64 p.1, .slice PA pn pc], u.oneCell' = true := fun u hu => by
        simp only [List.mem_cons, List.not_mem_nil, or_false] at hu
        rcases hu with rfl | rfl <;> rfl
      have E8 : w.heap.size + 2 ≤ (wr.alloc (.cells #[.int .i64 p.1, .slice PA pn pc] 70)).heap.size := by simp only [World.alloc, Array.size_push]; omega
      go_wp2_with (at_builtin; go_loud (refine wpList_app rfl (.tmp 19) (.tmp 25) 24 rfl (w.heap.size + 2) 70 Try.underlying24 ar_info1 rfl (by omega) (by omega) _ k _ rfl E3 _ 1 1 _ rfl rfl E6 E7 (by omega) E8 ?_; intro A9 c9 w9 hown9 hc9 hb9 hg9 _; have E9 := hSa.2.1.grown hg9 (fun e => own_ne_blk hSa.2.2.1 hSa.2.1 (by decide) e.symm); obtain ⟨s0, s1⟩ := E9.cells2; have fz9 := E9.frozen 1))
      go_roundw
      case rel => exact ⟨k + 1, A9, c9, by omega, by go_num, hSa.add hgm HX.out hg9 hb9 (by rw [hpv]; exact hown9)⟩
      case measure => simp [intOf]; omega
    · obtain rfl : k = l.length := by omega
      obtain ⟨h1, h2, h3, -, -, h6⟩ := hSk
      obtain ⟨q0, q1⟩ := h2.cells2
      have f0 := h1.frozen 0
      have f1 := h1.frozen 1
      have hRR := (h1.set_ 0 (.slice A n c)).set_ 1 (.slice C l.length d)
      simp only [List.set_cons_zero, List.set_cons_succ] at hRR
      obtain ⟨t0, t1⟩ := hRR.cells2
      rw [List.take_of_length_le (Nat.le_refl _)] at h3
      obtain ⟨z0, z1⟩ := h1.cells2
      go_wp2_with fail
      refine bodyPost_ret (v := .agg #[.slice A n c, .slice C l.length d]) (by simp [results, Try.results67, go_sem, t0, t1]) rfl ?_
      refine ⟨C, d, rfl, ?_, (h6.setCell (p := ⟨w.heap.size, 0, none⟩) (Nat.le_refl _) _).setCell (p := ⟨w.heap.size, 1, none⟩) (Nat.le_refl _) _⟩
      exact own_base (own_grown (own_grown h3 (grownSetQ _ _ _ _) (by omega)) (grownSetQ _ _ _ _) (by omega)) (by omega)
end Go.Proofs.Ytjofgbbofagoiaa
/- Walk: areas(): the areas of a quarantine by transaction. -/
namespace Go.Proofs.Ytjofgbbofagoiaa
open Go.RowKit Go.Sort Go.Maps

theorem grown_noneQ {a b : World} (h : Below a.heap.size a b) : a.grownBy b none := ⟨h.os, h.tape, h.output, h.size, fun i hi _ => h.block i hi⟩
theorem grownBelowQ {a b c : World} {B g : Nat} (h : Below B a b) (hg : b.grownBy c (some g)) (hB : B ≤ g) (hs : B ≤ a.heap.size := by exact Nat.le_refl _) : Below B a c :=
  ⟨hg.os.trans h.os, hg.tape.trans h.tape, hg.output.trans h.output, Nat.le_trans h.size hg.size, fun i hi => (hg.block i (Nat.lt_of_lt_of_le (Nat.lt_of_lt_of_le hi hs) h.size) (fun e => by injection e with e; omega)).trans (h.block i hi)⟩
set_option maxRecDepth 100000 in
set_option maxHeartbeats 3200000 in
theorem areas_any (cs : List Value) (q : Qu) (w : World) (hv : repQu.V 0 w cs q) (hq : quarB q = true) :
    Calls Try.prog 47 #[.agg cs.toArray] w fun e w' => ∃ gm l, e = .returned (.map (some gm)) ∧ w.heap.size ≤ gm ∧ w'.ownsMap Try.prog 3 RH gm 4 (arsD l) ∧ AV w' gm (gm + 1) (Iv (gm + 1) w'.heap.size) l q.ars ∧ Below w.heap.size w w' := by
  obtain ⟨B0, m0, d0, B1, m1, d1, rfl, hr0, hm0, hr1, hm1⟩ := repQu_cells hv
  obtain ⟨hq1, hq2, hq3⟩ := quarB_parts hq
  have HL := Lib.hid hr1.1
  have hm14 : m1 ≤ 4 := by have := hr1.1; omega
  have b0 := below_box2 w (.cells #[.slice B0 m0 d0, .slice B1 m1 d1] 26) (.map #[] 0)
  have x0 := (Blk.new w 26 [.slice B0 m0 d0, .slice B1 m1 d1]).alloc (.map #[] 0)
  have hM0 : ((w.alloc (.cells #[.slice B0 m0 d0, .slice B1 m1 d1] 26)).alloc (.map #[] 0)).ownsMap Try.prog 3 RH (w.heap.size + 1) 0 (.map []) := by simpa using World.ownsMap_made (w.alloc (.cells #[.slice B0 m0 d0, .slice B1 m1 d1] 26)) Try.prog 3 RH
  obtain ⟨y0, y1⟩ := x0.cells2
  clear hr0
  have hmk : ∀ w : World, (Instr.makeMap 76 none).run Try.prog w = .ok (.map (some w.heap.size)) (w.alloc (.map #[] 0)) := fun _ => rfl
  go_enter Try.func47, Try.ntmps47
  go_wp2_with fail
  go_loopw [10] (fun i wr => ∃ (k : Nat) (l : List (Int × Value)), k ≤ m1 ∧ i = .int .i64 k ∧ wr.ownsMap Try.prog 3 RH (w.heap.size + 1) k (arsD l) ∧ AV wr (w.heap.size + 1) (w.heap.size + 2) (Iv (w.heap.size + 2) wr.heap.size) l (q.ars.take k) ∧ Below w.heap.size w wr) (fun i _ => m1 - (intOf i).toNat)
  case atStart => exact ⟨0, [], Nat.zero_le _, rfl, hM0, trivial, b0⟩
  case round =>
    obtain ⟨k, l, hk, rfl, hM, hA, hbr⟩ := hrel
    by_cases hlt : k < m1
    · obtain ⟨b, off, x, c1, rfl, hb, hx, hc, hvx⟩ := (hr1.next hbr).at_ hlt
      obtain ⟨L, ml, dl, rfl, hl, hml⟩ := repAr_cells hvx
      have a0 : wr.cell? ⟨b, off + k * 2, none⟩ = some (.int .i64 x.t) := hc 0 _ rfl
      have a1 : wr.cell? ⟨b, off + k * 2 + 1, none⟩ = some (.slice L ml dl) := hc 1 _ rfl
      obtain ⟨ht, hs, -⟩ := hq2 x (List.mem_of_getElem? hx)
      have hml16 : ml ≤ 16 := by have := stB_len hs; have := hl.1; omega
      have hxs := ok_small (stB_ok hs)
      have HP := Lib.hid (put_last (v := .slice none 0 0) (keys_lt hq hA hx))
      have HPL := Lib.hid (keys_lt hq hA hx)
      have HT := Lib.hid (show q.ars.take (k + 1) = q.ars.take k ++ [x] by
        obtain ⟨h1, h2⟩ := List.getElem?_eq_some_iff.1 hx
        rw [List.take_succ_eq_append_getElem h1, h2])
      have hkey := int_key (txn_range ht)
      have hki : (k : Int) < (m1 : Int) := by omega
      clear hc hvx hx
      have ea := below_box wr (.cells #[.int .i64 x.t, .slice L ml dl] 70)
      have xa := Blk.new wr 70 [.int .i64 x.t, .slice L ml dl]
      have hMa := hM.alloc (.cells #[.int .i64 x.t, .slice L ml dl] 70)
      have bba := below_ext hbr ea
      have hla := hl.next ea
      have hgm : w.heap.size + 1 < wr.heap.size := hM.lt
      go_wp2_with fail
      have HWR : wr.heap.size ≤ (wr.alloc (.cells #[.int .i64 x.t, .slice L ml dl] 70)).heap.size := ea.size
      have HEA := ea.block
      generalize wr.alloc (.cells #[.int .i64 x.t, .slice L ml dl] 70) = wa at *
      generalize wr.heap.size = ga at *
      obtain ⟨s0, s1⟩ := xa.cells2
      have hbd : Below wa.heap.size wa wa.drew := (Below.refl _ _).drew
      go_region_held3 (fun w' => w'.cell? ⟨ga, 0, none⟩ = some (.int .i64 x.t) ∧ w'.cell? ⟨ga, 1, none⟩ = some (.slice L ml dl))
        (first
          | exact ⟨s0, s1⟩
          | exact ⟨s20, s21⟩
          | exact ⟨s30, s31⟩)
        (first
          | (go_simp; go_at_call 54; refine (copyObjectsS_any L ml dl x.os _ (hla.next hbd).robjs (by omega) hxs).mono ?_
             rintro e w2 ⟨v2, rfl, hO2, hb2⟩
             obtain ⟨A2, c2, rfl, hAc2⟩ := hO2.own.form
             have bz2 := below_ext hbd hb2
             have hM2 := hMa.kept (row := none) (grown_noneQ bz2) (by simp)
             obtain ⟨w3, hrun, hM3, hg3⟩ := hM2.update intK Try.underlying76 (by simp only [maxLen]; omega) hkey (show RH (.slice A2 ml c2) = some (.held (.slice A2 ml c2), []) from rfl)
             obtain ⟨s20, s21⟩ := (xa.next bz2).cells2
             have xa3 := (xa.next bz2).grown hg3 (fun e => by injection e with e; omega)
             obtain ⟨s30, s31⟩ := xa3.cells2))
      have hsz : w.heap.size + 2 ≤ wa.heap.size := by have := xa.lt; omega
      have hdz : wa.drew.heap.size = wa.heap.size := rfl
      have hss := (hO2.ssl (Nat.le_refl _)).kept (w' := w3) (fun b hb => hg3.block b hb.2 (fun e => by injection e with e; have := hb.1; omega))
      have hA3 : AV w3 (w.heap.size + 1) (w.heap.size + 2) (Iv (w.heap.size + 2) w3.heap.size) (l ++ [(x.t, .slice A2 ml c2)]) (q.ars.take (k + 1)) := by
        unfold AV
        rw [HT.out, List.map_append]
        have hk3 := (Parts.kept hA fun b hb hne => (hg3.block b (Nat.lt_of_lt_of_le (Nat.lt_of_lt_of_le hb.2 HWR) bz2.size) (fun e => hne (by injection e))).trans ((bz2.block b (Nat.lt_of_lt_of_le hb.2 HWR)).trans (HEA b hb.2)))
        refine hk3.snoc (N := Iv wa.heap.size w2.heap.size) ?_ ?_ ?_ ?_ (sepAr.down (sepAr_mk (x := x) hss) hsz)
        · intro b hb
          exact ⟨hb.1, Nat.lt_of_lt_of_le hb.2 (Nat.le_trans HWR (Nat.le_trans bz2.size hg3.size))⟩
        · intro b hb
          exact ⟨Nat.le_trans hsz hb.1, Nat.lt_of_lt_of_le hb.2 hg3.size⟩
        · intro b hb hb2
          exact absurd (Nat.lt_of_lt_of_le hb2.2 HWR) (by have := hb.1; omega)
        · intro hb
          have := hb.1
          omega
      have hP2 := put_last (v := .slice A2 ml c2) HPL.out
      rw [hP2] at hM3
      have bb3 : Below w.heap.size w w3 := grownBelowQ (below_ext bba bz2) hg3 (Nat.le_succ _)
      go_wp2_with fail
      go_roundw
      case rel => exact ⟨k + 1, _, by omega, by go_num, hM3, hA3, bb3⟩
      case measure => simp [intOf]; omega
    · obtain rfl : k = m1 := by omega
      rw [List.take_of_length_le (by rw [HL.out]; exact Nat.le_refl _)] at hA
      go_wp2_with fail
      go_ret
      exact ⟨_, l, rfl, Nat.le_succ _, hM.mono hm14, hA, hbr⟩
end Go.Proofs.Ytjofgbbofagoiaa
/- Walk: the program's QuarantineDiscard: its result lies in memory of its own, in blocks apart. -/
namespace Go.Proofs.Ytjofgbbofagoiaa
open Go.RowKit Go.Sort Go.Maps

def dropT (ars : List Ar) (t : Int) : List Ar := ars.filter fun a => !decide (a.t = t)
theorem setA_drop (t : Int) : ∀ ars : List Ar, setA t [] true ars = dropT ars t
  | [] => rfl
  | a :: l => by
    unfold setA dropT
    rw [List.filter_cons]
    have ih := setA_drop t l
    unfold dropT at ih
    by_cases h : a.t = t
    · simp [h, ih]
    · simp [h, ih]
theorem findA_any (ars : List Ar) (t : Int) : ars.any (fun a => decide (a.t = t)) = (findA ars t).isSome := by
  unfold findA
  induction ars with
  | nil => rfl
  | cons a l ih =>
    rw [List.any_cons, List.findIdx?_cons, ih]
    by_cases h : a.t = t
    · simp [h]
    · simp [h]
theorem dropT_none {ars : List Ar} {t : Int} (h : (findA ars t).isSome = false) : dropT ars t = ars := by
  rw [← findA_any] at h
  unfold dropT
  rw [List.filter_eq_self]
  intro a ha
  have := List.any_eq_false.1 h a ha
  simpa using this
theorem qdisc_eq {q : Qu} {t : Int} (hq : quarB q = true) (ht : txnB t = true) : qdiscQ q t = (⟨q.main, dropT q.ars t⟩, (findA q.ars t).isSome) := by
  unfold qdiscQ
  rw [hq, ht]
  simp only [Bool.and_self, if_true]
  cases h : findA q.ars t with
  | none => simp [dropT_none (ars := q.ars) (t := t) (by rw [h]; rfl)]
  | some k =>
    simp only [Option.isNone_some, Bool.false_eq_true, if_false, Option.isSome_some]
    unfold setQ
    rw [show ((([] : List Ob).length : Int) == 0) = true from rfl, setA_drop]
/-- a quarantine and a Bool; the quarantine in memory of its own, in blocks apart -/
def QSep (w : World) (r : Qu × Bool) (e : Ending) (w' : World) : Prop := ∃ cs, e = .returned (.tuple #[.agg cs.toArray, .bool r.2]) ∧ sepQu.V w.heap.size (Iv w.heap.size w'.heap.size) w' cs r.1 ∧ Below w.heap.size w w'
theorem AV.any {w : World} {g lo : Nat} {S : Nat → Prop} {l : List (Int × Value)} {ars : List Ar} (h : AV w g lo S l ars) (t : Int) : l.any (fun p => decide (p.1 = t)) = ars.any (fun a => decide (a.t = t)) := by
  have e := congrArg (fun xs => xs.any fun x => decide (x = t)) (parts_keys h)
  simpa [List.any_map, Function.comp_def] using e
theorem AV.slices {w : World} {g lo : Nat} : ∀ {l : List (Int × Value)} {ars : List Ar} {S : Nat → Prop}, AV w g lo S l ars → ∀ p ∈ l, ∃ A n c, p.2 = .slice A n c
  | [], [], _, _, _, hp => by cases hp
  | p :: l, x :: ars, S, ⟨S1, S2, _, _, _, _, h4, h5⟩, q, hq => by
    rcases List.mem_cons.1 hq with rfl | hq
    · obtain ⟨A, n, c, e, _⟩ := sepAr_cells h4
      unfold arC at e
      simp only [List.cons.injEq, and_true] at e
      exact ⟨A, n, c, e.2⟩
    · exact AV.slices (l := l) h5 q hq
  | [], _ :: _, _, h, _, _ => h.elim
  | _ :: _, [], _, h, _, _ => h.elim
theorem AV.row {w : World} {gm lo lo0 B d : Nat} {S : Nat → Prop} {C : Option Addr} {l : List (Int × Value)} {ars : List Ar} (h : AV w gm lo S l ars) (hrow : w.ownsRow B 70 2 (.slice C l.length d) l.length (l.map arC).flatten) (hS : ∀ b, S b → b < B) (h1 : lo0 ≤ lo) (h2 : lo0 ≤ B) :
    SSl 70 sepAr lo0 (fun b => S b ∨ Iv B w.heap.size b) w C l.length d ars := by
  refine ⟨h.len.symm, ?_⟩
  rcases hrow.2 with ⟨h0, h3⟩ | ⟨g, cap, cur, hv, hb, hh, _⟩
  · injection h0 with e1 e2 e3
    exact Or.inl ⟨e1, e2, e3⟩
  · injection hv with e1
    have hg : g < w.heap.size := (Array.getElem?_eq_some_iff.1 hh).1
    exact Or.inr ⟨g, l.map arC, e1, Or.inr ⟨hb, hg⟩, own_base hrow h2, ((Parts.swap h (fun hs => by have := hS g hs; omega)).down h1).widen fun b hb => Or.inl hb⟩
theorem quar_pairs {q : Qu} (h : quarB q = true) : (q.ars.map (·.t)).Pairwise (· < ·) := by
  unfold quarB at h
  simp only [Bool.and_eq_true, decide_eq_true_eq] at h
  exact List.pairwise_map.2 ((ascB_iff _).1 h.1).2
set_option maxRecDepth 100000 in
set_option maxHeartbeats 3200000 in
theorem implQuarantineDiscard_any (cs : List Value) (q : Qu) (t : Int) (w : World) (hv : repQu.V 0 w cs q) :
    Calls Try.prog 33 #[.agg cs.toArray, .int .i64 t] w (QSep w (qdiscQ q t)) := by
  obtain ⟨B0, m0, d0, B1, m1, d1, rfl, hr0, hm0, hr1, hm1⟩ := repQu_cells hv
  have b1 := below_box2 w (.cells #[.slice B0 m0 d0, .slice B1 m1 d1] 26) (.cells #[.slice none 0 0, .slice none 0 0] 26)
  have x0 : Blk ((w.alloc (.cells #[.slice B0 m0 d0, .slice B1 m1 d1] 26)).alloc (.cells #[.slice none 0 0, .slice none 0 0] 26)) w.heap.size 26 [.slice B0 m0 d0, .slice B1 m1 d1] := (Blk.new w _ _).alloc _
  have x1 : Blk ((w.alloc (.cells #[.slice B0 m0 d0, .slice B1 m1 d1] 26)).alloc (.cells #[.slice none 0 0, .slice none 0 0] 26)) (w.heap.size + 1) 26 [.slice none 0 0, .slice none 0 0] := by simpa using Blk.new (w.alloc (.cells #[.slice B0 m0 d0, .slice B1 m1 d1] 26)) 26 [.slice none 0 0, .slice none 0 0]
  obtain ⟨y0, y1⟩ := x0.cells2
  clear hr1
  go_enter Try.func33, Try.ntmps33
  go_wp2_with fail
  refine (implQuarantineValid_any _ q _ (repQu.next hv b1)).mono ?_
  rintro e w1 ⟨rfl, hb1⟩
  have bb1 := below_ext b1 hb1
  have x01 := x0.next hb1
  have x11 := x1.next hb1
  have hz1 : w.heap.size + 2 ≤ w1.heap.size := by have := hb1.size; simpa using this
  obtain ⟨z0, z1⟩ := x01.cells2
  have f10 := x11.frozen 0
  have f11 := x11.frozen 1
  obtain ⟨u0, u1⟩ := x11.cells2
  clear y0 y1 x0 x1 hb1 b1
  by_cases hqt : (quarB q && txnB t) = true
  · skip
    simp only [Bool.and_eq_true] at hqt
    obtain ⟨hq, ht⟩ := hqt
    have HE := Lib.hid (qdisc_eq hq ht)
    have htn := txn_range ht
    have hkey := int_key htn
    rw [hq]
    go_wp2_with fail
    refine (isTxn_any t w1).mono ?_
    rintro e w2 ⟨rfl, rfl⟩
    rw [ht]
    go_wp2_with fail
    refine (areas_any _ q w1 (repQu.next hv bb1) hq).mono ?_
    rintro e w3 ⟨gm, l, rfl, hgm, hM3, hA3, hb3⟩
    have bb3 := below_ext bb1 hb3
    have hgm3 := hM3.lt
    obtain ⟨y0, y1⟩ := (x01.next hb3).cells2
    have x13 := x11.next hb3
    obtain ⟨v9, ps9, hlook, -⟩ := hM3.look_ok intK Try.underlying76 (z := .slice none 0 0) (zd := .held (.slice none 0 0)) (zp := []) (by kernel_rfl) rfl hkey
    rw [has_ars, hA3.any, findA_any] at hlook
    have E0 := Try.underlying76
    have n0 : some w.heap.size ≠ some gm := fun e => by injection e with e; omega
    have n1 : some (w.heap.size + 1) ≠ some gm := fun e => by injection e with e; omega
    have x03 := x01.next hb3
    go_wp2_with (at_delete; go_loud (refine wpList_delete_own _ rfl _ _ 76 3 rfl _ intK E0 _ gm _ _ rfl hM3 _ _ rfl hkey ?_; intro w4 hM4 hT4; have hg4 := hT4.grown; have x04 := x03.grown hg4 n0; obtain ⟨v0, v1⟩ := x04.cells2))
    rw [del_ars] at hM4
    have x14 := x13.grown hg4 n1
    have bb4 : Below w.heap.size w w4 := grownBelowQ bb3 hg4 (by omega)
    obtain ⟨hm, -, hq4⟩ := quarB_parts hq
    have hlm : q.main.length ≤ 16 := stB_len hm
    have hl0 := hr0.1
    refine (copyObjectsS_any B0 m0 d0 q.main w4 (hr0.next bb4).robjs (by omega) (ok_small (stB_ok hm))).mono ?_
    rintro e w5 ⟨v5, rfl, hO5, hb5⟩
    obtain ⟨A5, c5, rfl, hAc5⟩ := hO5.own.form
    have bb5 := below_ext bb4 hb5
    have x15 := x14.next hb5
    have hM5 := hM4.kept (row := none) (grown_noneQ hb5) (by simp)
    have hf := parts_filter t hA3
    have hkk := parts_keys hf
    have hfl := hf.len
    have hdl : (q.ars.filter fun a => !decide (a.t = t)).length ≤ q.ars.length := List.length_filter_le _ _
    have hpp : ((l.filter fun p => !decide (p.1 = t)).map (·.1)).Pairwise (· < ·) := by
      rw [hkk]
      exact (quar_pairs hq).sublist (List.filter_sublist.map _)
    have htt : ∀ p ∈ l.filter fun p => !decide (p.1 = t), 0 ≤ p.1 ∧ p.1 ≤ 11 := fun p hp => by
      obtain ⟨a, ha, e⟩ := hf.keys p hp
      rw [e]
      exact txn_range ((quarB_parts hq).2.1 a (List.mem_filter.1 ha).1).1
    have hll : (l.filter fun p => !decide (p.1 = t)).length ≤ 100 := by omega
    have hss := hf.slices
    have HL := Lib.hid hfl
    have HK := Lib.hid hkk
    clear hfl hkk hdl hl0 hlm hq4
    go_wp2_with fail
    refine (quarantineOf_any A5 m0 c5 gm 4 _ w5 hM5 hll hpp htt hss).mono ?_
    rintro e w6 ⟨C, d, rfl, hrow, hb6⟩
    have bb6 := below_ext bb5 hb6
    have x16 := x15.next hb6
    have g10 := x16.frozen 0
    have g11 := x16.frozen 1
    obtain ⟨u60, u61⟩ := x16.cells2
    have hRR := (x16.set_ 0 (.slice A5 m0 c5)).set_ 1 (.slice C (l.filter fun p => !decide (p.1 = t)).length d)
    simp only [List.set_cons_zero, List.set_cons_succ] at hRR
    obtain ⟨t0, t1⟩ := hRR.cells2
    have s4 := hg4.size
    have s4' : w4.heap.size = w3.heap.size := by
      obtain ⟨_, _, _, _, _, rfl⟩ := hT4
      simp [Go.ChangeMaps.setBlock]
    have s5 := hb5.size
    have s6 := hb6.size
    have hm6 := (hO5.ssl (Nat.le_refl _)).next hb6 (fun b hb => hb.2)
    have ha6 : AV w6 gm (gm + 1) (Iv (gm + 1) w3.heap.size) (l.filter fun p => !decide (p.1 = t)) (dropT q.ars t) := Parts.kept hf fun b hb hne => (hb6.block b (by have := hb.2; omega)).trans ((hb5.block b (by have := hb.2; omega)).trans (hg4.block b hb.2 (fun e => hne (by injection e))))
    have hr6 := ha6.row (lo0 := w.heap.size) hrow (fun b hb => by have := hb.2; omega) (by omega) (by omega)
    go_wp2_with fail
    refine bodyPost_ret (v := .tuple #[.agg #[.slice A5 m0 c5, .slice C (l.filter fun p => !decide (p.1 = t)).length d], .bool (findA q.ars t).isSome]) (by simp [results, Try.results33, go_sem, t0, t1]) rfl ?_
    rw [HE.out]
    have hfar : ∀ b, b ≠ w.heap.size + 1 → ((w6.setCell ⟨w.heap.size + 1, 0, none⟩ (.slice A5 m0 c5)).setCell ⟨w.heap.size + 1, 1, none⟩ (.slice C (l.filter fun p => !decide (p.1 = t)).length d)).heap[b]? = w6.heap[b]? := fun b hb => (Below.heap_setCell _ ⟨w.heap.size + 1, 1, none⟩ _ b hb).trans (Below.heap_setCell _ ⟨w.heap.size + 1, 0, none⟩ _ b hb)
    refine ⟨_, rfl, sepQu_mk (S1 := Iv w4.heap.size w5.heap.size) (S2 := fun b => Iv (gm + 1) w3.heap.size b ∨ Iv w5.heap.size w6.heap.size b) (x := ⟨q.main, dropT q.ars t⟩) ?_ ?_ ?_ ((hm6.kept fun b hb => hfar b ?_).down ?_) (hr6.kept fun b hb => hfar b ?_), (bb6.setCell (p := ⟨w.heap.size + 1, 0, none⟩) (Nat.le_succ _) _).setCell (p := ⟨w.heap.size + 1, 1, none⟩) (Nat.le_succ _) _⟩
    · intro b hb
      have h1 := hb.1
      have h2 := hb.2
      refine ⟨by omega, ?_⟩
      rw [size_setCell, size_setCell]
      omega
    · intro b hb
      unfold Iv at hb ⊢
      rw [size_setCell, size_setCell]
      omega
    · intro b hb hb2
      unfold Iv at hb hb2
      omega
    · unfold Iv at hb
      omega
    · omega
    · unfold Iv at hb
      omega
  · skip
    have HE := Lib.hid (show qdiscQ q t = (noQu, false) by unfold qdiscQ; rw [if_neg hqt])
    have hRR := (x11.set_ 0 (.slice none 0 0)).set_ 1 (.slice none 0 0)
    simp only [List.set_cons_zero, List.set_cons_succ] at hRR
    obtain ⟨t0, t1⟩ := hRR.cells2
    have hfin : QSep w (qdiscQ q t) (.returned (.tuple #[.agg #[.slice none 0 0, .slice none 0 0], .bool false])) ((w1.setCell ⟨w.heap.size + 1, 0, none⟩ (.slice none 0 0)).setCell ⟨w.heap.size + 1, 1, none⟩ (.slice none 0 0)) := by
      rw [HE.out]
      exact ⟨_, rfl, sepQu_mk (S1 := noQ) (S2 := noQ) (x := noQu) (fun _ h => h.elim) (fun _ h => h.elim) (fun _ h => h.elim) SSl.nil SSl.nil, (bb1.setCell (p := ⟨w.heap.size + 1, 0, none⟩) (Nat.le_succ _) _).setCell (p := ⟨w.heap.size + 1, 1, none⟩) (Nat.le_succ _) _⟩
    clear HE
    cases hq : quarB q
    · skip
      go_wp2_with fail
      refine bodyPost_ret (v := .tuple #[.agg #[.slice none 0 0, .slice none 0 0], .bool false]) (by simp [results, Try.results33, go_sem, t0, t1]) rfl hfin
    · have ht : txnB t = false := by
        rw [hq] at hqt
        simpa using hqt
      go_wp2_with fail
      refine (isTxn_any t w1).mono ?_
      rintro e w2 ⟨rfl, rfl⟩
      rw [ht]
      go_wp2_with fail
      refine bodyPost_ret (v := .tuple #[.agg #[.slice none 0 0, .slice none 0 0], .bool false]) (by simp [results, Try.results33, go_sem, t0, t1]) rfl hfin
end Go.Proofs.Ytjofgbbofagoiaa
/- Walk: the program's QuarantineMissing. -/
namespace Go.Proofs.Ytjofgbbofagoiaa
open Go.RowKit Go.Sort Go.Maps

theorem areaQ_findM (q : Qu) (s : Int) : areaQ q s = match q.ars.find? (fun a => decide (a.t = s)) with | some a => a.os | none => [] := by
  unfold areaQ findA
  generalize q.ars = ars
  induction ars with
  | nil => rfl
  | cons a l ih =>
    rw [List.findIdx?_cons, List.find?_cons]
    by_cases h : a.t = s
    · simp [h]
    · have hb : (a.t == s) = false := by simpa using h
      rw [hb, decide_eq_false h]
      simp only [Bool.false_eq_true, if_false]
      rw [← ih]
      cases l.findIdx? (fun a => a.t == s) <;> rfl
/-- the area of a transaction, as the map holds it -/
theorem look_area {w : World} {gm nn lo : Nat} {S : Nat → Prop} {l : List (Int × Value)} {q : Qu} {t : Int} (hM : w.ownsMap Try.prog 3 RH gm nn (arsD l)) (hA : AV w gm lo S l q.ars) (ht : 0 ≤ t ∧ t ≤ 11) :
    ∃ D n c, (Instr.lookup 76 (.map (some gm)) (.int .i64 t) false).run Try.prog w = .ok (.slice D n c) w ∧ RObjs w D n (areaQ q t) := by
  obtain ⟨v, ps, hrun, hv⟩ := hM.lookup intK Try.underlying76 (z := .slice none 0 0) (zd := .held (.slice none 0 0)) (zp := []) (by kernel_rfl) rfl (int_key ht)
  rw [at_ars] at hv
  rw [areaQ_findM]
  have hvv : v = (match l.find? (fun p => decide (p.1 = t)) with | some p => p.2 | none => .slice none 0 0) := by
    unfold RH at hv
    cases hf : l.find? (fun p => decide (p.1 = t)) with
    | none => rw [hf] at hv; simp at hv; exact hv.1
    | some p => rw [hf] at hv; simp at hv; exact hv.1
  have key : ∀ {l : List (Int × Value)} {ars : List Ar} {S : Nat → Prop}, AV w gm lo S l ars → ∃ D n c, (match l.find? (fun p => decide (p.1 = t)) with | some p => p.2 | none => Value.slice none 0 0) = .slice D n c ∧ RObjs w D n (match ars.find? (fun a => decide (a.t = t)) with | some a => a.os | none => []) := by
    intro l
    induction l with
    | nil =>
      intro ars S h
      cases ars with
      | nil => exact ⟨none, 0, 0, rfl, rfl, fun h => absurd h (by omega)⟩
      | cons _ _ => exact h.elim
    | cons p l ih =>
      intro ars S h
      cases ars with
      | nil => exact h.elim
      | cons a ars =>
        obtain ⟨S1, S2, _, _, _, _, h4, h5⟩ := h
        obtain ⟨D, n, c, e, hs⟩ := sepAr_cells h4
        unfold arC at e
        simp only [List.cons.injEq, Value.int.injEq, and_true, true_and] at e
        obtain ⟨e1, e2⟩ := e
        rw [List.find?_cons, List.find?_cons, e1]
        by_cases h : a.t = t
        · rw [decide_eq_true h]
          exact ⟨D, n, c, e2, (hs.reads.down (Nat.zero_le _)).robjs⟩
        · rw [decide_eq_false h]
          exact ih h5
  obtain ⟨D, n, c, e1, e2⟩ := key hA
  exact ⟨D, n, c, by rw [← e1, ← hvv]; exact hrun, e2⟩
/-- two lists, then none -/
def twoV (v u : Value) (j : Nat) : Value := if j = 0 then v else if j = 1 then u else .slice none 0 0
def twoL (a b : List Ob) (j : Nat) : List Ob := if j = 0 then a else if j = 1 then b else []
theorem twoL_flat (a b : List Ob) : ((List.range 2).map (twoL a b)).flatten = a ++ b := by simp [twoL, List.range_succ]
theorem twoV_all {w : World} {A D : Option Addr} {n c k f : Nat} {a b : List Ob} (h : RObjs w A n a) (hs : storeB a = true) (h' : RObjs w D k b) (hs' : storeB b = true) : ∀ j, ∃ B m d, twoV (.slice A n c) (.slice D k f) j = .slice B m d ∧ RObjs w B m (twoL a b j) ∧ storeB (twoL a b j) = true := fun j => by
  unfold twoV twoL
  by_cases e : j = 0
  · rw [if_pos e, if_pos e]; exact ⟨A, n, c, rfl, h, hs⟩
  · rw [if_neg e, if_neg e]
    by_cases e1 : j = 1
    · rw [if_pos e1, if_pos e1]; exact ⟨D, k, f, rfl, h', hs'⟩
    · rw [if_neg e1, if_neg e1]; exact ⟨none, 0, 0, rfl, robjs_nil w, storeB_nil⟩
set_option maxRecDepth 100000 in
set_option maxHeartbeats 1600000 in
theorem implQuarantineMissing_any (cs : List Value) (q : Qu) (t : Int) (F : Option Addr) (m d : Nat) (fs : List Int) (w : World) (hv : repQu.V 0 w cs q) (hf : RInts w F m fs) (hm : m ≤ maxLen) :
    Calls Try.prog 11 #[.agg cs.toArray, .int .i64 t, .slice F m d] w (QMTo w q t fs) := by
  obtain ⟨B0, m0, d0, B1, m1, d1, rfl, hr0, hm0, hr1, hm1⟩ := repQu_cells hv
  have b0 := below_box w (.cells #[.slice B0 m0 d0, .slice B1 m1 d1] 26)
  have x0 := Blk.new w 26 [.slice B0 m0 d0, .slice B1 m1 d1]
  obtain ⟨y0, y1⟩ := x0.cells2
  have HL := Lib.hid (And.intro hf.1 (And.intro hr0.1 hr1.1))
  have F0 := Lib.hid (show ∀ w', Below w.heap.size w w' → (quarB q && (txnB t && idsOkB fs)) = false → QMTo w q t fs (.returned (.slice none 0 0)) w' from fun w' hb hn =>
    ⟨none, 0, [], rfl, by unfold IsQM; rw [hn, if_neg (by simp)], ⟨by simp [ints], .inl ⟨rfl, rfl⟩⟩, hb⟩)
  go_enter Try.func11, Try.ntmps11
  go_wp2_with fail
  refine (implQuarantineValid_any _ q _ (repQu.next hv b0)).mono ?_
  rintro e w1 ⟨rfl, hb1⟩
  have bb1 := below_ext b0 hb1
  cases hq : quarB q
  · go_wp2_with fail
    go_ret
    exact F0.out _ bb1 (by rw [hq]; rfl)
  · go_wp2_with fail
    refine (isTxn_any t w1).mono ?_
    rintro e w2 ⟨rfl, rfl⟩
    cases ht : txnB t
    · go_wp2_with fail
      go_ret
      exact F0.out _ bb1 (by rw [ht]; cases quarB q <;> rfl)
    · go_wp2_with fail
      have hf1 := hf.below bb1 (Nat.le_refl _)
      refine (idsOk_any F m d fs w1 hf1 hm).mono ?_
      rintro e w3 ⟨rfl, rfl⟩
      cases hi : idsOkB fs
      · go_wp2_with fail
        go_ret
        exact F0.out _ bb1 (by rw [hi]; cases quarB q <;> cases txnB t <;> rfl)
      · have HV := Lib.hid (show (quarB q && (txnB t && idsOkB fs)) = true by rw [hq, ht, hi]; rfl)
        obtain ⟨hfn, hfr, hf4, -⟩ := idsOk_facts hi
        have hm4 : m ≤ 4 := by have := HL.out.1; omega
        have htn := txn_range ht
        have x1 := x0.next hb1
        have hv1 := repQu.next hv bb1
        have hr01 := (hr0.next bb1)
        have hst := (quarB_parts hq).1
        have hsa := areaQ_facts hq t
        have hok := allQ_ok hq t
        have HK := Lib.hid (fun (w' : World) (b : Below w1.heap.size w1 w') => (⟨(x1.next b).cells2.1, (x1.next b).cells2.2, b⟩ : w'.cell? ⟨w.heap.size, 0, none⟩ = some (.slice B0 m0 d0) ∧ w'.cell? ⟨w.heap.size, 1, none⟩ = some (.slice B1 m1 d1) ∧ Below w1.heap.size w1 w'))
        have hbd : Below w1.heap.size w1 w1.drew := (Below.refl _ _).drew
        clear y0 y1 hb1
        go_wp2_with fail
        go_region_held3 (fun w' => w'.cell? ⟨w.heap.size, 0, none⟩ = some (.slice B0 m0 d0) ∧ w'.cell? ⟨w.heap.size, 1, none⟩ = some (.slice B1 m1 d1) ∧ Below w1.heap.size w1 w')
          (first
            | exact HK.out _ hbd
            | exact HK.out _ bz5
            | exact HK.out _ bz5a
            | exact HK.out _ bz6
            | exact HK.out _ bz7)
          (first
            | (go_simp; go_at_call 47; refine (areas_any _ q _ (repQu.next hv1 hbd) hq).mono ?_
               rintro e w5 ⟨gm, l, rfl, hgm, hM5, hA5, hb5⟩
               have bz5 := below_ext hbd hb5
               obtain ⟨D5, n5, c5, hrun5, hr5⟩ := look_area hM5 hA5 htn
               have bx5 := below_box w5 (.cells #[.slice B0 m0 d0, .slice D5 n5 c5] 23)
               have bz5a := below_ext bz5 bx5
               have xx5 := Blk.new w5 23 [.slice B0 m0 d0, .slice D5 n5 c5]
               have hz5 : (w5.alloc (.cells #[.slice B0 m0 d0, .slice D5 n5 c5] 23)).heap.size = w5.heap.size + 1 := by simp
               have hcc : ∀ j, j < 2 → (w5.alloc (.cells #[.slice B0 m0 d0, .slice D5 n5 c5] 23)).cell? ⟨w5.heap.size, j, none⟩ = some (twoV (.slice B0 m0 d0) (.slice D5 n5 c5) j) := fun j hj => by
                 rcases Nat.lt_or_ge j 1 with h | h
                 · obtain rfl : j = 0 := by omega
                   exact xx5.cell 0
                 · obtain rfl : j = 1 := by omega
                   exact xx5.cell 1
               have cB := byId_any w5.heap.size 2 2 (twoV (.slice B0 m0 d0) (.slice D5 n5 c5)) (twoL q.main (areaQ q t)) _ (by omega) xx5.lt hcc (twoV_all (hr01.next bz5a).robjs hst (hr5.next bx5) hsa)
               rw [hz5, twoL_flat] at cB
               clear hM5 hA5 hb5)
            | (go_simp; go_at_call 46; refine cB.mono ?_
               rintro e w6 ⟨rfl, D6, nn6, hM6, hO6, hb6⟩
               have hb6' := hb6
               rw [← hz5] at hb6'
               have bz6 := below_ext bz5a hb6'
               have hO66 := hO6.below hb6'
               have hf6 := hf1.below bz6 (Nat.le_refl _))
            | (go_simp; go_at_call 45; refine (reach_any (w5.heap.size + 1) nn6 D6 (q.main ++ areaQ q t) F m d fs w6 hM6 hO66 hok hf6 hm4 hfr).mono ?_
               rintro e w7 ⟨AS, cs, AM, cm, LS, LM, rfl, hAS, hAM, hrs, hrm, hb7⟩
               have bz7 := below_ext bz6 hb7))
        all_goals (
          have hfin : QMTo w q t fs (.returned (.slice AM LM.length cm)) w7 := ⟨AM, cm, LM, rfl, by unfold IsQM; rw [HV.out, if_pos rfl]; exact hAM, own_base hrm (Nat.le_trans bb1.size bz6.size), below_ext bb1 bz7⟩
          go_wp2_with fail
          go_ret
          exact hfin)
end Go.Proofs.Ytjofgbbofagoiaa
