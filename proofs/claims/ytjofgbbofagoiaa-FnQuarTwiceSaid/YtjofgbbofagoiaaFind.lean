/- Walks: the program's findObject: the binary search by the ids. -/
import Derived.Test.YtjofgbbofagoiaaObjs
import Derived.Test.YtjofgbbofagoiaaPut
import Derived.Test.YtjofgbbofagoiaaAppS
namespace Go.Proofs.Ytjofgbbofagoiaa
open Go.RowKit Go.Sort

set_option maxHeartbeats 800000 in
theorem findCmp_any (k : Int) (A : Option Addr) (n c : Nat) (xs : List Int) (t : ByteArray) (z : Int) (w : World) (h : RInts w A n xs) (hv : ObjOk k xs t) (hz0 : 0 ≤ z) (hz1 : z ≤ 1000) :
    Calls Try.prog 93 #[.agg #[.int .i64 k, .slice A n c, .string t], .int .i64 z] w fun e w' => e = .returned (.int .i64 (idV k xs t - z)) ∧ Below w.heap.size w w' := by
  have hb := idV_bd hv
  have hw : IntKind.i64.wrap (idV k xs t - z) = idV k xs t - z := by rw [IntKind.wrap_i64]; omega
  have h1 := h.next (below_box w (.cells #[.int .i64 k, .slice A n c, .string t] 33))
  have bo := Blk.new w 33 [.int .i64 k, .slice A n c, .string t]
  obtain ⟨c0, c1, c2⟩ := bo.cells3
  go_enter Try.func93, Try.ntmps93
  go_wp2_with fail
  refine (id_any k A n c xs t _ h1 hv).mono ?_
  rintro e w1 ⟨rfl, hb1⟩
  go_wp2_with fail
  go_ret
  exact ⟨rfl, below_ext (below_box _ _) hb1⟩

theorem posO_le : ∀ (os : List Ob) (i : Int), posO os i ≤ os.length
  | [], _ => by simp [posO]
  | x :: os, i => by
    have := posO_le os i
    simp only [posO, List.length_cons]
    split <;> omega
/-- is there an object of this id -/
def hasO (os : List Ob) (z : Int) : Bool := match os[posO os z]? with | some x => decide (x.id = z) | none => false

theorem asc_lt {os : List Ob} (h : ascO os = true) {i j : Nat} {a b : Ob} (hij : i < j) (ha : os[i]? = some a) (hb : os[j]? = some b) : a.id < b.id := by
  have hp := ((ascO_pw os).1 h).2
  rw [List.pairwise_iff_getElem] at hp
  obtain ⟨hi, ei⟩ := List.getElem?_eq_some_iff.1 ha
  obtain ⟨hj, ej⟩ := List.getElem?_eq_some_iff.1 hb
  have := hp i j hi hj hij
  rw [ei, ej] at this
  exact this

set_option maxHeartbeats 1600000 in
theorem search_any (A : Option Addr) (n c : Nat) (os : List Ob) (z : Int) (w : World) (h : RObjs w A n os) (hn : n ≤ 1000000) (ha : ascO os = true) (hz0 : 0 ≤ z) (hz1 : z ≤ 1000) :
    Calls Try.prog 92 #[.slice A n c, .int .i64 z, .func (.func 93) #[] #[]] w fun e w' => e = .returned (.tuple #[.int .i64 (posO os z), .bool (hasO os z)]) ∧ Below w.heap.size w w' := by
  have hl := h.1
  go_enter Try.func92, Try.ntmps92
  go_wp2_with fail
  go_loopw [9, 10] (fun i j wr => ∃ lo hi : Nat, lo ≤ hi ∧ hi ≤ n ∧ i = .int .i64 lo ∧ j = .int .i64 hi ∧ Hid ((∀ (q : Nat) (x : Ob), q < lo → os[q]? = some x → x.id < z) ∧ (∀ (q : Nat) (x : Ob), hi ≤ q → os[q]? = some x → z ≤ x.id)) ∧ Below w.heap.size w wr) (fun i j _ => (intOf j).toNat - (intOf i).toNat)
  case atStart => exact ⟨0, n, by omega, by omega, rfl, rfl, ⟨fun q x hq => absurd hq (by omega), fun q x hq hx => by have := (List.getElem?_eq_some_iff.1 hx).1; omega⟩, Below.refl _ _⟩
  case round =>
    obtain ⟨lo, hi, hlh, hhn, rfl, rfl, hP, hbr⟩ := hrel
    by_cases hlt : lo < hi
    · have hm1 : lo ≤ (lo + hi) / 2 := by omega
      have hm2 : (lo + hi) / 2 < hi := by omega
      go_upto_region 5 with fail
      have he : ((lo : Int) + (hi : Int)) / 2 = (((lo + hi) / 2 : Nat) : Int) := by omega
      rw [he]
      clear he
      generalize (lo + hi) / 2 = md at *
      obtain ⟨b, off, x, rfl, hb, hx, hob⟩ := (h.next hbr).at_ (k := md) (by omega)
      obtain ⟨B', m', d', c0, c1, c2, hri, hm, ht⟩ := hob
      have hxo : ObjOk x.k x.xs x.t := ObjOk.of (chainB_mem _ _ ha x (List.mem_of_getElem? hx))
      have HX := Lib.hid hx
      clear hx
      by_cases hid : x.id < z
      · have hd : decide (idV x.k x.xs x.t - z < 0) = true := decide_eq_true (by have : idV x.k x.xs x.t < z := hid; omega)
        go_wp2_with fail
        refine (findCmp_any _ _ _ _ x.xs _ z _ hri hxo hz0 hz1).mono ?_
        rintro e w2 ⟨rfl, hb2⟩
        go_wp2_with fail
        go_roundw
        case rel => exact ⟨md + 1, hi, by omega, hhn, by go_num, rfl, ⟨fun q y hq hy => by
          by_cases hqm : q = md
          · subst hqm
            rw [HX.out] at hy; injection hy with hy; subst hy; exact hid
          · have := asc_lt ha (show q < md by omega) hy HX.out; have : x.id < z := hid; omega, hP.out.2⟩, below_ext hbr hb2⟩
        case measure => simp [intOf]; omega
      · have hid' : z ≤ x.id := Int.not_lt.1 hid
        have HD := Lib.hid hid'
        have hd : decide (idV x.k x.xs x.t - z < 0) = false := decide_eq_false (by have : ¬ idV x.k x.xs x.t < z := hid; omega)
        clear hid hid'
        go_wp2_with fail
        refine (findCmp_any _ _ _ _ x.xs _ z _ hri hxo hz0 hz1).mono ?_
        rintro e w2 ⟨rfl, hb2⟩
        go_wp2_with fail
        go_roundw
        case rel => exact ⟨lo, md, by omega, by omega, rfl, rfl, ⟨hP.out.1, fun q y hq hy => by
          by_cases hqm : q = md
          · subst hqm
            rw [HX.out] at hy; injection hy with hy; subst hy; exact HD.out
          · have := asc_lt ha (show md < q by omega) HX.out hy; have := HD.out; omega⟩, below_ext hbr hb2⟩
        case measure => simp [intOf]; omega
    · obtain rfl : lo = hi := by omega
      have hpos : posO os z = lo := posO_eq os z lo (by omega) hP.out.1 (fun y hy => by have := hP.out.2 lo y (Nat.le_refl _) hy; omega)
      have HP := Lib.hid hpos
      clear hpos
      by_cases hln : lo < n
      · obtain ⟨b, off, x, rfl, hb, hx, hob⟩ := (h.next hbr).at_ (k := lo) hln
        obtain ⟨B', m', d', c0, c1, c2, hri, hm, ht⟩ := hob
        have hxo : ObjOk x.k x.xs x.t := ObjOk.of (chainB_mem _ _ ha x (List.mem_of_getElem? hx))
        have hh : hasO os z = (idV x.k x.xs x.t - z == 0) := by
          unfold hasO
          rw [HP.out, hx]
          show decide (idV x.k x.xs x.t = z) = decide (idV x.k x.xs x.t - z = 0)
          rw [decide_eq_decide]; omega
        have HH := Lib.hid hh
        clear hh hx
        go_wp2_with fail
        refine (findCmp_any _ _ _ _ x.xs _ z _ hri hxo hz0 hz1).mono ?_
        rintro e w2 ⟨rfl, hb2⟩
        go_wp2_with fail
        refine bodyPost_ret (v := .tuple #[.int .i64 lo, .bool (idV x.k x.xs x.t - z == 0)]) (by simp [results, Try.results92, go_sem]) rfl ⟨by rw [HP.out, HH.out], below_ext hbr hb2⟩
      · have hh : hasO os z = false := by
          unfold hasO
          rw [HP.out, List.getElem?_eq_none (by omega)]
        have HH := Lib.hid hh
        clear hh
        go_wp2_with fail
        refine bodyPost_ret (v := .tuple #[.int .i64 lo, .bool false]) (by simp [results, Try.results92, go_sem]) rfl ⟨by rw [HP.out, HH.out], hbr⟩

set_option maxHeartbeats 800000 in
theorem findObject_any (A : Option Addr) (n c : Nat) (os : List Ob) (z : Int) (w : World) (h : RObjs w A n os) (hn : n ≤ 1000000) (ha : ascO os = true) (hz0 : 0 ≤ z) (hz1 : z ≤ 1000) :
    Calls Try.prog 53 #[.slice A n c, .int .i64 z] w fun e w' => e = .returned (.tuple #[.int .i64 (posO os z), .bool (hasO os z)]) ∧ Below w.heap.size w w' := by
  go_enter Try.func53, Try.ntmps53
  go_wp2_with fail
  refine (search_any A n c os z w h hn ha hz0 hz1).mono ?_
  rintro e w1 ⟨rfl, hb1⟩
  go_wp2_with fail
  refine bodyPost_ret (v := .tuple #[.int .i64 (posO os z), .bool (hasO os z)]) (by simp [results, Try.results53, go_sem]) rfl ⟨rfl, hb1⟩
end Go.Proofs.Ytjofgbbofagoiaa
