import Derived.Test.YtjofgbbofagoiaaObjs
import Derived.Test.YtjofgbbofagoiaaPut
import Derived.Test.YtjofgbbofagoiaaAppS
import Derived.Test.YtjofgbbofagoiaaImplCopy
import Derived.Test.YtjofgbbofagoiaaObjLaw
import Derived.Test.YtjofgbbofagoiaaLaw
import Derived.Test.YtjofgbbofagoiaaRchT
import Derived.Test.YtjofgbbofagoiaaStoreTop
import Derived.Test.YtjofgbbofagoiaaMgMissB
import Derived.Test.YtjofgbbofagoiaaRchI
import Derived.Test.YtjofgbbofagoiaaQuDisc
import Derived.Test.YtjofgbbofagoiaaQuMissS
import Derived.Test.YtjofgbbofagoiaaMgMissA
import Derived.Deep.RegionHeld3
import Derived.Test.YtjofgbbofagoiaaRows
import Derived.Test.YtjofgbbofagoiaaLiftBase
/- Walks: the program's findObject: the binary search by the ids. -/
namespace Go.Proofs.Ytjofgbbofagoiaa
open Go.RowKit Go.Sort

set_option maxHeartbeats 800000 in
theorem findCmp_any (k : Int) (A : Option Addr) (n c : Nat) (xs : List Int) (t : ByteArray) (z : Int) (w : World) (h : RInts w A n xs) (hv : ObjOk k xs t) (hz0 : 0 ≤ z) (hz1 : z ≤ 1000) :
    Calls Try.prog 93 #[.agg #[.int .i64 k, .slice A n c, .string t], .int .i64 z] w fun e w' => e = .returned (.int .i64 (idV k xs t - z)) ∧ Below w.heap.size w w' := by
  have hb := idV_bd hv
  have hw : IntKind.i64.wrap (idV k xs t - z) = idV k xs t - z := by rw [IntKind.wrap_i64]; omega
  have h1 := h.next (below_box w (.cells #[.int .i64 k, .slice A n c, .string t] 33))
  have bo := Blk.new w 33 [.int .i64 k, .slice A n c, .string t]
  obtain ⟨c0, c1, c2⟩ := bo.cells3
  go_enter Try.func93, Try.ntmps93
  go_wp2_with fail
  refine (id_any k A n c xs t _ h1 hv).mono ?_
  rintro e w1 ⟨rfl, hb1⟩
  go_wp2_with fail
  go_ret
  exact ⟨rfl, below_ext (below_box _ _) hb1⟩

theorem posO_le : ∀ (os : List Ob) (i : Int), posO os i ≤ os.length
  | [], _ => by simp [posO]
  | x :: os, i => by
    have := posO_le os i
    simp only [posO, List.length_cons]
    split <;> omega
/-- is there an object of this id -/
def hasO (os : List Ob) (z : Int) : Bool := match os[posO os z]? with | some x => decide (x.id = z) | none => false

theorem asc_lt {os : List Ob} (h : ascO os = true) {i j : Nat} {a b : Ob} (hij : i < j) (ha : os[i]? = some a) (hb : os[j]? = some b) : a.id < b.id := by
  have hp := ((ascO_pw os).1 h).2
  rw [List.pairwise_iff_getElem] at hp
  obtain ⟨hi, ei⟩ := List.getElem?_eq_some_iff.1 ha
  obtain ⟨hj, ej⟩ := List.getElem?_eq_some_iff.1 hb
  have := hp i j hi hj hij
  rw [ei, ej] at this
  exact this

set_option maxHeartbeats 1600000 in
theorem search_any (A : Option Addr) (n c : Nat) (os : List Ob) (z : Int) (w : World) (h : RObjs w A n os) (hn : n ≤ 1000000) (ha : ascO os = true) (hz0 : 0 ≤ z) (hz1 : z ≤ 1000) :
    Calls Try.prog 92 #[.slice A n c, .int .i64 z, .func (.func 93) #[] #[]] w fun e w' => e = .returned (.tuple #[.int .i64 (posO os z), .bool (hasO os z)]) ∧ Below w.heap.size w w' := by
  have hl := h.1
  go_enter Try.func92, Try.ntmps92
  go_wp2_with fail
  go_loopw [9, 10] (fun i j wr => ∃ lo hi : Nat, lo ≤ hi ∧ hi ≤ n ∧ i = .int .i64 lo ∧ j = .int .i64 hi ∧ Hid ((∀ (q : Nat) (x : Ob), q < lo → os[q]? = some x → x.id < z) ∧ (∀ (q : Nat) (x : Ob), hi ≤ q → os[q]? = some x → z ≤ x.id)) ∧ Below w.heap.size w wr) (fun i j _ => (intOf j).toNat - (intOf i).toNat)
  case atStart => exact ⟨0, n, by omega, by omega, rfl, rfl, ⟨fun q x hq => absurd hq (by omega), fun q x hq hx => by have := (List.getElem?_eq_some_iff.1 hx).1; omega⟩, Below.refl _ _⟩
  case round =>
    obtain ⟨lo, hi, hlh, hhn, rfl, rfl, hP, hbr⟩ := hrel
    by_cases hlt : lo < hi
    · have hm1 : lo ≤ (lo + hi) / 2 := by omega
      have hm2 : (lo + hi) / 2 < hi := by omega
      go_upto_region 5 with fail
      have he : ((lo : Int) + (hi : Int)) / 2 = (((lo + hi) / 2 : Nat) : Int) := by omega
      rw [he]
      clear he
      generalize (lo + hi) / 2 = md at *
      obtain ⟨b, off, x, rfl, hb, hx, hob⟩ := (h.next hbr).at_ (k := md) (by omega)
      obtain ⟨B', m', d', c0, c1, c2, hri, hm, ht⟩ := hob
      have hxo : ObjOk x.k x.xs x.t := ObjOk.of (chainB_mem _ _ ha x (List.mem_of_getElem? hx))
      have HX := Lib.hid hx
      clear hx
      by_cases hid : x.id < z
      · have hd : decide (idV x.k x.xs x.t - z < 0) = true := decide_eq_true (by have : idV x.k x.xs x.t < z := hid; omega)
        go_wp2_with fail
        refine (findCmp_any _ _ _ _ x.xs _ z _ hri hxo hz0 hz1).mono ?_
        rintro e w2 ⟨rfl, hb2⟩
        go_wp2_with fail
        go_roundw
        case rel => exact ⟨md + 1, hi, by omega, hhn, by go_num, rfl, ⟨fun q y hq hy => by
          by_cases hqm : q = md
          · subst hqm
            rw [HX.out] at hy; injection hy with hy; subst hy; exact hid
          · have := asc_lt ha (show q < md by omega) hy HX.out; have : x.id < z := hid; omega, hP.out.2⟩, below_ext hbr hb2⟩
        case measure => simp [intOf]; omega
      · have hid' : z ≤ x.id := Int.not_lt.1 hid
        have HD := Lib.hid hid'
        have hd : decide (idV x.k x.xs x.t - z < 0) = false := decide_eq_false (by have : ¬ idV x.k x.xs x.t < z := hid; omega)
        clear hid hid'
        go_wp2_with fail
        refine (findCmp_any _ _ _ _ x.xs _ z _ hri hxo hz0 hz1).mono ?_
        rintro e w2 ⟨rfl, hb2⟩
        go_wp2_with fail
        go_roundw
        case rel => exact ⟨lo, md, by omega, by omega, rfl, rfl, ⟨hP.out.1, fun q y hq hy => by
          by_cases hqm : q = md
          · subst hqm
            rw [HX.out] at hy; injection hy with hy; subst hy; exact HD.out
          · have := asc_lt ha (show md < q by omega) HX.out hy; have := HD.out; omega⟩, below_ext hbr hb2⟩
        case measure => simp [intOf]; omega
    · obtain rfl : lo = hi := by omega
      have hpos : posO os z = lo := posO_eq os z lo (by omega) hP.out.1 (fun y hy => by have := hP.out.2 lo y (Nat.le_refl _) hy; omega)
      have HP := Lib.hid hpos
      clear hpos
      by_cases hln : lo < n
      · obtain ⟨b, off, x, rfl, hb, hx, hob⟩ := (h.next hbr).at_ (k := lo) hln
        obtain ⟨B', m', d', c0, c1, c2, hri, hm, ht⟩ := hob
        have hxo : ObjOk x.k x.xs x.t := ObjOk.of (chainB_mem _ _ ha x (List.mem_of_getElem? hx))
        have hh : hasO os z = (idV x.k x.xs x.t - z == 0) := by
          unfold hasO
          rw [HP.out, hx]
          show decide (idV x.k x.xs x.t = z) = decide (idV x.k x.xs x.t - z = 0)
          rw [decide_eq_decide]; omega
        have HH := Lib.hid hh
        clear hh hx
        go_wp2_with fail
        refine (findCmp_any _ _ _ _ x.xs _ z _ hri hxo hz0 hz1).mono ?_
        rintro e w2 ⟨rfl, hb2⟩
        go_wp2_with fail
        refine bodyPost_ret (v := .tuple #[.int .i64 lo, .bool (idV x.k x.xs x.t - z == 0)]) (by simp [results, Try.results92, go_sem]) rfl ⟨by rw [HP.out, HH.out], below_ext hbr hb2⟩
      · have hh : hasO os z = false := by
          unfold hasO
          rw [HP.out, List.getElem?_eq_none (by omega)]
        have HH := Lib.hid hh
        clear hh
        go_wp2_with fail
        refine bodyPost_ret (v := .tuple #[.int .i64 lo, .bool false]) (by simp [results, Try.results92, go_sem]) rfl ⟨by rw [HP.out, HH.out], hbr⟩

set_option maxHeartbeats 800000 in
theorem findObject_any (A : Option Addr) (n c : Nat) (os : List Ob) (z : Int) (w : World) (h : RObjs w A n os) (hn : n ≤ 1000000) (ha : ascO os = true) (hz0 : 0 ≤ z) (hz1 : z ≤ 1000) :
    Calls Try.prog 53 #[.slice A n c, .int .i64 z] w fun e w' => e = .returned (.tuple #[.int .i64 (posO os z), .bool (hasO os z)]) ∧ Below w.heap.size w w' := by
  go_enter Try.func53, Try.ntmps53
  go_wp2_with fail
  refine (search_any A n c os z w h hn ha hz0 hz1).mono ?_
  rintro e w1 ⟨rfl, hb1⟩
  go_wp2_with fail
  refine bodyPost_ret (v := .tuple #[.int .i64 (posO os z), .bool (hasO os z)]) (by simp [results, Try.results53, go_sem]) rfl ⟨rfl, hb1⟩
end Go.Proofs.Ytjofgbbofagoiaa
/- Walks: StoreGet, the program's and the reference's. -/
namespace Go.Proofs.Ytjofgbbofagoiaa
open Go.RowKit Go.Sort

def zeroO : Ob := ⟨0, [], ⟨#[]⟩⟩
/-- what StoreGet finds -/
def getR (os : List Ob) (z : Int) : Option Ob := if storeB os && hasO os z then os[posO os z]? else none
def GetTo (w : World) (r : Option Ob) (e : Ending) (w' : World) : Prop := ∃ A m c, e = .returned (.tuple #[.agg #[.int .i64 (r.getD zeroO).k, .slice A m c, .string (r.getD zeroO).t], .bool r.isSome]) ∧ LinkIn w' w.heap.size A m (r.getD zeroO).xs ∧ m ≤ maxLen ∧ (r.getD zeroO).t.size ≤ maxLen ∧ Below w.heap.size w w'

theorem hasO_at {os : List Ob} {z : Int} (h : hasO os z = true) : ∃ x, os[posO os z]? = some x ∧ x.id = z := by
  unfold hasO at h
  split at h
  · rename_i x hx; exact ⟨x, hx, of_decide_eq_true h⟩
  · cases h
theorem storeB_asc {os : List Ob} (h : storeB os = true) : ascO os = true := by unfold storeB at h; rw [Bool.and_eq_true] at h; exact h.1
theorem storeB_ok {os : List Ob} (h : storeB os = true) : ∀ x ∈ os, x.ok = true := ((storeB_iff os).1 h).1
theorem storeB_len {os : List Ob} (h : storeB os = true) : os.length ≤ 16 := ((storeB_iff os).1 h).2.2
theorem storeB_small {os : List Ob} (h : storeB os = true) : smallOs os := fun o ho => by
  have := (ObjOk.of (storeB_ok h o ho)).len; omega
theorem hasO_id {os : List Ob} {z : Int} (hs : storeB os = true) (h : hasO os z = true) : idB z = true := by
  obtain ⟨x, hx, hz⟩ := hasO_at h
  have := idV_bd (ObjOk.of (storeB_ok hs x (List.mem_of_getElem? hx)))
  have hz' : idV x.k x.xs x.t = z := hz
  unfold idB
  rw [Bool.and_eq_true, decide_eq_true_eq, decide_eq_true_eq]
  omega
theorem getR_no {os : List Ob} {z : Int} (h : storeB os = false) : getR os z = none := by simp [getR, h]
theorem getR_none {os : List Ob} {z : Int} (h : hasO os z = false) : getR os z = none := by simp [getR, h]
theorem getR_some {os : List Ob} {z : Int} {x : Ob} (hs : storeB os = true) (h : hasO os z = true) (hx : os[posO os z]? = some x) : getR os z = some x := by simp [getR, h, hs, hx]

/-- the result's variable is written -/
theorem res_put {w w1 : World} {cs : List Value} (hb : Below w.heap.size w w1) (hR : Blk w1 w.heap.size 33 cs) (u0 u1 u2 : Value) :
    Below w.heap.size w (((w1.setCell ⟨w.heap.size, 0, none⟩ u0).setCell ⟨w.heap.size, 1, none⟩ u1).setCell ⟨w.heap.size, 2, none⟩ u2) ∧
    ∀ {C : Nat} {A : Option Addr} {m : Nat} {xs : List Int}, LinkIn w1 C A m xs → LinkIn (((w1.setCell ⟨w.heap.size, 0, none⟩ u0).setCell ⟨w.heap.size, 1, none⟩ u1).setCell ⟨w.heap.size, 2, none⟩ u2) C A m xs := by
  have hgr := grown_setCell (i := 2) (grown_setCell (i := 1) (grown_setCell (i := 0) (World.grownBy.refl w1 (some w.heap.size)) u0) u1) u2
  refine ⟨below_store (below_store (below_store hb (Nat.le_refl _) u0) (Nat.le_refl _) u1) (Nat.le_refl _) u2, fun hx => hx.grown hgr fun g e => Or.inr ?_⟩
  injection e with e; subst e
  exact ⟨_, _, _, hR, by decide⟩
theorem linkIn_none {w : World} {C : Nat} : LinkIn w C none 0 [] := ⟨⟨rfl, fun h => absurd h (by omega)⟩, fun ad e => by cases e⟩

set_option maxHeartbeats 1600000 in
theorem implStoreGet_any (A : Option Addr) (n c : Nat) (os : List Ob) (z : Int) (w : World) (h : RObjs w A n os) (hn : n ≤ maxLen) (hcap : n ≤ c) :
    Calls Try.prog 14 #[.slice A n c, .int .i64 z] w (GetTo w (getR os z)) := by
  have hl := h.1
  have hR := Blk.new w 33 [.int .i64 0, .slice none 0 0, .string ⟨#[]⟩]
  have b1 := below_box w (.cells #[.int .i64 0, .slice none 0 0, .string ⟨#[]⟩] 33)
  have h1 := h.next b1
  go_enter Try.func14, Try.ntmps14
  go_wp2_with fail
  refine (implStoreValid_any A n c os _ h1 hn).mono ?_
  rintro e w1 ⟨rfl, hb1⟩
  have hR1 := hR.next hb1
  have b2 := below_ext b1 hb1
  obtain ⟨s0, s1, s2⟩ := hR1.cells3
  have f0 := hR1.frozen 0
  have f1 := hR1.frozen 1
  have f2 := hR1.frozen 2
  have ret0 : GetTo w none (.returned (.tuple #[.agg #[.int .i64 0, .slice none 0 0, .string ⟨#[]⟩], .bool false])) (((w1.setCell ⟨w.heap.size, 0, none⟩ (.int .i64 0)).setCell ⟨w.heap.size, 1, none⟩ (.slice none 0 0)).setCell ⟨w.heap.size, 2, none⟩ (.string ⟨#[]⟩)) :=
    ⟨none, 0, 0, rfl, linkIn_none, by simp only [maxLen]; omega, by show (0 : Nat) ≤ _; exact Nat.zero_le _, (res_put b2 hR1 _ _ _).1⟩
  have HR0 := Lib.hid ret0
  clear ret0
  cases hv : storeB os
  · have HG := Lib.hid (getR_no (z := z) hv)
    go_wp2_with fail
    refine bodyPost_ret (v := .tuple #[.agg #[.int .i64 0, .slice none 0 0, .string ⟨#[]⟩], .bool false]) (by simp [results, Try.results14, go_sem, s0, s1, s2]) rfl (by rw [HG.out]; exact HR0.out)
  · have hl16 := storeB_len hv
    cases hid : idB z
    · have hh : hasO os z = false := by
        cases hh : hasO os z
        · rfl
        · rw [hasO_id hv hh] at hid; cases hid
      have HG := Lib.hid (getR_none hh)
      go_wp2_with (go_at_call 52; refine (isId_any _ _).mono ?_; rintro e w2 ⟨rfl, rfl⟩)
      refine bodyPost_ret (v := .tuple #[.agg #[.int .i64 0, .slice none 0 0, .string ⟨#[]⟩], .bool false]) (by simp [results, Try.results14, go_sem, s0, s1, s2]) rfl (by rw [HG.out]; exact HR0.out)
    · have hz : 0 ≤ z ∧ z ≤ 990 := by
        unfold idB at hid; rw [Bool.and_eq_true, decide_eq_true_eq, decide_eq_true_eq] at hid; exact hid
      clear HR0
      go_wp2_with (go_at_call 52; refine (isId_any _ _).mono ?_; rintro e w2 ⟨rfl, rfl⟩)
      refine (findObject_any A n c os z _ (h1.next hb1) (by omega) (storeB_asc hv) hz.1 (by omega)).mono ?_
      rintro e w2 ⟨rfl, hb2⟩
      have hR2 := hR1.next hb2
      have b3 := below_ext b2 hb2
      obtain ⟨s0, s1, s2⟩ := hR2.cells3
      have f0 := hR2.frozen 0
      have f1 := hR2.frozen 1
      have f2 := hR2.frozen 2
      cases hh : hasO os z
      · have HG := Lib.hid (getR_none hh)
        go_wp2_with fail
        refine bodyPost_ret (v := .tuple #[.agg #[.int .i64 0, .slice none 0 0, .string ⟨#[]⟩], .bool false]) (by simp [results, Try.results14, go_sem, s0, s1, s2]) rfl
          (by rw [HG.out]; exact ⟨none, 0, 0, rfl, linkIn_none, by simp only [maxLen]; omega, by show (0 : Nat) ≤ _; exact Nat.zero_le _, (res_put b3 hR2 _ _ _).1⟩)
      · obtain ⟨x, hx, hxz⟩ := hasO_at hh
        have HG := Lib.hid (getR_some hv hh hx)
        have hat : posO os z < n := by have := (List.getElem?_eq_some_iff.1 hx).1; omega
        generalize posO os z = k at *
        have h3 := (h1.next hb1).next hb2
        obtain ⟨b, off, x', rfl, hb, hx', hob⟩ := h3.at_ hat
        obtain rfl : x = x' := by rw [hx] at hx'; injection hx'
        have i1 : (0 : Int) ≤ (k : Int) := by omega
        have i2 : (k : Int) + 1 ≤ (c : Int) := by omega
        have i3 : IntKind.i64.wrap ((k : Int) + 1) = (k : Int) + 1 := by rw [IntKind.wrap_i64]; omega
        have i4 : (k : Int) ≤ (k : Int) + 1 := by omega
        have i5 : ¬ (c = k) := by omega
        have hsub : RObjs w2 (some ⟨b, off + k * 3, none⟩) 1 [x] := ⟨rfl, fun _ => ⟨b, off + k * 3, rfl, hb, fun i o ho => by
          cases i with
          | zero => simp at ho; subst ho; simpa using hob
          | succ i => simp at ho⟩⟩
        have hsm : smallOs [x] := fun o ho => by simp at ho; subst ho; exact storeB_small hv _ (List.mem_of_getElem? hx)
        have HX := Lib.hid hx
        have HZ := Lib.hid hxz
        clear hx hx' hxz
        go_wp2_with fail
        refine (copyObjects_any _ 1 (c - k) [x] _ hsub (by omega) hsm).mono ?_
        rintro e w3 ⟨v3, rfl, hO3, hb3⟩
        obtain ⟨cs, hown, hel⟩ := hO3
        obtain ⟨A3, c3, rfl, -⟩ := own_form hown
        obtain ⟨g, rfl, hg1, hg2⟩ := own_addr hown (by omega)
        obtain ⟨A', m', d', e0, e1, e2, hlk, hm', ht'⟩ := hel.2 0 x rfl
        have c0 := own_cellsOf hown _ _ e0
        have c1 := own_cellsOf hown _ _ e1
        have c2 := own_cellsOf hown _ _ e2
        simp only [Nat.zero_mul, Nat.zero_add] at c0 c1 c2
        have hR3 := hR2.next hb3
        have b4 := below_ext b3 hb3
        obtain ⟨s0, s1, s2⟩ := hR3.cells3
        have f0 := hR3.frozen 0
        have f1 := hR3.frozen 1
        have f2 := hR3.frozen 2
        clear e0 e1 e2
        go_wp2_with fail
        refine bodyPost_ret (v := .tuple #[.agg #[.int .i64 x.k, .slice A' m' d', .string x.t], .bool true]) (by simp [results, Try.results14, go_sem, s0, s1, s2]) rfl ?_
        rw [HG.out]
        exact ⟨A', m', d', rfl, (res_put b4 hR3 _ _ _).2 (hlk.base b3.size), hm', ht', (res_put b4 hR3 _ _ _).1⟩

def locO (os : List Ob) (z : Int) : Int := if hasO os z then (posO os z : Int) else -1
theorem locO_at {os : List Ob} {z : Int} {k : Nat} {x : Ob} (ha : ascO os = true) (hx : os[k]? = some x) (he : x.id = z) : hasO os z = true ∧ posO os z = k := by
  have hk : k < os.length := (List.getElem?_eq_some_iff.1 hx).1
  have hp : posO os z = k := posO_eq os z k (by omega) (fun j y hj hy => by have := asc_lt ha hj hy hx; omega) (fun y hy => by rw [hx] at hy; injection hy with hy; subst hy; omega)
  refine ⟨?_, hp⟩
  unfold hasO
  rw [hp, hx]
  exact decide_eq_true he

set_option maxHeartbeats 1600000 in
theorem l1Get_any (A : Option Addr) (n c : Nat) (os : List Ob) (z : Int) (w : World) (h : RObjs w A n os) (hn : n ≤ 1000000) (ha : ascO os = true) :
    Calls Try.prog 90 #[.slice A n c, .int .i64 z] w fun e w' => e = .returned (.int .i64 (locO os z)) ∧ Below w.heap.size w w' := by
  have hl := h.1
  go_enter Try.func90, Try.ntmps90
  go_wp2_with fail
  go_loopw [5] (fun i wr => ∃ k : Nat, k ≤ n ∧ i = .int .i64 k ∧ Hid (∀ (q : Nat) (x : Ob), q < k → os[q]? = some x → x.id = z → False) ∧ Below w.heap.size w wr) (fun i _ => n - (intOf i).toNat)
  case atStart => exact ⟨0, Nat.zero_le _, rfl, (show ∀ (q : Nat) (x : Ob), q < 0 → os[q]? = some x → x.id = z → False from fun q x hq => absurd hq (by omega)), Below.refl _ _⟩
  case round =>
    obtain ⟨k, hk, rfl, hP, hbr⟩ := hrel
    by_cases hlt : k < n
    · obtain ⟨b, off, x, rfl, hb, hx, hob⟩ := (h.next hbr).at_ (k := k) hlt
      obtain ⟨B', m', d', c0, c1, c2, hri, hm, ht⟩ := hob
      have hxo : ObjOk x.k x.xs x.t := ObjOk.of (chainB_mem _ _ ha x (List.mem_of_getElem? hx))
      have HX := Lib.hid hx
      clear hx
      go_wp2_with fail
      refine (l1Of_any _ _ _ _ x.xs _ _ hri hxo).mono ?_
      rintro e w2 ⟨rfl, hb2⟩
      cases hd : (idV x.k x.xs x.t == z)
      · have HD := Lib.hid hd
        go_wp2_with fail
        go_roundw
        case rel => exact ⟨k + 1, by omega, by go_num, (show ∀ (q : Nat) (y : Ob), q < k + 1 → os[q]? = some y → y.id = z → False from fun q y hq hy he => by
          by_cases hqk : q < k
          · exact hP.out q y hqk hy he
          · obtain rfl : q = k := by omega
            rw [HX.out] at hy; injection hy with hy; subst hy
            have he' : idV x.k x.xs x.t = z := he
            have := HD.out
            rw [he'] at this
            simp at this), below_ext hbr hb2⟩
        case measure => simp [intOf]; omega
      · have he : x.id = z := beq_iff_eq.1 hd
        have hq := locO_at ha HX.out he
        have HQ := Lib.hid hq
        clear hq he
        go_wp2_with fail
        go_ret
        refine ⟨?_, below_ext hbr hb2⟩
        unfold locO
        rw [HQ.out.1, HQ.out.2, if_pos rfl]
        rfl
    · obtain rfl : k = n := by omega
      have hno : hasO os z = false := by
        cases hh : hasO os z
        · rfl
        · obtain ⟨x, hx, he⟩ := hasO_at hh
          exact (hP.out _ x (by have := (List.getElem?_eq_some_iff.1 hx).1; omega) hx he).elim
      have HN := Lib.hid hno
      clear hno
      go_wp2_with fail
      go_ret
      refine ⟨?_, hbr⟩
      unfold locO
      rw [HN.out]
      rfl

theorem eqV_refl (o : Ob) : ((o.k == o.k) && eqI o.xs o.xs && (o.t.toList == o.t.toList)) = true := by simp [eqI]
theorem getR_data {os : List Ob} {z : Int} {x : Ob} (h : getR os z = some x) : x.ok = true ∧ x.id = z := by
  unfold getR at h
  split at h
  · rename_i hc
    rw [Bool.and_eq_true] at hc
    obtain ⟨y, hy, he⟩ := hasO_at hc.2
    rw [hy] at h; injection h with h; subst h
    exact ⟨storeB_ok hc.1 _ (List.mem_of_getElem? hy), he⟩
  · cases h

end Go.Proofs.Ytjofgbbofagoiaa
/- Walks: the laws' sameInts, sameObject, sameObjects. -/
namespace Go.Proofs.Ytjofgbbofagoiaa
open Go.RowKit Go.Sort

set_option maxHeartbeats 1600000 in
theorem sameInts_any (A B : Option Addr) (n c m d : Nat) (xs ys : List Int) (w : World) (hx : RInts w A n xs) (hy : RInts w B m ys) (hn : n ≤ maxLen) (hm : m ≤ maxLen) :
    Calls Try.prog 13 #[.slice A n c, .slice B m d] w fun e w' => e = .returned (.bool (eqI xs ys)) ∧ Below w.heap.size w w' := by
  unfold maxLen at hn hm
  by_cases hnm : n = m
  · subst hnm
    go_enter Try.func13, Try.ntmps13
    go_wp2
    go_loopw [5] (fun i wr => ∃ k : Nat, k ≤ n ∧ i = .int .i64 k ∧ Hid (xs.take k = ys.take k) ∧ Below w.heap.size w wr) (fun i _ => n - (intOf i).toNat)
    case atStart => exact ⟨0, Nat.zero_le _, rfl, by show _ = _; simp, Below.refl _ _⟩
    case round =>
      obtain ⟨k, hk, rfl, hasc, hbr⟩ := hrel
      by_cases hlt : k < n
      · obtain ⟨ad, x, rfl, hb, hxk, hc⟩ := (hx.below hbr (Nat.le_refl _)).at_ hlt
        obtain ⟨ad', y, rfl, hb', hyk, hc'⟩ := (hy.below hbr (Nat.le_refl _)).at_ hlt
        have hT := eq_take xs ys k (hx.1.trans hy.1.symm) x y hxk hyk
        have HT := Lib.hid hT
        have hcg := cell_regrown hc
        have hcg' := cell_regrown hc'
        clear hT hxk hyk
        cases he : (x != y)
        · have hxy : x = y := by simpa using he
          go_wp2
          refine wp_region_ext (by kernel_rfl) (by kernel_rfl) ?_
          repeat (go_big_quiet_step (fail))
          refine wpQuiet_nil ?_
          intro w1 hb1
          go_wp2
          go_roundw
          case rel => exact ⟨k + 1, by omega, by go_num, HT.out.2 ⟨hasc.out, hxy⟩, below_ext hbr hb1⟩
          case measure => simp [intOf]; omega
        · have hxy : x ≠ y := by simpa using he
          go_wp2
          refine wp_region_ext (by kernel_rfl) (by kernel_rfl) ?_
          repeat (go_big_quiet_step (fail))
          refine wpQuiet_nil ?_
          intro w1 hb1
          go_wp2
          go_ret
          exact ⟨ret_bool (by
            have : xs ≠ ys := fun hh => hxy ((HT.out.1 (by rw [hh])).2)
            simp [eqI, this]), below_ext hbr hb1⟩
      · obtain rfl : k = n := by omega
        rw [List.take_of_length_le (by rw [hx.1]; exact Nat.le_refl _), List.take_of_length_le (by rw [hy.1]; exact Nat.le_refl _)] at hasc
        go_wp2
        go_ret
        exact ⟨ret_bool (by simp [eqI, hasc.out]), hbr⟩
  · have hne : ((n : Int) != (m : Int)) = true := by simp; omega
    have : xs ≠ ys := fun hh => hnm (by rw [← hx.1, ← hy.1, hh])
    go_enter Try.func13, Try.ntmps13
    go_wp2
    go_ret
    exact ⟨ret_bool (by simp [eqI, this]), Below.refl _ _⟩

set_option maxHeartbeats 1600000 in
theorem sameObject_any (k k' : Int) (A B : Option Addr) (n c m d : Nat) (xs ys : List Int) (t t' : ByteArray) (w : World) (hx : RInts w A n xs) (hy : RInts w B m ys) (hn : n ≤ maxLen) (hm : m ≤ maxLen) :
    Calls Try.prog 76 #[.agg #[.int .i64 k, .slice A n c, .string t], .agg #[.int .i64 k', .slice B m d, .string t']] w fun e w' => e = .returned (.bool ((k == k') && eqI xs ys && (t.toList == t'.toList))) ∧ Below w.heap.size w w' := by
  have h1 := fun (o o' : Obj) => hx.below (below_box2 w o o') (Nat.le_refl _)
  have h2 := fun (o o' : Obj) => hy.below (below_box2 w o o') (Nat.le_refl _)
  cases hk : (k == k')
  · go_enter Try.func76, Try.ntmps76
    go_wp2
    go_ret
    exact ⟨ret_bool (by simp), below_box2 _ _ _⟩
  · cases ht : (t.toList == t'.toList)
    · go_enter Try.func76, Try.ntmps76
      go_wp2
      go_ret
      exact ⟨ret_bool (by simp), below_box2 _ _ _⟩
    · go_enter Try.func76, Try.ntmps76
      go_wp2_with (go_at_call 13; refine (sameInts_any _ _ _ _ _ _ xs ys _ (h1 _ _) (h2 _ _) hn hm).mono ?_; rintro e w1 ⟨rfl, hb⟩; obtain ⟨hc, hf⟩ := bcell hb)
      go_ret
      exact ⟨ret_bool (by simp), below_ext (below_box2 _ _ _) hb⟩
set_option maxHeartbeats 1600000 in
theorem sameObjects_any (A B : Option Addr) (n c m d : Nat) (xs ys : List Ob) (w : World) (hx : RObjs w A n xs) (hy : RObjs w B m ys) (hn : n ≤ maxLen) (hm : m ≤ maxLen) :
    Calls Try.prog 36 #[.slice A n c, .slice B m d] w fun e w' => e = .returned (.bool (eqOs xs ys)) ∧ Below w.heap.size w w' := by
  unfold maxLen at hn hm
  by_cases hnm : n = m
  · subst hnm
    go_enter Try.func36, Try.ntmps36
    go_wp2
    go_loopw [5] (fun i wr => ∃ k : Nat, k ≤ n ∧ i = .int .i64 k ∧ Hid (eqOs (xs.take k) (ys.take k) = true) ∧ Below w.heap.size w wr) (fun i _ => n - (intOf i).toNat)
    case atStart => exact ⟨0, Nat.zero_le _, rfl, by show _ = _; simp [eqOs], Below.refl _ _⟩
    case round =>
      obtain ⟨k, hk, rfl, hasc, hbr⟩ := hrel
      by_cases hlt : k < n
      · obtain ⟨b, off, o, rfl, hb, hxk, hob⟩ := (hx.next hbr).at_ hlt
        obtain ⟨b', off', o', rfl, hb', hyk, hob'⟩ := (hy.next hbr).at_ hlt
        obtain ⟨B, p, q, c0, c1, c2, hri, hp, ht⟩ := hob
        obtain ⟨B', p', q', d0, d1, d2, hri', hp', ht'⟩ := hob'
        have HT := Lib.hid (eqOs_take xs ys k o o' hxk hyk)
        have HF := Lib.hid (fun hh => eqOs_of_take xs ys (k+1) hh)
        clear hxk hyk
        cases he : eqO o o'
        · unfold eqO at he
          go_wp2
          have g0 := cell_regrown c0
          have g1 := cell_regrown c1
          have g2 := cell_regrown c2
          have k0 := cell_regrown d0
          have k1 := cell_regrown d1
          have k2 := cell_regrown d2
          clear c0 c1 c2 d0 d1 d2
          refine wp_region_ext (by kernel_rfl) (by kernel_rfl) ?_
          repeat (go_big_quiet_step ((go_at_call 76; exact rg_below (sameObject_any _ _ _ _ _ _ _ _ o.xs o'.xs _ _ _ (hri.regrown _ _) (hri'.regrown _ _) hp hp'))))
          refine wpQuiet_nil ?_
          intro w1 hb1
          go_wp2
          go_ret
          exact ⟨ret_bool (by
            cases hh : eqOs xs ys
            · rfl
            · have h1 := HF.out hh
              rw [HT.out] at h1
              unfold eqO at h1
              rw [he] at h1; simp at h1), below_ext hbr hb1⟩
        · unfold eqO at he
          go_wp2
          have g0 := cell_regrown c0
          have g1 := cell_regrown c1
          have g2 := cell_regrown c2
          have k0 := cell_regrown d0
          have k1 := cell_regrown d1
          have k2 := cell_regrown d2
          clear c0 c1 c2 d0 d1 d2
          refine wp_region_ext (by kernel_rfl) (by kernel_rfl) ?_
          repeat (go_big_quiet_step ((go_at_call 76; exact rg_below (sameObject_any _ _ _ _ _ _ _ _ o.xs o'.xs _ _ _ (hri.regrown _ _) (hri'.regrown _ _) hp hp'))))
          refine wpQuiet_nil ?_
          intro w1 hb1
          go_wp2
          go_roundw
          case rel => exact ⟨k + 1, by omega, by go_num, by show _ = _; rw [HT.out, hasc.out]; exact he, below_ext hbr hb1⟩
          case measure => simp [intOf]; omega
      · obtain rfl : k = n := by omega
        rw [List.take_of_length_le (by rw [hx.1]; exact Nat.le_refl _), List.take_of_length_le (by rw [hy.1]; exact Nat.le_refl _)] at hasc
        go_wp2
        go_ret
        exact ⟨ret_bool hasc.out.symm, hbr⟩
  · have hne : ((n : Int) != (m : Int)) = true := by simp; omega
    have : eqOs xs ys = false := by
      cases hh : eqOs xs ys
      · rfl
      · exact absurd (eqOs_len _ _ hh) (by rw [hx.1, hy.1]; exact hnm)
    go_enter Try.func36, Try.ntmps36
    go_wp2
    go_ret
    exact ⟨ret_bool this.symm, Below.refl _ _⟩
end Go.Proofs.Ytjofgbbofagoiaa
/- Walks: DrawStoreReach, DrawStoreMissing; the laws' hasInt and ascending. -/
namespace Go.Proofs.Ytjofgbbofagoiaa
open Go.RowKit Go.Sort

def DrewSR (w : World) (e : Ending) (w' : World) : Prop := ∃ v F nf cf fs, e = .returned (.tuple #[v, .slice F nf cf]) ∧ IsStore w.heap.size 21 v w' ∧ w'.ownsRow w.heap.size 3 1 (.slice F nf cf) nf (ints fs) ∧ nf ≤ 10 ∧ Below w.heap.size w w'
def ascI (xs : List Int) : Prop := xs.Pairwise (· < ·)
set_option maxHeartbeats 1600000 in
theorem ascending_any (A : Option Addr) (n c : Nat) (xs : List Int) (w : World) (h : RInts w A n xs) (hn : n ≤ maxLen) (hp : ascI xs) :
    Calls Try.prog 16 #[.slice A n c] w fun e w' => e = .returned (.bool true) ∧ Below w.heap.size w w' := by
  unfold maxLen at hn
  have hl := h.1
  go_enter Try.func16, Try.ntmps16
  go_wp2
  go_loopw [3] (fun i wr => ∃ k : Nat, 1 ≤ k ∧ k ≤ n + 1 ∧ i = .int .i64 k ∧ Below w.heap.size w wr) (fun i _ => n + 1 - (intOf i).toNat)
  case atStart => exact ⟨1, Nat.le_refl _, by omega, rfl, Below.refl _ _⟩
  case round =>
    obtain ⟨k, hk1, hk, rfl, hbr⟩ := hrel
    by_cases hlt : k < n
    · obtain ⟨ad, x, rfl, hb, hxk, hc⟩ := (h.below hbr (Nat.le_refl _)).at_ (k := k - 1) (by omega)
      obtain ⟨ad', y, e9, hb', hyk, hc'⟩ := (h.below hbr (Nat.le_refl _)).at_ hlt
      injection e9 with e9
      subst e9
      have hxy : x < y := by
        obtain ⟨u1, u2⟩ := List.getElem?_eq_some_iff.1 hxk
        obtain ⟨u3, u4⟩ := List.getElem?_eq_some_iff.1 hyk
        have := List.pairwise_iff_getElem.1 hp (k - 1) k u1 u3 (by omega)
        omega
      have hge : decide (x ≥ y) = false := by simp; omega
      have hge2 : decide (y ≤ x) = false := by simp; omega
      have hcg := cell_regrown hc
      have hcg' := cell_regrown hc'
      have hkk : IntKind.i64.wrap ((k : Int) - 1) = ((k - 1 : Nat) : Int) := by rw [IntKind.wrap_i64]; omega
      have hkk2 : (k : Int) - 1 = ((k - 1 : Nat) : Int) := by omega
      clear hxk hyk hp
      go_wp2
      refine wp_region_ext (by kernel_rfl) (by kernel_rfl) ?_
      repeat (go_big_quiet_step (fail))
      refine wpQuiet_nil ?_
      intro w1 hb1
      go_wp2
      go_roundw
      case rel => exact ⟨k + 1, by omega, by omega, by go_num, below_ext hbr hb1⟩
      case measure => simp [intOf]; omega
    · go_wp2
      go_ret
      exact ⟨rfl, hbr⟩
theorem getR_eq {os : List Ob} (hs : storeB os = true) (z : Int) : getR os z = getO os z := by
  have ha : ascO os = true := by unfold storeB at hs; rw [Bool.and_eq_true] at hs; exact hs.1
  cases hg : getO os z with
  | some o =>
    obtain ⟨k, hk⟩ := List.mem_iff_getElem?.1 (List.mem_of_find?_eq_some hg)
    have he : o.id = z := by
      have := List.find?_some hg
      exact of_decide_eq_true this
    have hl := locO_at ha hk he
    exact getR_some hs hl.1 (by rw [hl.2]; exact hk)
  | none =>
    cases hh : hasO os z with
    | false => exact getR_none hh
    | true =>
      obtain ⟨x, hx, he⟩ := hasO_at hh
      have := List.find?_eq_none.1 hg x (List.mem_of_getElem? hx)
      exact absurd (decide_eq_true he) this
theorem eqI_same (xs : List Int) : eqI xs xs = true := by simp [eqI]
theorem IsRch.len {os : List Ob} {fs L : List Int} {b : Bool} (h : IsRch os fs b L) : L.length ≤ 991 := by
  unfold IsRch at h
  split at h
  · rename_i hv
    rw [Bool.and_eq_true] at hv
    exact nodup_len (asc_nodup h.1) fun x hx => Rch.range (storeB_all hv.1).1 (idsOk_facts hv.2).2.1 x ((h.2 x).1 hx).1
  · rw [h]; simp
theorem IsRch.good {os : List Ob} {fs L : List Int} {b : Bool} (h : IsRch os fs b L) (hne : L ≠ []) : storeB os = true ∧ idsOkB fs = true ∧ AscMem L (fun x => Rch os fs x ∧ isSt os x = b) := by
  unfold IsRch at h
  split at h
  · rename_i hv
    have hv' := hv
    rw [Bool.and_eq_true] at hv'
    exact ⟨hv'.1, hv'.2, h⟩
  · exact absurd h hne
theorem IsRch.asc {os : List Ob} {fs L : List Int} {b : Bool} (h : IsRch os fs b L) : ascI L := by
  unfold IsRch at h
  split at h
  · exact h.1
  · rw [h]; exact List.Pairwise.nil
end Go.Proofs.Ytjofgbbofagoiaa
/- Walk: the program's StoreGet, as the laws on reach use it. -/
namespace Go.Proofs.Ytjofgbbofagoiaa
open Go.RowKit Go.Sort

theorem sget_any (A : Option Addr) (n c : Nat) (os : List Ob) (z : Int) (w : World) (h : RObjs w A n os) (hn : n ≤ maxLen) (hc : n ≤ c) (hs : storeB os = true) :
    Calls Try.prog 14 #[.slice A n c, .int .i64 z] w fun e w' => ∃ k t B m d, e = .returned (.tuple #[.agg #[.int .i64 k, .slice B m d, .string t], .bool (isSt os z)]) ∧ RInts w' B m (lnk os z) ∧ m ≤ 4 ∧ Below w.heap.size w w' := by
  refine (implStoreGet_any A n c os z w h hn hc).mono ?_
  rintro e w' ⟨B, m, d, rfl, hl, -, -, hb⟩
  have hx : (getR os z).isSome = isSt os z := by rw [getR_eq hs]; rfl
  have hy : ((getR os z).getD zeroO).xs = lnk os z := by
    rw [getR_eq hs]
    unfold lnk
    cases getO os z <;> rfl
  rw [hy] at hl
  refine ⟨_, _, B, m, d, by rw [hx], hl.1, ?_, hb⟩
  have h4 := (lnk_ok (storeB_all hs).1 z).1
  have := hl.1.1
  omega
theorem has_mem {L : List Int} {x : Int} (h : x ∈ L) : hasI L x = true := by simpa [hasI] using h
end Go.Proofs.Ytjofgbbofagoiaa
/- Walk: the laws' areaOf at an own quarantine; facts of what is missing. -/
namespace Go.Proofs.Ytjofgbbofagoiaa
open Go.RowKit Go.Sort

theorem IsQM.len {q : Qu} {t : Int} {fs L : List Int} (h : IsQM q t fs L) : L.length ≤ 991 := by
  unfold IsQM at h
  split at h
  · rename_i hv
    simp only [Bool.and_eq_true] at hv
    exact nodup_len (asc_nodup h.1) fun x hx => Rch.range (allQ_ok hv.1 t) (idsOk_facts hv.2.2).2.1 x ((h.2 x).1 hx).1
  · rw [h]; simp
theorem IsQM.asc {q : Qu} {t : Int} {fs L : List Int} (h : IsQM q t fs L) : ascI L := by
  unfold IsQM at h
  split at h
  · exact h.1
  · rw [h]; exact List.Pairwise.nil
theorem isSt_app {os ps : List Ob} {x : Int} (h : isSt (os ++ ps) x = false) : isSt os x = false ∧ isSt ps x = false := by
  have h' : getO (os ++ ps) x = none := by
    unfold isSt at h
    cases hg : getO (os ++ ps) x
    · rfl
    · rw [hg] at h; cases h
  unfold getO at h'
  have h1 := List.find?_eq_none.1 h'
  refine ⟨?_, ?_⟩
  · have : getO os x = none := List.find?_eq_none.2 fun a ha => h1 a (List.mem_append_left _ ha)
    unfold isSt; rw [this]; rfl
  · have : getO ps x = none := List.find?_eq_none.2 fun a ha => h1 a (List.mem_append_right _ ha)
    unfold isSt; rw [this]; rfl
theorem IsQM.none {q : Qu} {t : Int} {fs L : List Int} (h : IsQM q t fs L) {x : Int} (hx : x ∈ L) : storeB q.main = true ∧ storeB (areaQ q t) = true ∧ isSt q.main x = false ∧ isSt (areaQ q t) x = false := by
  unfold IsQM at h
  split at h
  · rename_i hv
    simp only [Bool.and_eq_true] at hv
    have h2 := isSt_app ((h.2 x).1 hx).2
    exact ⟨(quarB_parts hv.1).1, areaQ_facts hv.1 t, h2.1, h2.2⟩
  · rw [h] at hx; cases hx
/-- the areas' objects lie in slices -/
theorem OwnQ.caps {w : World} {B : Nat} {RA C : Option Addr} {rn rc m d : Nat} {q : Qu} (h : OwnQ w B [.slice RA rn rc, .slice C m d] q) : rn ≤ rc ∧ ∀ (k b off : Nat) (D : Option Addr) (n c : Nat), k < m → C = some ⟨b, off, none⟩ → w.cell? ⟨b, off + k * 2 + 1, none⟩ = some (.slice D n c) → n ≤ c := by
  refine ⟨?_, ?_⟩
  · obtain ⟨A2, c2, e, hle⟩ := h.main.1.form
    injection e with e1 e2 e3
    omega
  · intro k b off D n c hk e hc
    obtain ⟨ca, hoA, heA⟩ := h.main.2
    have hlen := OwnA.len h.main.2
    obtain ⟨a, hka⟩ : ∃ a, q.ars[k]? = some a := ⟨q.ars[k]'(by omega), List.getElem?_eq_getElem (by omega)⟩
    obtain ⟨vv, e1, e2, D9, n9, c9, rfl, hOa⟩ := heA.2 k a hka
    obtain ⟨gsl, rfl, hgs1, hgsll⟩ := own_addr hoA (by omega)
    have hsl : w.cell? ⟨gsl, k * 2 + 1, none⟩ = some (.slice D9 n9 c9) := by
      have := hoA.cells (g := gsl) rfl (k * 2 + 1) _ e2
      rwa [add_flat, Nat.zero_add] at this
    injection e with e
    injection e with e1 e2
    subst e1
    subst e2
    rw [Nat.zero_add] at hc
    rw [hsl] at hc
    injection hc with hc
    injection hc with u1 u2 u3
    obtain ⟨A3, c3, e3, hle⟩ := hOa.form
    injection e3 with v1 v2 v3
    omega
set_option maxRecDepth 100000 in
set_option maxHeartbeats 1600000 in
theorem areaOfO_any (cs : List Value) (q : Qu) (t : Int) (w : World) (B : Nat) (hv0 : OwnQ w B cs q) :
    Calls Try.prog 15 #[.agg cs.toArray, .int .i64 t] w fun e w' => ∃ A n c, e = .returned (.slice A n c) ∧ RSl repOb 0 w' A n (areaQ q t) ∧ n ≤ maxLen ∧ n ≤ c ∧ Below w.heap.size w w' := by
  have hv := hv0.rep0
  obtain ⟨B0, m0, d0, B1, m1, d1, rfl, hr0, hm0, hr1, hm1⟩ := repQu_cells hv
  have HC := Lib.hid hv0.caps.2
  have hl1 := hr1.1
  unfold maxLen at hm1
  have b0 := below_box w (.cells #[.slice B0 m0 d0, .slice B1 m1 d1] 26)
  have x0 := Blk.new w 26 [.slice B0 m0 d0, .slice B1 m1 d1]
  obtain ⟨y0, y1⟩ := x0.cells2
  have hrv := hr1
  have hrw := hr1.next b0
  clear hv hr0 hr1
  have HL := Lib.hid hl1
  clear hl1
  go_enter Try.func15, Try.ntmps15
  go_wp2_with fail
  go_loop [5] (fun i => ∃ k : Nat, k ≤ m1 ∧ i = .int .i64 k ∧ Hid (∀ (j : Nat) (a : Ar), q.ars[j]? = some a → j < k → a.t ≠ t)) (fun i => m1 - (intOf i).toNat)
  case atStart => exact ⟨0, Nat.zero_le _, rfl, Lib.hid fun j a _ h => absurd h (by omega)⟩
  case round =>
    obtain ⟨k, hk, rfl, hno⟩ := hrel
    by_cases hlt : k < m1
    · obtain ⟨b, off, x, cs', rfl, hb, hx, hc0, hvx⟩ := hrv.at_ hlt
      obtain ⟨A1, n1, c1, rfl, hro0, hno1⟩ := repAr_cells hvx
      have hro := hro0.next b0
      have hcap : n1 ≤ c1 := HC.out k b off A1 n1 c1 hlt rfl (hc0 1 _ rfl)
      have c0 : (w.alloc (.cells #[.slice B0 m0 d0, .slice (some ⟨b, off, none⟩) m1 d1] 26)).cell? ⟨b, off + k * 2, none⟩ = some (.int .i64 x.t) := (b0.cell (p := ⟨b, off + k * 2, none⟩) hb).trans (hc0 0 _ rfl)
      have c1' : (w.alloc (.cells #[.slice B0 m0 d0, .slice (some ⟨b, off, none⟩) m1 d1] 26)).cell? ⟨b, off + k * 2 + 1, none⟩ = some (.slice A1 n1 c1) := (b0.cell (p := ⟨b, off + k * 2 + 1, none⟩) hb).trans (hc0 1 _ rfl)
      have HX := Lib.hid hx
      clear hx hc0 hvx hro0 hrv
      by_cases hxt : x.t = t
      · have hxb : (x.t == t) = true := by simp [hxt]
        have HA := Lib.hid (show areaQ q t = x.os by unfold areaQ; simp only [findA_some hno.out HX.out hxt, HX.out])
        go_wp2_with fail
        go_ret
        exact ⟨_, _, _, rfl, by rw [HA.out]; exact hro, hno1, hcap, b0⟩
      · have hxb : (x.t == t) = false := by simp [hxt]
        go_wp2_with fail
        go_round
        case rel => exact ⟨k + 1, by omega, by go_num, Lib.hid fun j a hj hjk => by
          by_cases e : j < k
          · exact hno.out j a hj e
          · obtain rfl : j = k := by omega
            rw [HX.out] at hj
            injection hj with hj
            subst hj
            exact hxt⟩
        case measure => simp [intOf]; omega
    · obtain rfl : k = m1 := by omega
      have HN := Lib.hid (findA_none (ars := q.ars) (t := t) fun j a hj => hno.out j a hj (by have := (List.getElem?_eq_some_iff.1 hj).1; have := HL.out; omega))
      have HA := Lib.hid (show areaQ q t = [] by unfold areaQ; simp only [HN.out])
      go_wp2_with fail
      go_ret
      exact ⟨_, 0, 0, rfl, by rw [HA.out]; exact RSl.nil _, by simp [maxLen], Nat.le_refl _, below_ext b0 (below_box _ _)⟩
end Go.Proofs.Ytjofgbbofagoiaa
/- The law FnQuarMissing, walked: for every code it answers true. -/
namespace Go.Proofs.Ytjofgbbofagoiaa
open Go.RowKit Go.Sort

theorem rsl_next {α : Type} {r : Rep α} {lo n : Nat} {w w' : World} {A : Option Addr} {xs : List α} (hb : Below w.heap.size w w') (h : RSl r lo w A n xs) : RSl r lo w' A n xs := h.next hb

set_option maxRecDepth 100000 in
set_option maxHeartbeats 3200000 in
theorem FnQuarMissing_walk (A : Option Addr) (n c : Nat) (w : World) (h : RBytes w w.heap.size A n ∧ n ≤ c) (hn : n ≤ maxLen) :
    Calls Try.prog 3 #[.slice A n c] w fun e w' => e = .returned (.bool true) ∧ Below w.heap.size w w' := by
  have hn0 := hn
  unfold maxLen at hn0
  by_cases hs : 1048576 < n
  · go_enter Try.func3, Try.ntmps3
    go_wp2_with fail
    go_ret
    exact ⟨rfl, Below.refl _ _⟩
  · go_enter Try.func3, Try.ntmps3
    go_wp2_with fail
    refine (DrawQuarantineMissing_any A n c w h.1 hn h.2).mono ?_
    rintro e w1 ⟨cs, q, t, F, nf, cf, fs, rfl, hQ, hownF, hnf, hb1⟩
    obtain ⟨RA, rn, rc, C, m, d, rfl, hqa, hqb⟩ := id hQ
    clear hqa hqb
    have hF1 := RInts.of_own hownF
    have eb := below_box w1 (.cells #[.slice RA rn rc, .slice C m d] 26)
    have x2 := Blk.new w1 26 [.slice RA rn rc, .slice C m d]
    have hQ2 := hQ.next eb
    have hF2 := hF1.below eb (Nat.le_refl _)
    have bb2 := below_ext hb1 eb
    obtain ⟨y0, y1⟩ := x2.cells2
    clear hQ hb1 eb hownF hF1
    go_wp2_with fail
    generalize w1.alloc (.cells #[.slice RA rn rc, .slice C m d] 26) = w2 at *
    generalize w1.heap.size = gq at *
    refine (implQuarantineMissing_any _ q t F nf cf fs w2 hQ2.rep0 hF2 (by simp only [maxLen]; omega)).mono ?_
    rintro e w3 ⟨B, d3, L, rfl, hL, hownL, hb3⟩
    have hQ3 := hQ2.next hb3
    have hF3 := hF2.below hb3 (Nat.le_refl _)
    have x3 := x2.next hb3
    have hR3 := RInts.of_own hownL
    have bb3 := below_ext bb2 hb3
    obtain ⟨z0, z1⟩ := x3.cells2
    clear hQ2 hF2 x2 y0 y1 bb2 hb3 hownL
    go_wp2_with fail
    refine (specQuarantineMissing_any _ q t F nf cf fs w3 hQ3.rep0 hF3 (by simp only [maxLen]; omega)).mono ?_
    rintro e w4 ⟨B4, d4, L4, rfl, hL4, hownL4, hb4⟩
    obtain rfl := hL.uniq hL4
    have hll := hL.len
    have hQ4 := hQ3.next hb4
    have hR4 := hR3.below hb4 (Nat.le_refl _)
    have hW4 := RInts.of_own hownL4
    have x4 := x3.next hb4
    have bb4 := below_ext bb3 hb4
    clear hQ3 hF3 x3 z0 z1 bb3 hb4 hownL4 hL4 hR3
    go_wp2_with fail
    refine (sameInts_any B B4 L.length d3 L.length d4 L L w4 hR4 hW4 (by simp only [maxLen]; omega) (by simp only [maxLen]; omega)).mono ?_
    rw [eqI_same]
    rintro e w5 ⟨rfl, hb5⟩
    have hQ5 := hQ4.next hb5
    have hR5 := hR4.below hb5 (Nat.le_refl _)
    have x5 := x4.next hb5
    have bb5 := below_ext bb4 hb5
    clear hQ4 hR4 hW4 x4 bb4 hb5
    have HA := Lib.hid hL.asc
    have HL := Lib.hid hL
    clear hL
    go_wp2_with fail
    go_loopw [8] (fun i wr => ∃ k : Nat, k ≤ L.length ∧ i = .int .i64 (k : Int) ∧ Below w5.heap.size w5 wr) (fun i _ => L.length - (intOf i).toNat)
    case atStart => exact ⟨0, Nat.zero_le _, rfl, Below.refl _ _⟩
    case round =>
      obtain ⟨k, hk, rfl, hbr⟩ := hrel
      have hxq := x5.next hbr
      obtain ⟨a0, a1⟩ := hxq.cells2
      have hQr := hQ5.next hbr
      have hRr := hR5.below hbr (Nat.le_refl _)
      by_cases hlt : k < L.length
      · obtain ⟨ad, x, rfl, hbl, hx, hcx⟩ := hRr.at_ hlt
        obtain ⟨s1, s2, n1, n2⟩ := HL.out.none (List.mem_of_getElem? hx)
        have hcr : rn ≤ rc := hQr.caps.1
        have hmn : RObjs wr RA rn q.main := hQr.main.1.reads
        have hrn : rn ≤ 16 := by have := hmn.1; have := (storeB_all s1).2; omega
        have hki : (k : Int) < (L.length : Int) := by omega
        have hk0 : (0 : Int) ≤ (k : Int) := by omega
        have HK := Lib.hid (fun (w' : World) (b : Below wr.heap.size wr w') => (⟨(b.cell (p := ⟨gq, 0, none⟩) hxq.lt).trans a0, (b.cell (p := ⟨gq, 1, none⟩) hxq.lt).trans a1, (b.cell (p := ad.add k) (by rw [block_of_add]; exact hbl)).trans hcx, b⟩ : w'.cell? ⟨gq, 0, none⟩ = some (.slice RA rn rc) ∧ w'.cell? ⟨gq, 1, none⟩ = some (.slice C m d) ∧ w'.cell? (ad.add k) = some (.int .i64 x) ∧ Below wr.heap.size wr w'))
        have hKM := Lib.hid (fun (W : World) (b : Below wr.heap.size wr W) => hmn.next b)
        have hKQ := Lib.hid (fun (W : World) (b : Below wr.heap.size wr W) => hQr.next b)
        have hbd : Below wr.heap.size wr wr.drew := (Below.refl _ _).drew
        have HN := Lib.hid (And.intro s2 n2)
        clear hx s2 n2 hmn
        go_wp2_with fail
        go_region_held3 (fun w' => w'.cell? ⟨gq, 0, none⟩ = some (.slice RA rn rc) ∧ w'.cell? ⟨gq, 1, none⟩ = some (.slice C m d) ∧ w'.cell? (ad.add k) = some (.int .i64 x) ∧ Below wr.heap.size wr w')
          (first
            | exact HK.out _ hbd
            | exact HK.out _ bz6
            | exact HK.out _ (Below.drew (below_box _ _))
            | exact HK.out _ (below_ext bz6 (below_box _ _))
            | exact HK.out _ (Below.drew (below_ext bz6 (below_box _ _)))
            | (refine HK.out _ ?_; repeat' (first | exact bz6 | exact below_ext bz6 (below_box _ _) | refine Below.drew ?_ | refine below_store ?_ (by first | exact bz6.size | exact Nat.le_refl _) _)))
          (first
            | (go_simp; go_at_call 14; with_reducible (show Calls _ _ _ (World.drew _) _); with_reducible (show Calls _ _ _ (World.drew (World.alloc _ _)) _); refine (sget_any RA rn rc q.main x _ (hKM.out _ (And.right (And.right (And.right (by assumption))))) (by simp only [maxLen]; omega) hcr s1).mono ?_
               rw [n1]
               rintro e w6 ⟨k6, t6, B6, m6, d6, rfl, h6, hm6, hb6⟩
               have bz6 : Below wr.heap.size wr w6 := below_ext (And.right (And.right (And.right (by assumption)))) hb6
               have xb := ((Blk.new wr 33 [.int .i64 0, .slice none 0 0, .string ⟨#[]⟩]).next (Below.drew (Below.refl _ _))).next hb6
               obtain ⟨v0, v1, v2⟩ := xb.cells3
               have f0 := xb.frozen 0
               have f1 := xb.frozen 1
               have f2 := xb.frozen 2)
            | (go_simp; go_at_call 14; refine (sget_any RA rn rc q.main x _ (hKM.out _ (And.right (And.right (And.right (by assumption))))) (by simp only [maxLen]; omega) hcr s1).mono ?_
               rw [n1]
               rintro e w6 ⟨k6, t6, B6, m6, d6, rfl, h6, hm6, hb6⟩
               have bz6 : Below wr.heap.size wr w6 := below_ext (And.right (And.right (And.right (by assumption)))) hb6))
        · have bz7 : Below wr.heap.size wr (w6.alloc (.cells #[.int .i64 k6, .slice B6 m6 d6, .string t6] 33)) := below_ext bz6 (below_box _ _)
          generalize w6.alloc (.cells #[.int .i64 k6, .slice B6 m6 d6, .string t6] 33) = w7 at *
          clear h6 hb6 bz6
          obtain ⟨c70, c71, c72, -⟩ := HK.out _ bz7
          have hk7 : gq < w7.heap.size := Nat.lt_of_lt_of_le hxq.lt bz7.size
          have HKB := Lib.hid (fun (w' : World) (b : Below w7.heap.size w7 w') => HK.out w' (below_ext bz7 b))
          have hbd7 : Below w7.heap.size w7 w7.drew := (Below.refl _ _).drew
          clear a0 a1 hcx
          go_wp2_with fail
          go_region_held3 (fun w' => w'.cell? ⟨gq, 0, none⟩ = some (.slice RA rn rc) ∧ w'.cell? ⟨gq, 1, none⟩ = some (.slice C m d) ∧ w'.cell? (ad.add k) = some (.int .i64 x) ∧ Below wr.heap.size wr w')
            (first
              | exact HKB.out _ hbd7
              | exact HK.out _ bz8
              | exact HK.out _ bz9
              | exact HKB.out _ (Below.drew (below_box _ _))
              | exact HK.out _ (below_ext bz8 (below_box _ _))
              | exact HK.out _ (below_ext bz9 (below_box _ _))
              | (refine HK.out _ ?_; repeat' (first | exact bz9 | exact below_ext bz9 (below_box _ _) | refine below_store ?_ (by first | exact bz9.size | exact bz8.size | exact bz7.size) _)))
            (first
              | (go_simp; go_at_call 15; with_reducible (show Calls _ _ _ (World.drew (World.alloc _ _)) _)
                 refine (areaOfO_any [.slice RA rn rc, .slice C m d] q t _ w.heap.size (hKQ.out _ (And.right (And.right (And.right (by assumption)))))).mono ?_
                 rintro e w8 ⟨A8, n8, c8, rfl, h8, hn8, hc8, hb8⟩
                 have bz8 : Below wr.heap.size wr w8 := below_ext (And.right (And.right (And.right (by assumption)))) hb8
                 have xb := ((Blk.new w7 33 [.int .i64 0, .slice none 0 0, .string ⟨#[]⟩]).next (Below.drew (Below.refl _ _))).next hb8
                 obtain ⟨v0, v1, v2⟩ := xb.cells3
                 have f0 := xb.frozen 0
                 have f1 := xb.frozen 1
                 have f2 := xb.frozen 2)
              | (go_simp; go_at_call 15; refine (areaOfO_any [.slice RA rn rc, .slice C m d] q t _ w.heap.size (hKQ.out _ (And.right (And.right (And.right (by assumption)))))).mono ?_
                 rintro e w8 ⟨A8, n8, c8, rfl, h8, hn8, hc8, hb8⟩
                 have bz8 : Below wr.heap.size wr w8 := below_ext (And.right (And.right (And.right (by assumption)))) hb8)
              | (go_simp; go_at_call 14; clear v0 v1 v2 f0 f1 f2; refine (sget_any A8 n8 c8 (areaQ q t) x _ (h8).robjs hn8 hc8 HN.out.1).mono ?_
                 rw [HN.out.2]
                 rintro e w9 ⟨k9, t9, B9, m9, d9, rfl, h9, hm9, hb9⟩
                 have bz9 : Below wr.heap.size wr w9 := below_ext (And.right (And.right (And.right (by assumption)))) hb9
                 have xb9 := xb.next hb9
                 obtain ⟨v0, v1, v2⟩ := xb9.cells3
                 have f0 := xb9.frozen 0
                 have f1 := xb9.frozen 1
                 have f2 := xb9.frozen 2)
              | (go_simp; go_at_call 14; with_reducible (show Calls _ _ _ (World.alloc _ _) _); refine (sget_any A8 n8 c8 (areaQ q t) x _ (rsl_next (below_box _ _) h8).robjs hn8 hc8 HN.out.1).mono ?_
                 rw [HN.out.2]
                 rintro e w9 ⟨k9, t9, B9, m9, d9, rfl, h9, hm9, hb9⟩
                 have bz9 : Below wr.heap.size wr w9 := below_ext (And.right (And.right (And.right (by assumption)))) hb9
                 have xb9 := (Blk.new w8 33 [.int .i64 0, .slice none 0 0, .string ⟨#[]⟩]).next hb9
                 obtain ⟨v0, v1, v2⟩ := xb9.cells3
                 have f0 := xb9.frozen 0
                 have f1 := xb9.frozen 1
                 have f2 := xb9.frozen 2)
              | (go_simp; go_at_call 14; refine (sget_any A8 n8 c8 (areaQ q t) x _ (h8).robjs hn8 hc8 HN.out.1).mono ?_
                 rw [HN.out.2]
                 rintro e w9 ⟨k9, t9, B9, m9, d9, rfl, h9, hm9, hb9⟩
                 have bz9 : Below wr.heap.size wr w9 := below_ext (And.right (And.right (And.right (by assumption)))) hb9))
          all_goals (
            go_wp2_with fail
            go_roundw
            case rel => exact ⟨k + 1, by omega, by go_num, below_ext hbr (by first | exact below_ext bz9 (below_box _ _) | exact below_store (below_store (below_store bz9 bz8.size _) bz8.size _) bz8.size _ | exact below_store (below_store (below_store bz9 bz7.size _) bz7.size _) bz7.size _)⟩
            case measure => simp [intOf]; omega)
        · have bz7 : Below wr.heap.size wr (((w6.setCell ⟨wr.heap.size, 0, none⟩ (.int .i64 k6)).setCell ⟨wr.heap.size, 1, none⟩ (.slice B6 m6 d6)).setCell ⟨wr.heap.size, 2, none⟩ (.string t6)) := below_store (below_store (below_store bz6 (Nat.le_refl _) _) (Nat.le_refl _) _) (Nat.le_refl _) _
          generalize ((w6.setCell ⟨wr.heap.size, 0, none⟩ (.int .i64 k6)).setCell ⟨wr.heap.size, 1, none⟩ (.slice B6 m6 d6)).setCell ⟨wr.heap.size, 2, none⟩ (.string t6) = w7 at *
          clear h6 hb6 bz6 v0 v1 v2 f0 f1 f2 xb
          obtain ⟨c70, c71, c72, -⟩ := HK.out _ bz7
          have hk7 : gq < w7.heap.size := Nat.lt_of_lt_of_le hxq.lt bz7.size
          have HKB := Lib.hid (fun (w' : World) (b : Below w7.heap.size w7 w') => HK.out w' (below_ext bz7 b))
          have hbd7 : Below w7.heap.size w7 w7.drew := (Below.refl _ _).drew
          clear a0 a1 hcx
          go_wp2_with fail
          go_region_held3 (fun w' => w'.cell? ⟨gq, 0, none⟩ = some (.slice RA rn rc) ∧ w'.cell? ⟨gq, 1, none⟩ = some (.slice C m d) ∧ w'.cell? (ad.add k) = some (.int .i64 x) ∧ Below wr.heap.size wr w')
            (first
              | exact HKB.out _ hbd7
              | exact HK.out _ bz8
              | exact HK.out _ bz9
              | exact HKB.out _ (Below.drew (below_box _ _))
              | exact HK.out _ (below_ext bz8 (below_box _ _))
              | exact HK.out _ (below_ext bz9 (below_box _ _))
              | (refine HK.out _ ?_; repeat' (first | exact bz9 | exact below_ext bz9 (below_box _ _) | refine below_store ?_ (by first | exact bz9.size | exact bz8.size | exact bz7.size) _)))
            (first
              | (go_simp; go_at_call 15; with_reducible (show Calls _ _ _ (World.drew (World.alloc _ _)) _)
                 refine (areaOfO_any [.slice RA rn rc, .slice C m d] q t _ w.heap.size (hKQ.out _ (And.right (And.right (And.right (by assumption)))))).mono ?_
                 rintro e w8 ⟨A8, n8, c8, rfl, h8, hn8, hc8, hb8⟩
                 have bz8 : Below wr.heap.size wr w8 := below_ext (And.right (And.right (And.right (by assumption)))) hb8
                 have xb := ((Blk.new w7 33 [.int .i64 0, .slice none 0 0, .string ⟨#[]⟩]).next (Below.drew (Below.refl _ _))).next hb8
                 obtain ⟨v0, v1, v2⟩ := xb.cells3
                 have f0 := xb.frozen 0
                 have f1 := xb.frozen 1
                 have f2 := xb.frozen 2)
              | (go_simp; go_at_call 15; refine (areaOfO_any [.slice RA rn rc, .slice C m d] q t _ w.heap.size (hKQ.out _ (And.right (And.right (And.right (by assumption)))))).mono ?_
                 rintro e w8 ⟨A8, n8, c8, rfl, h8, hn8, hc8, hb8⟩
                 have bz8 : Below wr.heap.size wr w8 := below_ext (And.right (And.right (And.right (by assumption)))) hb8)
              | (go_simp; go_at_call 14; clear v0 v1 v2 f0 f1 f2; refine (sget_any A8 n8 c8 (areaQ q t) x _ (h8).robjs hn8 hc8 HN.out.1).mono ?_
                 rw [HN.out.2]
                 rintro e w9 ⟨k9, t9, B9, m9, d9, rfl, h9, hm9, hb9⟩
                 have bz9 : Below wr.heap.size wr w9 := below_ext (And.right (And.right (And.right (by assumption)))) hb9
                 have xb9 := xb.next hb9
                 obtain ⟨v0, v1, v2⟩ := xb9.cells3
                 have f0 := xb9.frozen 0
                 have f1 := xb9.frozen 1
                 have f2 := xb9.frozen 2)
              | (go_simp; go_at_call 14; with_reducible (show Calls _ _ _ (World.alloc _ _) _); refine (sget_any A8 n8 c8 (areaQ q t) x _ (rsl_next (below_box _ _) h8).robjs hn8 hc8 HN.out.1).mono ?_
                 rw [HN.out.2]
                 rintro e w9 ⟨k9, t9, B9, m9, d9, rfl, h9, hm9, hb9⟩
                 have bz9 : Below wr.heap.size wr w9 := below_ext (And.right (And.right (And.right (by assumption)))) hb9
                 have xb9 := (Blk.new w8 33 [.int .i64 0, .slice none 0 0, .string ⟨#[]⟩]).next hb9
                 obtain ⟨v0, v1, v2⟩ := xb9.cells3
                 have f0 := xb9.frozen 0
                 have f1 := xb9.frozen 1
                 have f2 := xb9.frozen 2)
              | (go_simp; go_at_call 14; refine (sget_any A8 n8 c8 (areaQ q t) x _ (h8).robjs hn8 hc8 HN.out.1).mono ?_
                 rw [HN.out.2]
                 rintro e w9 ⟨k9, t9, B9, m9, d9, rfl, h9, hm9, hb9⟩
                 have bz9 : Below wr.heap.size wr w9 := below_ext (And.right (And.right (And.right (by assumption)))) hb9))
          all_goals (
            go_wp2_with fail
            go_roundw
            case rel => exact ⟨k + 1, by omega, by go_num, below_ext hbr (by first | exact below_ext bz9 (below_box _ _) | exact below_store (below_store (below_store bz9 bz8.size _) bz8.size _) bz8.size _ | exact below_store (below_store (below_store bz9 bz7.size _) bz7.size _) bz7.size _)⟩
            case measure => simp [intOf]; omega)
      · obtain rfl : k = L.length := by omega
        go_wp2_with fail
        refine (ascending_any B L.length d3 L wr hRr (by simp only [maxLen]; omega) HA.out).mono ?_
        rintro e w9 ⟨rfl, hb9⟩
        go_wp2_with fail
        go_ret
        exact ⟨rfl, below_ext bb5 (below_ext hbr hb9)⟩
end Go.Proofs.Ytjofgbbofagoiaa
/- The statement FnQuarMissingSaid: for every input FnQuarMissing answers true and leaves its arguments as they were. No condition. -/
namespace Go.Proofs.Ytjofgbbofagoiaa
open Go.ChangeShapes Go.WideShapes Go.ChangeAt Go.RowKit Go.Joins Go.Deep

theorem Try.own : ownKnob Try.prog.godebug = none := by kernel_rfl
theorem Try.laidOut : laidOutB Try.prog = true := by kernel_rfl
theorem Try.cellsByte : Try.prog.cellsOf 5 = 1 := by kernel_rfl

set_option maxRecDepth 100000 in
theorem FnQuarMissing_lifted (os : Os) (started : os.Started) (H : Type) (enc : TypeId × Value → H) :
    ReturnsInHanded {} Try.checked os 3 .any (Rows.fnQuarMissingSpec.pre6 enc Try.prog Try.f3 Rows.fnQuarMissingRow.domain false) (Rows.fnQuarMissingSpec.post enc Try.prog Try.f3 false true false false) := by
  refine returnsInHanded_of_change (C := Try.checked) Try.own started (by kernel_rfl) Try.func3
    (ChangeSpec.witness6 (enc := enc) (C := Try.checked) false ⟨#[], #[.slice none 0 0], []⟩ 8 (by kernel_rfl) (by kernel_rfl) (by kernel_rfl) (by kernel_rfl)) ?_
  intro W base args ds gs before hval0 hW _ _
  have hval : ∀ (j : Nat) t v, Try.f3.params[j]? = some t → args[j]? = some v → Value.okWide Try.prog W .any base t v := hval0
  have hW' := hW
  obtain ⟨p, q, hA0, hV, rfl, _, _⟩ := hW
  have hA : DataW.TrodAll enc Try.prog W 0 (fun _ => true) true Try.f3.params.toList args.toList ds p := hA0
  rw [Try.params3] at hA hval
  obtain ⟨v0, d0, rfl, rfl, h0⟩ := trodAll_one hA
  obtain ⟨rfl, rfl⟩ := trodVars_none hV
  obtain ⟨A0, n0, c0, rfl, hr0, hn0⟩ := open_bytes Try.underlying22 Try.underlying5 Try.cellsByte (hval 0 _ v0 rfl rfl) h0
  clear hA0 hval0
  simp only [List.append_nil] at hW'
  have hlt : ∀ x ∈ p, x.block < W.heap.size := fun x hx => hW'.lt x (by simpa using hx)
  refine (FnQuarMissing_walk A0 n0 c0 W hr0 hn0).mono fun e W' ⟨he, hb⟩ => ?_
  subst he
  exact ⟨_, rfl, post_of_below (pa := p) (pv := []) hW' (fun _ _ _ => trodAll_mk1 (shut_bool Try.underlying4 true))
    (fun sp hsp => trodAll_mk1 (arg_stays Try.laidOut (by kernel_rfl) (of_decide_eq_true (by kernel_rfl)) h0 hb hlt hsp)) (fun _ _ => rfl) (by simp) hb
    (ok_one (by kernel_rfl) rfl (okWide_bool_mk Try.underlying4 true))⟩

theorem FnQuarMissing_holds : Rows.FnQuarMissingSaid :=
  OpenClaim.holds_of_wide 3 Try.f3 rfl rfl rfl rfl rfl rfl rfl ⟨rfl, rfl, rfl, rfl, rfl⟩ rfl rfl rfl rfl rfl (by kernel_rfl) Try.func3 (by kernel_rfl)
    (of_decide_eq_true (by kernel_rfl)) (by unfold Func.isWrapper; rw [if_neg (of_decide_eq_false (by kernel_rfl))]; exact ⟨rfl, rfl⟩)
    (fun os started H enc _ => FnQuarMissing_lifted os started H enc)
end Go.Proofs.Ytjofgbbofagoiaa
