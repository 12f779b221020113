/- Walks: StoreGet, the program's and the reference's. -/
import Derived.Test.YtjofgbbofagoiaaFind
import Derived.Test.YtjofgbbofagoiaaImplCopy
namespace Go.Proofs.Ytjofgbbofagoiaa
open Go.RowKit Go.Sort

def zeroO : Ob := ⟨0, [], ⟨#[]⟩⟩
/-- what StoreGet finds -/
def getR (os : List Ob) (z : Int) : Option Ob := if storeB os && hasO os z then os[posO os z]? else none
def GetTo (w : World) (r : Option Ob) (e : Ending) (w' : World) : Prop := ∃ A m c, e = .returned (.tuple #[.agg #[.int .i64 (r.getD zeroO).k, .slice A m c, .string (r.getD zeroO).t], .bool r.isSome]) ∧ LinkIn w' w.heap.size A m (r.getD zeroO).xs ∧ m ≤ maxLen ∧ (r.getD zeroO).t.size ≤ maxLen ∧ Below w.heap.size w w'

theorem hasO_at {os : List Ob} {z : Int} (h : hasO os z = true) : ∃ x, os[posO os z]? = some x ∧ x.id = z := by
  unfold hasO at h
  split at h
  · rename_i x hx; exact ⟨x, hx, of_decide_eq_true h⟩
  · cases h
theorem storeB_asc {os : List Ob} (h : storeB os = true) : ascO os = true := by unfold storeB at h; rw [Bool.and_eq_true] at h; exact h.1
theorem storeB_ok {os : List Ob} (h : storeB os = true) : ∀ x ∈ os, x.ok = true := ((storeB_iff os).1 h).1
theorem storeB_len {os : List Ob} (h : storeB os = true) : os.length ≤ 16 := ((storeB_iff os).1 h).2.2
theorem storeB_small {os : List Ob} (h : storeB os = true) : smallOs os := fun o ho => by
  have := (ObjOk.of (storeB_ok h o ho)).len; omega
theorem hasO_id {os : List Ob} {z : Int} (hs : storeB os = true) (h : hasO os z = true) : idB z = true := by
  obtain ⟨x, hx, hz⟩ := hasO_at h
  have := idV_bd (ObjOk.of (storeB_ok hs x (List.mem_of_getElem? hx)))
  have hz' : idV x.k x.xs x.t = z := hz
  unfold idB
  rw [Bool.and_eq_true, decide_eq_true_eq, decide_eq_true_eq]
  omega
theorem getR_no {os : List Ob} {z : Int} (h : storeB os = false) : getR os z = none := by simp [getR, h]
theorem getR_none {os : List Ob} {z : Int} (h : hasO os z = false) : getR os z = none := by simp [getR, h]
theorem getR_some {os : List Ob} {z : Int} {x : Ob} (hs : storeB os = true) (h : hasO os z = true) (hx : os[posO os z]? = some x) : getR os z = some x := by simp [getR, h, hs, hx]

/-- the result's variable is written -/
theorem res_put {w w1 : World} {cs : List Value} (hb : Below w.heap.size w w1) (hR : Blk w1 w.heap.size 33 cs) (u0 u1 u2 : Value) :
    Below w.heap.size w (((w1.setCell ⟨w.heap.size, 0, none⟩ u0).setCell ⟨w.heap.size, 1, none⟩ u1).setCell ⟨w.heap.size, 2, none⟩ u2) ∧
    ∀ {C : Nat} {A : Option Addr} {m : Nat} {xs : List Int}, LinkIn w1 C A m xs → LinkIn (((w1.setCell ⟨w.heap.size, 0, none⟩ u0).setCell ⟨w.heap.size, 1, none⟩ u1).setCell ⟨w.heap.size, 2, none⟩ u2) C A m xs := by
  have hgr := grown_setCell (i := 2) (grown_setCell (i := 1) (grown_setCell (i := 0) (World.grownBy.refl w1 (some w.heap.size)) u0) u1) u2
  refine ⟨below_store (below_store (below_store hb (Nat.le_refl _) u0) (Nat.le_refl _) u1) (Nat.le_refl _) u2, fun hx => hx.grown hgr fun g e => Or.inr ?_⟩
  injection e with e; subst e
  exact ⟨_, _, _, hR, by decide⟩
theorem linkIn_none {w : World} {C : Nat} : LinkIn w C none 0 [] := ⟨⟨rfl, fun h => absurd h (by omega)⟩, fun ad e => by cases e⟩

set_option maxHeartbeats 1600000 in
theorem implStoreGet_any (A : Option Addr) (n c : Nat) (os : List Ob) (z : Int) (w : World) (h : RObjs w A n os) (hn : n ≤ maxLen) (hcap : n ≤ c) :
    Calls Try.prog 14 #[.slice A n c, .int .i64 z] w (GetTo w (getR os z)) := by
  have hl := h.1
  have hR := Blk.new w 33 [.int .i64 0, .slice none 0 0, .string ⟨#[]⟩]
  have b1 := below_box w (.cells #[.int .i64 0, .slice none 0 0, .string ⟨#[]⟩] 33)
  have h1 := h.next b1
  go_enter Try.func14, Try.ntmps14
  go_wp2_with fail
  refine (implStoreValid_any A n c os _ h1 hn).mono ?_
  rintro e w1 ⟨rfl, hb1⟩
  have hR1 := hR.next hb1
  have b2 := below_ext b1 hb1
  obtain ⟨s0, s1, s2⟩ := hR1.cells3
  have f0 := hR1.frozen 0
  have f1 := hR1.frozen 1
  have f2 := hR1.frozen 2
  have ret0 : GetTo w none (.returned (.tuple #[.agg #[.int .i64 0, .slice none 0 0, .string ⟨#[]⟩], .bool false])) (((w1.setCell ⟨w.heap.size, 0, none⟩ (.int .i64 0)).setCell ⟨w.heap.size, 1, none⟩ (.slice none 0 0)).setCell ⟨w.heap.size, 2, none⟩ (.string ⟨#[]⟩)) :=
    ⟨none, 0, 0, rfl, linkIn_none, by simp only [maxLen]; omega, by show (0 : Nat) ≤ _; exact Nat.zero_le _, (res_put b2 hR1 _ _ _).1⟩
  have HR0 := Lib.hid ret0
  clear ret0
  cases hv : storeB os
  · have HG := Lib.hid (getR_no (z := z) hv)
    go_wp2_with fail
    refine bodyPost_ret (v := .tuple #[.agg #[.int .i64 0, .slice none 0 0, .string ⟨#[]⟩], .bool false]) (by simp [results, Try.results14, go_sem, s0, s1, s2]) rfl (by rw [HG.out]; exact HR0.out)
  · have hl16 := storeB_len hv
    cases hid : idB z
    · have hh : hasO os z = false := by
        cases hh : hasO os z
        · rfl
        · rw [hasO_id hv hh] at hid; cases hid
      have HG := Lib.hid (getR_none hh)
      go_wp2_with (go_at_call 52; refine (isId_any _ _).mono ?_; rintro e w2 ⟨rfl, rfl⟩)
      refine bodyPost_ret (v := .tuple #[.agg #[.int .i64 0, .slice none 0 0, .string ⟨#[]⟩], .bool false]) (by simp [results, Try.results14, go_sem, s0, s1, s2]) rfl (by rw [HG.out]; exact HR0.out)
    · have hz : 0 ≤ z ∧ z ≤ 990 := by
        unfold idB at hid; rw [Bool.and_eq_true, decide_eq_true_eq, decide_eq_true_eq] at hid; exact hid
      clear HR0
      go_wp2_with (go_at_call 52; refine (isId_any _ _).mono ?_; rintro e w2 ⟨rfl, rfl⟩)
      refine (findObject_any A n c os z _ (h1.next hb1) (by omega) (storeB_asc hv) hz.1 (by omega)).mono ?_
      rintro e w2 ⟨rfl, hb2⟩
      have hR2 := hR1.next hb2
      have b3 := below_ext b2 hb2
      obtain ⟨s0, s1, s2⟩ := hR2.cells3
      have f0 := hR2.frozen 0
      have f1 := hR2.frozen 1
      have f2 := hR2.frozen 2
      cases hh : hasO os z
      · have HG := Lib.hid (getR_none hh)
        go_wp2_with fail
        refine bodyPost_ret (v := .tuple #[.agg #[.int .i64 0, .slice none 0 0, .string ⟨#[]⟩], .bool false]) (by simp [results, Try.results14, go_sem, s0, s1, s2]) rfl
          (by rw [HG.out]; exact ⟨none, 0, 0, rfl, linkIn_none, by simp only [maxLen]; omega, by show (0 : Nat) ≤ _; exact Nat.zero_le _, (res_put b3 hR2 _ _ _).1⟩)
      · obtain ⟨x, hx, hxz⟩ := hasO_at hh
        have HG := Lib.hid (getR_some hv hh hx)
        have hat : posO os z < n := by have := (List.getElem?_eq_some_iff.1 hx).1; omega
        generalize posO os z = k at *
        have h3 := (h1.next hb1).next hb2
        obtain ⟨b, off, x', rfl, hb, hx', hob⟩ := h3.at_ hat
        obtain rfl : x = x' := by rw [hx] at hx'; injection hx'
        have i1 : (0 : Int) ≤ (k : Int) := by omega
        have i2 : (k : Int) + 1 ≤ (c : Int) := by omega
        have i3 : IntKind.i64.wrap ((k : Int) + 1) = (k : Int) + 1 := by rw [IntKind.wrap_i64]; omega
        have i4 : (k : Int) ≤ (k : Int) + 1 := by omega
        have i5 : ¬ (c = k) := by omega
        have hsub : RObjs w2 (some ⟨b, off + k * 3, none⟩) 1 [x] := ⟨rfl, fun _ => ⟨b, off + k * 3, rfl, hb, fun i o ho => by
          cases i with
          | zero => simp at ho; subst ho; simpa using hob
          | succ i => simp at ho⟩⟩
        have hsm : smallOs [x] := fun o ho => by simp at ho; subst ho; exact storeB_small hv _ (List.mem_of_getElem? hx)
        have HX := Lib.hid hx
        have HZ := Lib.hid hxz
        clear hx hx' hxz
        go_wp2_with fail
        refine (copyObjects_any _ 1 (c - k) [x] _ hsub (by omega) hsm).mono ?_
        rintro e w3 ⟨v3, rfl, hO3, hb3⟩
        obtain ⟨cs, hown, hel⟩ := hO3
        obtain ⟨A3, c3, rfl, -⟩ := own_form hown
        obtain ⟨g, rfl, hg1, hg2⟩ := own_addr hown (by omega)
        obtain ⟨A', m', d', e0, e1, e2, hlk, hm', ht'⟩ := hel.2 0 x rfl
        have c0 := own_cellsOf hown _ _ e0
        have c1 := own_cellsOf hown _ _ e1
        have c2 := own_cellsOf hown _ _ e2
        simp only [Nat.zero_mul, Nat.zero_add] at c0 c1 c2
        have hR3 := hR2.next hb3
        have b4 := below_ext b3 hb3
        obtain ⟨s0, s1, s2⟩ := hR3.cells3
        have f0 := hR3.frozen 0
        have f1 := hR3.frozen 1
        have f2 := hR3.frozen 2
        clear e0 e1 e2
        go_wp2_with fail
        refine bodyPost_ret (v := .tuple #[.agg #[.int .i64 x.k, .slice A' m' d', .string x.t], .bool true]) (by simp [results, Try.results14, go_sem, s0, s1, s2]) rfl ?_
        rw [HG.out]
        exact ⟨A', m', d', rfl, (res_put b4 hR3 _ _ _).2 (hlk.base b3.size), hm', ht', (res_put b4 hR3 _ _ _).1⟩

def locO (os : List Ob) (z : Int) : Int := if hasO os z then (posO os z : Int) else -1
theorem locO_at {os : List Ob} {z : Int} {k : Nat} {x : Ob} (ha : ascO os = true) (hx : os[k]? = some x) (he : x.id = z) : hasO os z = true ∧ posO os z = k := by
  have hk : k < os.length := (List.getElem?_eq_some_iff.1 hx).1
  have hp : posO os z = k := posO_eq os z k (by omega) (fun j y hj hy => by have := asc_lt ha hj hy hx; omega) (fun y hy => by rw [hx] at hy; injection hy with hy; subst hy; omega)
  refine ⟨?_, hp⟩
  unfold hasO
  rw [hp, hx]
  exact decide_eq_true he

set_option maxHeartbeats 1600000 in
theorem l1Get_any (A : Option Addr) (n c : Nat) (os : List Ob) (z : Int) (w : World) (h : RObjs w A n os) (hn : n ≤ 1000000) (ha : ascO os = true) :
    Calls Try.prog 90 #[.slice A n c, .int .i64 z] w fun e w' => e = .returned (.int .i64 (locO os z)) ∧ Below w.heap.size w w' := by
  have hl := h.1
  go_enter Try.func90, Try.ntmps90
  go_wp2_with fail
  go_loopw [5] (fun i wr => ∃ k : Nat, k ≤ n ∧ i = .int .i64 k ∧ Hid (∀ (q : Nat) (x : Ob), q < k → os[q]? = some x → x.id = z → False) ∧ Below w.heap.size w wr) (fun i _ => n - (intOf i).toNat)
  case atStart => exact ⟨0, Nat.zero_le _, rfl, (show ∀ (q : Nat) (x : Ob), q < 0 → os[q]? = some x → x.id = z → False from fun q x hq => absurd hq (by omega)), Below.refl _ _⟩
  case round =>
    obtain ⟨k, hk, rfl, hP, hbr⟩ := hrel
    by_cases hlt : k < n
    · obtain ⟨b, off, x, rfl, hb, hx, hob⟩ := (h.next hbr).at_ (k := k) hlt
      obtain ⟨B', m', d', c0, c1, c2, hri, hm, ht⟩ := hob
      have hxo : ObjOk x.k x.xs x.t := ObjOk.of (chainB_mem _ _ ha x (List.mem_of_getElem? hx))
      have HX := Lib.hid hx
      clear hx
      go_wp2_with fail
      refine (l1Of_any _ _ _ _ x.xs _ _ hri hxo).mono ?_
      rintro e w2 ⟨rfl, hb2⟩
      cases hd : (idV x.k x.xs x.t == z)
      · have HD := Lib.hid hd
        go_wp2_with fail
        go_roundw
        case rel => exact ⟨k + 1, by omega, by go_num, (show ∀ (q : Nat) (y : Ob), q < k + 1 → os[q]? = some y → y.id = z → False from fun q y hq hy he => by
          by_cases hqk : q < k
          · exact hP.out q y hqk hy he
          · obtain rfl : q = k := by omega
            rw [HX.out] at hy; injection hy with hy; subst hy
            have he' : idV x.k x.xs x.t = z := he
            have := HD.out
            rw [he'] at this
            simp at this), below_ext hbr hb2⟩
        case measure => simp [intOf]; omega
      · have he : x.id = z := beq_iff_eq.1 hd
        have hq := locO_at ha HX.out he
        have HQ := Lib.hid hq
        clear hq he
        go_wp2_with fail
        go_ret
        refine ⟨?_, below_ext hbr hb2⟩
        unfold locO
        rw [HQ.out.1, HQ.out.2, if_pos rfl]
        rfl
    · obtain rfl : k = n := by omega
      have hno : hasO os z = false := by
        cases hh : hasO os z
        · rfl
        · obtain ⟨x, hx, he⟩ := hasO_at hh
          exact (hP.out _ x (by have := (List.getElem?_eq_some_iff.1 hx).1; omega) hx he).elim
      have HN := Lib.hid hno
      clear hno
      go_wp2_with fail
      go_ret
      refine ⟨?_, hbr⟩
      unfold locO
      rw [HN.out]
      rfl

theorem eqV_refl (o : Ob) : ((o.k == o.k) && eqI o.xs o.xs && (o.t.toList == o.t.toList)) = true := by simp [eqI]
theorem getR_data {os : List Ob} {z : Int} {x : Ob} (h : getR os z = some x) : x.ok = true ∧ x.id = z := by
  unfold getR at h
  split at h
  · rename_i hc
    rw [Bool.and_eq_true] at hc
    obtain ⟨y, hy, he⟩ := hasO_at hc.2
    rw [hy] at h; injection h with h; subst h
    exact ⟨storeB_ok hc.1 _ (List.mem_of_getElem? hy), he⟩
  · cases h

end Go.Proofs.Ytjofgbbofagoiaa
