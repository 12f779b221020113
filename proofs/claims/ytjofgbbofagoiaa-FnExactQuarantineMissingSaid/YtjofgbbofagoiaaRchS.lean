/- Walks: the reference's l1Get on any list, l1Reach, l1Missing. -/
import Derived.Test.YtjofgbbofagoiaaRchPlain
import Derived.Test.YtjofgbbofagoiaaClone
import Derived.Test.YtjofgbbofagoiaaId
namespace Go.Proofs.Ytjofgbbofagoiaa
open Go.RowKit Go.Sort

/-- the place of the first object with an id, or -1 -/
def IsLoc (os : List Ob) (z : Int) (v : Int) : Prop := match getO os z with
  | some o => ∃ k : Nat, v = (k : Int) ∧ os[k]? = some o
  | none => v = -1
theorem getO_at {os : List Ob} {z : Int} {k : Nat} {o : Ob} (h : ∀ (q : Nat) (x : Ob), q < k → os[q]? = some x → x.id = z → False) (ho : os[k]? = some o) (he : o.id = z) : getO os z = some o := by
  unfold getO
  rw [List.find?_eq_some_iff_getElem]
  obtain ⟨h1, h2⟩ := List.getElem?_eq_some_iff.1 ho
  refine ⟨by simpa using he, k, h1, h2, fun q hq => ?_⟩
  have := h q _ hq (List.getElem?_eq_getElem (by omega))
  simpa using this
theorem getO_no {os : List Ob} {z : Int} (h : ∀ (q : Nat) (x : Ob), os[q]? = some x → x.id = z → False) : getO os z = none := by
  unfold getO
  rw [List.find?_eq_none]
  intro x hx
  obtain ⟨q, hq⟩ := List.mem_iff_getElem?.1 hx
  simpa using h q x hq
set_option maxRecDepth 100000 in
set_option maxHeartbeats 1600000 in
theorem l1GetF_any (A : Option Addr) (n c : Nat) (os : List Ob) (z : Int) (w : World) (h : RObjs w A n os) (hn : n ≤ 1000000) (ha : ∀ o ∈ os, o.ok = true) :
    Calls Try.prog 90 #[.slice A n c, .int .i64 z] w fun e w' => (∃ v, e = .returned (.int .i64 v) ∧ IsLoc os z v) ∧ Below w.heap.size w w' := by
  have HL := Lib.hid h.1
  go_enter Try.func90, Try.ntmps90
  go_wp2_with fail
  go_loopw [5] (fun i wr => ∃ k : Nat, k ≤ n ∧ i = .int .i64 k ∧ Hid (∀ (q : Nat) (x : Ob), q < k → os[q]? = some x → x.id = z → False) ∧ Below w.heap.size w wr) (fun i _ => n - (intOf i).toNat)
  case atStart => exact ⟨0, Nat.zero_le _, rfl, (show ∀ (q : Nat) (x : Ob), q < 0 → os[q]? = some x → x.id = z → False from fun q x hq => absurd hq (by omega)), Below.refl _ _⟩
  case round =>
    obtain ⟨k, hk, rfl, hP, hbr⟩ := hrel
    by_cases hlt : k < n
    · obtain ⟨b, off, x, rfl, hb, hx, hob⟩ := (h.next hbr).at_ (k := k) hlt
      obtain ⟨B', m', d', c0, c1, c2, hri, hm, ht⟩ := hob
      have hxo : ObjOk x.k x.xs x.t := ObjOk.of (ha x (List.mem_of_getElem? hx))
      have HX := Lib.hid hx
      clear hx
      go_wp2_with fail
      refine (l1Of_any _ _ _ _ x.xs _ _ hri hxo).mono ?_
      rintro e w2 ⟨rfl, hb2⟩
      cases hd : (idV x.k x.xs x.t == z)
      · have HD := Lib.hid hd
        go_wp2_with fail
        go_roundw
        case rel => exact ⟨k + 1, by omega, by go_num, (show ∀ (q : Nat) (y : Ob), q < k + 1 → os[q]? = some y → y.id = z → False from fun q y hq hy he => by
          by_cases hqk : q < k
          · exact hP.out q y hqk hy he
          · obtain rfl : q = k := by omega
            rw [HX.out] at hy; injection hy with hy; subst hy
            have he' : idV x.k x.xs x.t = z := he
            have := HD.out
            rw [he'] at this
            simp at this), below_ext hbr hb2⟩
        case measure => simp [intOf]; omega
      · have he : x.id = z := beq_iff_eq.1 hd
        have HG := Lib.hid (getO_at hP.out HX.out he)
        go_wp2_with fail
        go_ret
        refine ⟨⟨_, rfl, ?_⟩, below_ext hbr hb2⟩
        unfold IsLoc
        rw [HG.out]
        exact ⟨k, rfl, HX.out⟩
    · obtain rfl : k = n := by omega
      have HG := Lib.hid (getO_no (os := os) (z := z) fun q x hx he => hP.out q x (by have := (List.getElem?_eq_some_iff.1 hx).1; have := HL.out; omega) hx he)
      go_wp2_with fail
      go_ret
      refine ⟨⟨_, rfl, ?_⟩, hbr⟩
      unfold IsLoc
      rw [HG.out]
/-- where the reference's search stands -/
structure SInv (os : List Ob) (fs O : List Int) (i : Nat) : Prop where
  seen : ∀ x ∈ O, Rch os fs x
  all : ∀ x ∈ fs, x ∈ O
  nd : O.Nodup
  le : i ≤ O.length
  next : ∀ (q : Nat) (x : Int), q < i → O[q]? = some x → ∀ y ∈ lnk os x, y ∈ O
section
variable {os : List Ob} {fs O : List Int} {i : Nat} {x y : Int}
theorem SInv.start (h : fs.Nodup) : SInv os fs fs 0 := ⟨fun _ h => .base h, fun _ h => h, h, Nat.zero_le _, fun _ _ h => absurd h (by omega)⟩
theorem SInv.add (h : SInv os fs O i) (hx : x ∈ O) (hy : y ∈ lnk os x) (hn : y ∉ O) : SInv os fs (O ++ [y]) i where
  seen := fun z hz => (List.mem_append.1 hz).elim (h.seen z) fun h1 => by rw [List.mem_singleton.1 h1]; exact .step (h.seen x hx) hy
  all := fun z hz => List.mem_append_left _ (h.all z hz)
  nd := by
    rw [List.nodup_append]
    exact ⟨h.nd, by simp, fun a ha b hb e => hn (by
      have : b = y := by simpa using hb
      exact this ▸ e ▸ ha)⟩
  le := by have := h.le; rw [List.length_append]; omega
  next := fun q z hq hz y' hy' => by
    rw [List.getElem?_append_left (Nat.lt_of_lt_of_le hq h.le)] at hz
    exact List.mem_append_left _ (h.next q z hq hz y' hy')
theorem SInv.step (h : SInv os fs O i) (hx : O[i]? = some x) (hl : ∀ y ∈ lnk os x, y ∈ O) : SInv os fs O (i + 1) where
  seen := h.seen
  all := h.all
  nd := h.nd
  le := (List.getElem?_eq_some_iff.1 hx).1
  next := fun q z hq hz => by
    by_cases e : q < i
    · exact h.next q z e hz
    · obtain rfl : q = i := by omega
      rw [hx] at hz
      injection hz with hz
      subst hz
      exact hl
theorem SInv.done (h : SInv os fs O O.length) (z : Int) : z ∈ O ↔ Rch os fs z :=
  ⟨h.seen z, Rch.closed (S := fun x => x ∈ O) h.all (fun x hx => by
    obtain ⟨q, hq⟩ := List.mem_iff_getElem?.1 hx
    exact h.next q x (List.getElem?_eq_some_iff.1 hq).1 hq) z⟩
theorem SInv.small (h : SInv os fs O i) (ho : ∀ o ∈ os, o.ok = true) (hf : ∀ x ∈ fs, inR x) : O.length ≤ 991 := nodup_len h.nd fun x hx => Rch.range ho hf x (h.seen x hx)
end
theorem add_fls (b off n : Nat) : (⟨b, off, none⟩ : Addr).add n = ⟨b, off + n, none⟩ := by simp [Addr.add]
theorem asc_nodup {fs : List Int} (h : fs.Pairwise (· < ·)) : fs.Nodup := h.imp fun h e => by omega
set_option maxRecDepth 100000 in
set_option maxHeartbeats 3200000 in
theorem l1Reach_any (A : Option Addr) (n c : Nat) (os : List Ob) (F : Option Addr) (m d : Nat) (fs : List Int) (w : World) (h : RObjs w A n os) (hn : n ≤ 1000000) (ha : ∀ o ∈ os, o.ok = true) (hf : RInts w F m fs) (hm : m ≤ 4) (hfn : fs.Nodup) (hfr : ∀ x ∈ fs, inR x) :
    Calls Try.prog 89 #[.slice A n c, .slice F m d] w fun e w' => ∃ B d' O, e = .returned (.slice B O.length d') ∧ AscMem O (Rch os fs) ∧ w'.ownsRow w.heap.size 3 1 (.slice B O.length d') O.length (ints O) ∧ Below w.heap.size w w' := by
  have HL := Lib.hid (And.intro h.1 hf.1)
  have b0 := below_box w (.cells #[] 3)
  have E1 := Blk.new w 3 []
  have hf1 := hf.below b0 (Nat.le_refl _)
  go_enter Try.func89, Try.ntmps89
  go_wp2_with (at_builtin; go_loud (refine wpList_appS rfl (.tmp 9) (.tmp 10) 27 rfl w.heap.size 3 Try.underlying27 int_info1 rfl (by omega) (by omega) _ 0 [] rfl (own_emp E1 (Nat.le_refl _)) _ m d (ints fs) rfl (by rw [length_ints]; have := HL.out.2; omega) (fun hm0 => by obtain ⟨ad, e, _, hc⟩ := hf1.2 hm0; exact ⟨ad, e, fun j u hu => by have hj : j < fs.length := (by have := (List.getElem?_eq_some_iff.1 hu).1; rwa [length_ints] at this); have := hc j _ (List.getElem?_eq_getElem hj); rw [this]; simpa [ints, hj] using hu⟩) (fun u hu => by obtain ⟨y, _, rfl⟩ := List.mem_map.1 hu; rfl) m (Nat.zero_add m) (by omega) (by simp) ?_; intro A1 c1 w1 hown1 hc1 hb1 hg1))
  rw [List.nil_append] at hown1
  obtain rfl : fs.length = m := HL.out.2
  have hbl1 : Below w.heap.size w w1 := b0.trans hb1
  clear hb1 hg1 hf1 E1 b0
  go_loopw [5, 6] (fun vo vi wr => ∃ (O : List Int) (A : Option Addr) (c i : Nat), vo = .slice A O.length c ∧ vi = .int .i64 (i : Int) ∧ SInv os fs O i ∧ wr.ownsRow w.heap.size 3 1 (.slice A O.length c) O.length (ints O) ∧ Below w.heap.size w wr) (fun _ vi _ => 991 - (intOf vi).toNat)
  case atStart => exact ⟨fs, A1, c1, 0, rfl, rfl, SInv.start hfn, hown1, hbl1⟩
  case round =>
    obtain ⟨O, A2, c2, i, rfl, rfl, hS, hown, hbr⟩ := hrel
    have hO := hS.small ha hfr
    by_cases hlt : i < O.length
    · obtain ⟨g, rfl, hg1, hg2⟩ := own_addr hown (by omega)
      obtain ⟨x, hx⟩ : ∃ x, O[i]? = some x := ⟨_, List.getElem?_eq_getElem hlt⟩
      have hcx : wr.cell? ⟨g, i, none⟩ = some (.int .i64 x) := by
        have := hown.cells (g := g) rfl i _ (show (ints O)[i]? = some (.int .i64 x) by simp [ints, hx])
        rwa [add_fls, Nat.zero_add] at this
      have hii : (i : Int) < (O.length : Int) := by omega
      have HX := Lib.hid hx
      clear hx
      go_wp2_with fail
      refine (l1GetF_any A n c os x wr (h.next hbr) hn ha).mono ?_
      rintro e w2 ⟨⟨v, rfl, hv⟩, hb2⟩
      have hbr2 := below_ext hbr hb2
      have hown2 := own_below hown hb2
      unfold IsLoc at hv
      cases hg : getO os x with
      | none =>
        rw [hg] at hv
        subst hv
        have hlk : lnk os x = [] := by unfold lnk; rw [hg]
        have hS2 := hS.step HX.out (by rw [hlk]; intro y hy; cases hy)
        go_wp2_with fail
        go_loopw [5, 8] (fun vo vj wr => vo = .slice (some ⟨g, 0, none⟩) O.length c2 ∧ vj = .int .i64 0 ∧ wr.ownsRow w.heap.size 3 1 (.slice (some ⟨g, 0, none⟩) O.length c2) O.length (ints O) ∧ Below w.heap.size w wr) (fun _ _ _ => 0)
        case atStart => exact ⟨rfl, rfl, hown2, hbr2⟩
        case round =>
          obtain ⟨rfl, rfl, hown3, hbr3⟩ := hrel
          go_wp2_with fail
          go_roundw
          case rel => exact ⟨O, _, c2, i + 1, rfl, by go_num, hS2, hown3, hbr3⟩
          case measure => simp [intOf]; omega
      | some o =>
        rw [hg] at hv
        obtain ⟨k, rfl, hko⟩ := hv
        have hkn : k < n := by have := (List.getElem?_eq_some_iff.1 hko).1; have := HL.out.1; omega
        obtain ⟨b, off, o', rfl, hb, hko', OB, om, od, -, d1, -, hri, hom, -⟩ := h.at_ hkn
        rw [hko] at hko'
        injection hko' with hko'
        subst hko'
        have hlk : lnk os x = o.xs := by unfold lnk; rw [hg]
        have hom4 : om ≤ 4 := by
          have h4 := (lnk_ok ha x).1
          rw [hlk] at h4
          have := hri.1
          omega
        have hkk : (0 : Int) ≤ (k : Int) := by omega
        have hki : (k : Int) < (n : Int) := by omega
        have HLK := Lib.hid hlk
        have HOM := Lib.hid hri.1
        clear hlk hko hg
        go_wp2_with fail
        go_loopw [5, 8] (fun vo vj wr => ∃ (O : List Int) (A : Option Addr) (c j : Nat), vo = .slice A O.length c ∧ vj = .int .i64 (j : Int) ∧ j ≤ om ∧ SInv os fs O i ∧ Hid (O[i]? = some x) ∧ Hid (∀ (q : Nat) (y : Int), q < j → o.xs[q]? = some y → y ∈ O) ∧ wr.ownsRow w.heap.size 3 1 (.slice A O.length c) O.length (ints O) ∧ Below w.heap.size w wr) (fun _ vj _ => om - (intOf vj).toNat)
        case atStart => exact ⟨O, _, c2, 0, rfl, rfl, Nat.zero_le _, hS, HX, Lib.hid fun q y hq => absurd hq (by omega), hown2, hbr2⟩
        case round =>
          obtain ⟨O3, A3, c3, j, rfl, rfl, hj, hS3, HX3, HJ3, hown3, hbr3⟩ := hrel
          have hO3 := hS3.small ha hfr
          have e1 : wr.cell? ⟨b, off + k * 3 + 1, none⟩ = some (.slice OB om od) := (hbr3.cell (p := ⟨b, off + k * 3 + 1, none⟩) hb).trans d1
          have hri3 := hri.below hbr3 (Nat.le_refl _)
          by_cases hlt3 : j < om
          · obtain ⟨ad, y, rfl, hbl, hy, hcy⟩ := hri3.at_ hlt3
            have hjj : (j : Int) < (om : Int) := by omega
            have HY := Lib.hid hy
            have hr3 := RInts.of_own hown3
            clear hy hri3
            go_wp2_with fail
            refine (l1Has_any A3 O3.length c3 O3 y wr hr3 (by simp only [maxLen]; omega)).mono ?_
            rintro e w4 ⟨rfl, rfl⟩
            by_cases hyo : y ∈ O3
            · have hh : hasI O3 y = true := by simpa [hasI] using hyo
              rw [hh]
              go_wp2_with fail
              go_roundw
              case rel => exact ⟨O3, A3, c3, j + 1, rfl, by go_num, by omega, hS3, HX3, Lib.hid fun q z hq hz => by
                by_cases hqj : q < j
                · exact HJ3.out q z hqj hz
                · obtain rfl : q = j := by omega
                  rw [HY.out] at hz
                  injection hz with hz
                  exact hz ▸ hyo, hown3, hbr3⟩
              case measure => simp [intOf]; omega
            · have hh : hasI O3 y = false := by simpa [hasI] using hyo
              rw [hh]
              have E1 := below_box wr (.cells #[.int .i64 y] 3)
              have E2 := Blk.new wr 3 [.int .i64 y]
              have E3 := own_below hown3 E1
              have E6 : ∀ (q : Nat) (u : Value), [Value.int .i64 y][q]? = some u → (wr.alloc (.cells #[.int .i64 y] 3)).cell? ((⟨wr.heap.size, 0, none⟩ : Addr).add q) = some u := fun q u hu => by
                have := E2.cell q
                rw [hu] at this
                rw [add_fls, Nat.zero_add]
                exact this
              have E7 : ∀ u ∈ [Value.int .i64 y], u.oneCell' = true := fun u hu => by
                rw [List.mem_singleton.1 hu]
                rfl
              have E8 : w.heap.size ≤ (wr.alloc (.cells #[.int .i64 y] 3)).heap.size := by
                have := hbr3.size
                simp only [World.alloc, Array.size_push]
                omega
              go_wp2_with (at_builtin; go_loud (refine wpList_app rfl (.tmp 49) (.tmp 58) 27 rfl w.heap.size 3 Try.underlying27 int_info1 rfl (by omega) (by omega) _ O3.length _ rfl E3 _ 1 1 _ rfl rfl E6 E7 (by omega) E8 ?_; intro A9 c9 w9 hown9 hc9 hb9 hg9 hl9))
              go_roundw
              case rel => exact ⟨O3 ++ [y], A9, c9, j + 1, by simp, by go_num, by omega, hS3.add (List.mem_of_getElem? HX3.out) (by rw [HLK.out]; exact List.mem_of_getElem? HY.out) hyo, Lib.hid (by rw [List.getElem?_append_left (List.getElem?_eq_some_iff.1 HX3.out).1]; exact HX3.out), Lib.hid fun q z hq hz => by
                by_cases hqj : q < j
                · exact List.mem_append_left _ (HJ3.out q z hqj hz)
                · obtain rfl : q = j := by omega
                  rw [HY.out] at hz
                  injection hz with hz
                  exact List.mem_append_right _ (by simp [hz]), by simpa [ints] using hown9, (below_ext hbr3 E1).trans hb9⟩
              case measure => simp [intOf]; omega
          · obtain rfl : j = om := by omega
            have hS4 := hS3.step HX3.out (by
              rw [HLK.out]
              intro y hy
              obtain ⟨q, hq⟩ := List.mem_iff_getElem?.1 hy
              exact HJ3.out q y (by have := (List.getElem?_eq_some_iff.1 hq).1; have := HOM.out; omega) hq)
            have hil := (List.getElem?_eq_some_iff.1 HX3.out).1
            go_wp2_with fail
            go_roundw
            case rel => exact ⟨O3, A3, c3, i + 1, rfl, by go_num, hS4, hown3, hbr3⟩
            case measure => simp [intOf]; omega
    · obtain rfl : i = O.length := by have := hS.le; omega
      have hdone := hS.done
      have hr := RInts.of_own hown
      go_wp2_with fail
      refine (l1Sorted_any A2 O.length c2 O wr hr (by simp only [maxLen]; omega)).mono ?_
      rintro e w3 ⟨B, d', rfl, hown3, hb3⟩
      go_wp2_with fail
      go_ret
      exact ⟨B, d', sorted O, rfl, sortF_ascMem O hdone (Rch.range ha hfr), own_base hown3 hbr.size, below_ext hbr hb3⟩
end Go.Proofs.Ytjofgbbofagoiaa
