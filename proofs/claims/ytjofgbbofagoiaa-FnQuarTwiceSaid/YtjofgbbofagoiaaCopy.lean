/- Walks: the reference's copies of slices of objects, its StorePut's parts. -/
import Derived.Test.YtjofgbbofagoiaaOwn
import Derived.Test.YtjofgbbofagoiaaObjLaw
namespace Go.Proofs.Ytjofgbbofagoiaa
open Go.RowKit Go.Sort

/-- after an append onto the row, of one object -/
theorem OwnO.push {w w1 : World} {B n m d k : Nat} {v v' : Value} {os : List Ob} {o : Ob} {A : Option Addr} {cs : List Value} (hown : w.ownsRow B 33 3 v k cs) (hel : Elems cs os (LinkIn w B)) (hlk : LinkIn w B A m o.xs) (hm : m ≤ maxLen) (ht : o.t.size ≤ maxLen)
    (hg : w.grownBy w1 v.ownBlock) (hown' : w1.ownsRow B 33 3 v' n (cs ++ [.int .i64 o.k, .slice A m d, .string o.t])) : OwnO w1 B v' n (os ++ [o]) :=
  ⟨_, hown', (hel.append (Elems.one hlk hm ht)).mono fun _ _ _ hx => hx.grown hg fun g e => Or.inr (by
    rcases hown.2 with ⟨rfl, _⟩ | ⟨g', cap, cur, rfl, _, hh, _⟩
    · cases e
    · have : g' = g := by simpa [Value.ownBlock] using e
      subst this
      exact ⟨_, _, _, hh, by decide⟩)⟩

theorem Blk.cellsAt {w : World} {g : Nat} {t : TypeId} {cs : List Value} (h : Blk w g t cs) : ∀ j u, cs[j]? = some u → w.cell? ((⟨g, 0, none⟩ : Addr).add j) = some u := fun j u hu => by
  rw [show (⟨g, 0, none⟩ : Addr).add j = ⟨g, j, none⟩ by unfold Addr.add; split <;> simp_all, h.cell]; exact hu
def Copied (w : World) (n : Nat) (os : List Ob) (e : Ending) (w' : World) : Prop := ∃ v, e = .returned v ∧ OwnO w' w.heap.size v n os ∧ Below w.heap.size w w'
def smallOs (os : List Ob) : Prop := ∀ o ∈ os, o.xs.length ≤ 1000000

set_option maxHeartbeats 1600000 in
theorem l1Copy_any (A : Option Addr) (n c : Nat) (os : List Ob) (w : World) (h : RObjs w A n os) (hn : n ≤ 1000000) (hs : smallOs os) :
    Calls Try.prog 107 #[.slice A n c] w (Copied w n os) := by
  go_enter Try.func107, Try.ntmps107
  go_wp2
  go_loopw [3, 4] (fun s i wr => ∃ (k : Nat), k ≤ n ∧ i = .int .i64 k ∧ OwnO wr w.heap.size s k (os.take k) ∧ Below w.heap.size w wr) (fun _ i _ => n - (intOf i).toNat)
  case atStart =>
    refine ⟨0, Nat.zero_le _, rfl, ⟨[], ?_, Elems.nil⟩, below_box _ _⟩
    have := World.ownsRow_made w (base := w.heap.size) (e := 33) (size := 3) #[] 0 (by simp) (by simp [maxLen]) rfl
    simpa using this
  case round =>
    obtain ⟨k, hk, rfl, hO, hbr⟩ := hrel
    obtain ⟨cs, hown, hel⟩ := hO
    obtain ⟨A1, c1, rfl, hkc⟩ := own_form hown
    have hr := h.next hbr
    by_cases hlt : k < n
    · obtain ⟨b, off, o, rfl, hb, hx, hob⟩ := hr.at_ hlt
      obtain ⟨B, m, d, c0, c1', c2, hri, hm, ht⟩ := hob
      have hsm := hs o (List.mem_of_getElem? hx)
      have HX := Lib.hid hx
      have HM := Lib.hid hri.1
      have hm2 : m ≤ 1000000 := by have := hri.1; omega
      clear hx
      go_wp2_with fail
      refine (l1One_any o _ _ _ _ hri hm2 ht).mono ?_
      rintro e w1 ⟨v, rfl, ⟨A2, m2, d2, rfl, hown2, hm2', ht2⟩, hb1⟩
      have hown3 := own_below (own_below hown hb1) (below_box w1 (.cells #[.int .i64 o.k, .slice A2 m2 d2, .string o.t] 33))
      have hlk := ((LinkIn.of_own hown2).base hbr.size).next (below_box w1 (.cells #[.int .i64 o.k, .slice A2 m2 d2, .string o.t] 33))
      have hel3 := (hel.mono fun A m xs (hx : LinkIn wr w.heap.size A m xs) => (hx.next hb1).next (below_box w1 (.cells #[.int .i64 o.k, .slice A2 m2 d2, .string o.t] 33)))
      have bo3 := Blk.new w1 33 [.int .i64 o.k, .slice A2 m2 d2, .string o.t]
      have hb3 := below_ext (below_ext hbr hb1) (below_box w1 (.cells #[.int .i64 o.k, .slice A2 m2 d2, .string o.t] 33))
      go_wp2_with (at_builtin; go_loud (refine wpList_app rfl (.tmp 12) (.tmp 18) 23 rfl w.heap.size 33 Try.underlying23 obj_info1 rfl (by omega) (by omega) _ k cs rfl hown3 ⟨w1.heap.size, 0, none⟩ 1 1 [.int .i64 o.k, .slice A2 m2 d2, .string o.t] rfl rfl (bo3.cellsAt) (by simp [Value.oneCell']) (by omega) hb3.size ?_; intro B' d' w5 hown5 _ hb5 hg5 _))
      go_roundw
      case rel => exact ⟨k + 1, by omega, by go_num, by
        have hki : k < os.length := by have := h.1; omega
        have hke : os[k] = o := (List.getElem?_eq_some_iff.1 HX.out).2
        rw [List.take_succ_eq_append_getElem hki, hke]
        exact OwnO.push hown3 hel3 hlk hm2' ht2 hg5 hown5, hb3.trans hb5⟩
      case measure => simp [intOf]; omega
    · obtain rfl : k = n := by omega
      rw [List.take_of_length_le (by rw [h.1]; exact Nat.le_refl _)] at hel
      go_wp2
      go_ret
      exact ⟨_, rfl, ⟨cs, hown, hel⟩, hbr⟩

set_option maxHeartbeats 1600000 in
theorem l1Same_any (o o' : Ob) (A B : Option Addr) (n c m d : Nat) (w : World) (hx : RInts w A n o.xs) (hy : RInts w B m o'.xs) (hn : n ≤ maxLen) (hm : m ≤ maxLen) :
    Calls Try.prog 115 #[.agg #[.int .i64 o.k, .slice A n c, .string o.t], .agg #[.int .i64 o'.k, .slice B m d, .string o'.t]] w fun e w' => e = .returned (.bool (eqO o o')) ∧ Below w.heap.size w w' := by
  obtain ⟨k, xs, t⟩ := o
  obtain ⟨k', ys, t'⟩ := o'
  simp only at hx hy ⊢
  unfold maxLen at hn hm
  have b2 := below_box2 w (.cells #[.int .i64 k, .slice A n c, .string t] 33) (.cells #[.int .i64 k', .slice B m d, .string t'] 33)
  have h1 := hx.next b2
  have h2 := hy.next b2
  have bo := (Blk.new w 33 [.int .i64 k, .slice A n c, .string t]).alloc (.cells #[.int .i64 k', .slice B m d, .string t'] 33)
  have bp : Blk ((w.alloc (.cells #[.int .i64 k, .slice A n c, .string t] 33)).alloc (.cells #[.int .i64 k', .slice B m d, .string t'] 33)) (w.heap.size + 1) 33 [.int .i64 k', .slice B m d, .string t'] := by
    have := Blk.new (w.alloc (.cells #[.int .i64 k, .slice A n c, .string t] 33)) 33 [.int .i64 k', .slice B m d, .string t']
    rwa [show (w.alloc (.cells #[.int .i64 k, .slice A n c, .string t] 33)).heap.size = w.heap.size + 1 from by simp] at this
  cases hk : (k != k')
  · have hk' : (k == k') = true := by simpa using hk
    cases ht : (t.toList == t'.toList)
    · go_enter Try.func115, Try.ntmps115
      go_wp2
      go_ret
      exact ⟨ret_bool (by simp [eqO, ht]), b2⟩
    · by_cases hnm : n = m
      · subst hnm
        go_enter Try.func115, Try.ntmps115
        go_wp2
        generalize hW : (w.alloc (.cells #[.int .i64 k, .slice A n c, .string t] 33)).alloc (.cells #[.int .i64 k', .slice B n d, .string t'] 33) = wq at *
        have HW := Lib.hid hW
        clear hW
        go_loopw [5] (fun i wr => ∃ j : Nat, j ≤ n ∧ i = .int .i64 j ∧ Hid (xs.take j = ys.take j) ∧ Below wq.heap.size wq wr) (fun i _ => n - (intOf i).toNat)
        case atStart => exact ⟨0, Nat.zero_le _, rfl, by show _ = _; simp, Below.refl _ _⟩
        case round =>
          obtain ⟨j, hj, rfl, hasc, hbr⟩ := hrel
          obtain ⟨p0, p1, p2⟩ := (bo.next hbr).cells3
          obtain ⟨q0, q1, q2⟩ := (bp.next hbr).cells3
          by_cases hlt : j < n
          · obtain ⟨ad, x, rfl, hb, hxk, hc⟩ := (h1.next hbr).at_ hlt
            obtain ⟨ad', y, rfl, hb', hyk, hc'⟩ := (h2.next hbr).at_ hlt
            have HT := Lib.hid (eq_take xs ys j (hx.1.trans hy.1.symm) x y hxk hyk)
            clear hxk hyk
            cases he : (x != y)
            all_goals
              go_wp2
              have hcg := cell_regrown hc
              have hcg' := cell_regrown hc'
              have g1 := cell_regrown p1
              have k1 := cell_regrown q1
              clear p0 p1 p2 q0 q1 q2 hc hc'
              refine wp_region_ext (by kernel_rfl) (by kernel_rfl) ?_
              repeat (go_big_quiet_step (fail))
              refine wpQuiet_nil ?_
              intro w1 hb1
              go_wp2
            · have hxy : x = y := by simpa using he
              go_roundw
              case rel => exact ⟨j + 1, by omega, by go_num, HT.out.2 ⟨hasc.out, hxy⟩, below_ext hbr hb1⟩
              case measure => simp [intOf]; omega
            · have hxy : x ≠ y := by simpa using he
              go_ret
              exact ⟨ret_bool (by
                have : xs ≠ ys := fun hh => hxy ((HT.out.1 (by rw [hh])).2)
                simp [eqO, eqI, this]), below_ext (below_ext b2 hbr) hb1⟩
          · obtain rfl : j = n := by omega
            rw [List.take_of_length_le (by rw [hx.1]; exact Nat.le_refl _), List.take_of_length_le (by rw [hy.1]; exact Nat.le_refl _)] at hasc
            go_wp2
            go_ret
            exact ⟨ret_bool (by simp [eqO, eqI, hasc.out, hk', ht]), below_ext b2 hbr⟩
      · have hne : ((n : Int) != (m : Int)) = true := by simp; omega
        have : xs ≠ ys := fun hh => hnm (by rw [← hx.1, ← hy.1, hh])
        go_enter Try.func115, Try.ntmps115
        go_wp2
        go_ret
        exact ⟨ret_bool (by simp [eqO, eqI, this]), b2⟩
  · have hk' : (k == k') = false := by simpa using hk
    go_enter Try.func115, Try.ntmps115
    go_wp2
    go_ret
    exact ⟨ret_bool (by simp [eqO, hk']), b2⟩
end Go.Proofs.Ytjofgbbofagoiaa
