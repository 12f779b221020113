/- Walks: the program's lock. -/
import Derived.Test.YtpanclbmfpgalaaDoorUps
import Derived.Test.YtpanclbmfpgalaaDoorRd
import Derived.Test.YtpanclbmfpgalaaDoorSort
namespace Go.Proofs.YtpanclbmfpgalaaDoor
open Go.RowKit Go.Sort

def getL (xs : List Int) (z : Int) : Int := xs.getD z.toNat 0
def freeB (xs : List Int) (us : List Up) : Bool := us.all fun u => decide (getL xs u.ref = -1)
def lockAll (xs : List Int) (t : Int) (us : List Up) : List Int := us.foldl (fun ys u => ys.set u.ref.toNat t) xs
theorem lockAll_len (t : Int) : ∀ (us : List Up) (xs : List Int), (lockAll xs t us).length = xs.length
  | [], xs => rfl
  | u :: us, xs => by unfold lockAll; rw [List.foldl_cons]; have := lockAll_len t us (xs.set u.ref.toNat t); unfold lockAll at this; rw [this, List.length_set]
theorem lockAll_snoc (xs : List Int) (t : Int) (us : List Up) (u : Up) : lockAll xs t (us ++ [u]) = (lockAll xs t us).set u.ref.toNat t := by unfold lockAll; rw [List.foldl_append]; rfl

theorem own_belowL {w w' : World} {base : Nat} {e : TypeId} {size n : Nat} {v : Value} {xs : List Value} (h : w.ownsRow base e size v n xs) (hb : Below w.heap.size w w') : w'.ownsRow base e size v n xs :=
  h.kept (row := none) ⟨hb.os, hb.tape, hb.output, hb.size, fun k hk _ => hb.block k hk⟩ (by cases v.ownBlock <;> simp)
theorem own_setI {w : World} {base g n d : Nat} {e : TypeId} {xs : List Value} (h : w.ownsRow base e 1 (.slice (some ⟨g, 0, none⟩) n d) n xs) (i : Nat) (u : Value) :
    (w.setCell ⟨g, i, none⟩ u).ownsRow base e 1 (.slice (some ⟨g, 0, none⟩) n d) n (xs.set i u) := by
  refine ⟨by rw [List.length_set]; exact h.1, ?_⟩
  rcases h.2 with ⟨h0, _⟩ | ⟨g', cap, cur, hv, hb, hh, h1, h2, h3, h4⟩
  · cases h0
  · injection hv with hv1 _ hv3
    injection hv1 with hv1
    injection hv1 with hv1 _ _
    subst hv1
    subst hv3
    have hB : Blk w g e cur.toList := by unfold Blk; simpa using hh
    have hB' := hB.set_ i u
    unfold Blk at hB'
    refine .inr ⟨g, d, (cur.toList.set i u).toArray, rfl, hb, hB', h1, h2, by simpa using h3, ?_⟩
    rw [List.toList_toArray, ← h4, List.take_set]
theorem own_blkI {w : World} {base g n d size : Nat} {e : TypeId} {xs : List Value} (h : w.ownsRow base e size (.slice (some ⟨g, 0, none⟩) n d) n xs) : ∃ cs, Blk w g e cs ∧ base ≤ g ∧ cs.take (n * size) = xs := by
  rcases h.2 with ⟨h0, _⟩ | ⟨g', cap, cur, hv, hb, hh, h1, h2, h3, h4⟩
  · cases h0
  · injection hv with hv1 _ hv3
    injection hv1 with hv1
    injection hv1 with hv1 _ _
    subst hv1
    exact ⟨cur.toList, by unfold Blk; simpa using hh, hb, h4⟩
theorem RUps.grown {w w' : World} {A : Option Addr} {n g : Nat} {us : List Up} (h : RUps w A n us) (hg : w.grownBy w' (some g)) (hne : ∀ b off, A = some ⟨b, off, none⟩ → b ≠ g) : RUps w' A n us :=
  ⟨h.1, fun hn => by
    obtain ⟨b, off, e, hlt, hc⟩ := h.2 hn
    have hb : ∀ i, w'.cell? ⟨b, i, none⟩ = w.cell? ⟨b, i, none⟩ := fun i => World.cell?_of_block (hg.block b hlt (fun e' => hne b off e (by injection e')))
    refine ⟨b, off, e, Nat.lt_of_lt_of_le hlt hg.size, fun i u hu => ?_⟩
    obtain ⟨c0, c1, c2⟩ := hc i u hu
    exact ⟨(hb _).trans c0, (hb _).trans c1, (hb _).trans c2⟩⟩
theorem ints_set (xs : List Int) (i : Nat) (z : Int) : (ints xs).set i (.int .i64 z) = ints (xs.set i z) := by unfold ints; rw [List.map_set]

theorem block_lt_of_cellL {w : World} {b o : Nat} {v : Value} (h : w.cell? ⟨b, o, none⟩ = some v) : b < w.heap.size := by
  apply Classical.byContradiction
  intro hn
  have : w.heap[b]? = none := Array.getElem?_eq_none (by omega)
  simp [World.cell?, this] at h

/-- what lock does: xs the locks ahead -/
def LockTo (C : Nat) (g d : Nat) (xs : List Int) (t : Int) (us : List Up) (ev : Value) (w : World) (e : Ending) (w' : World) : Prop :=
  e = .returned (if freeB xs us then .nilIface else ev) ∧ w'.ownsRow C 3 1 (.slice (some ⟨g, 0, none⟩) 4 d) 4 (ints (if freeB xs us then lockAll xs t us else xs)) ∧ w.grownBy w' (some g)

set_option maxHeartbeats 1600000 in
theorem lock_any (C g d : Nat) (xs : List Int) (t : Int) (A : Option Addr) (n c : Nat) (us : List Up) (ev : Value) (w : World) (hown : w.ownsRow C 3 1 (.slice (some ⟨g, 0, none⟩) 4 d) 4 (ints xs))
    (hu : RUps w A n us) (hn : n ≤ maxLen) (hok : ∀ u ∈ us, upOk u = true) (hne : ∀ b off, A = some ⟨b, off, none⟩ → b ≠ g) (hE : w.cell? ⟨0, 0, none⟩ = some ev) :
    Calls Tryd.prog 22 #[.slice (some ⟨g, 0, none⟩) 4 d, .int .i64 t, .slice A n c] w (LockTo C g d xs t us ev w) := by
  unfold maxLen at hn
  have hl := hu.1
  have hxl : xs.length = 4 := by have := hown.1; rw [length_ints] at this; omega
  go_enter Tryd.func22, Tryd.ntmps22
  go_wp2
  go_loopw [13] (fun i wr => ∃ k : Nat, k ≤ n ∧ i = .int .i64 k ∧ Hid (freeB xs (us.take k) = true) ∧ Below w.heap.size w wr) (fun i _ => n - (intOf i).toNat)
  case atStart => exact ⟨0, Nat.zero_le _, rfl, (show freeB xs (us.take 0) = true by simp [freeB]), Below.refl _ _⟩
  case round =>
    obtain ⟨k, hk, rfl, hfree, hbr⟩ := hrel
    by_cases hlt : k < n
    · obtain ⟨b, off, u, rfl, hb, hx, c0, c1, c2⟩ := (hu.next hbr).at_ hlt
      have huo := hok u (List.mem_of_getElem? hx)
      have hr := (upOk_parts huo).1
      obtain ⟨u0, u1, u2⟩ := u
      unfold refB at hr
      simp only [Bool.and_eq_true, decide_eq_true_eq] at hr c0 c1 c2
      obtain ⟨r, rfl⟩ := Int.eq_ofNat_of_zero_le hr.1
      have hr4 : r < 4 := by omega
      have hr4i : (r : Int) < 4 := by omega
      have bo := Blk.new wr 50 [.int .i64 r, .int .i64 u1, .int .i64 u2]
      have ea := below_box wr (.cells #[.int .i64 r, .int .i64 u1, .int .i64 u2] 50)
      have hown1 := own_belowL (own_belowL hown hbr) ea
      obtain ⟨x, hxx⟩ : ∃ x, xs[r]? = some x := ⟨_, List.getElem?_eq_getElem (by omega)⟩
      have cx : (wr.alloc (.cells #[.int .i64 r, .int .i64 u1, .int .i64 u2] 50)).cell? ⟨g, r, none⟩ = some (.int .i64 x) := by
        have := hown1.cells (g := g) rfl r (.int .i64 x) (by rw [ints, List.getElem?_map, hxx]; rfl)
        have ha : (⟨g, 0, none⟩ : Addr).add r = ⟨g, r, none⟩ := by unfold Addr.add; split <;> simp_all
        rwa [ha] at this
      have cE : (wr.alloc (.cells #[.int .i64 r, .int .i64 u1, .int .i64 u2] 50)).cell? ⟨0, 0, none⟩ = some ev := ((below_ext hbr ea).cell (p := ⟨0, 0, none⟩) (block_lt_of_cellL hE)).trans hE
      have hgl : getL xs r = x := by
        unfold getL
        rw [Int.toNat_natCast, List.getD_eq_getElem?_getD, hxx]; rfl
      have HX := Lib.hid hx
      have HG := Lib.hid hgl
      have HXX := Lib.hid hxx
      clear hx hgl hxx huo
      by_cases hx1 : x = -1
      · subst hx1
        go_wp2
        go_roundw
        case rel => exact ⟨k + 1, by omega, by go_num, (show freeB xs (us.take (k + 1)) = true by
          have hkl : k < us.length := by omega
          have he : us[k] = ⟨(r : Int), u1, u2⟩ := (List.getElem?_eq_some_iff.1 HX.out).2
          rw [List.take_succ_eq_append_getElem hkl, he]
          unfold freeB
          rw [List.all_append]
          have := hfree.out
          unfold freeB at this
          rw [this]
          simp [HG.out]), below_ext hbr ea⟩
        case measure => simp [intOf]; omega
      · have hxb : (x != -1) = true := by simp; exact hx1
        have hno : freeB xs us = false := by
          cases hh : freeB xs us
          · rfl
          · unfold freeB at hh
            have := List.all_eq_true.1 hh _ (List.mem_of_getElem? HX.out)
            rw [HG.out] at this
            exact absurd (of_decide_eq_true this) hx1
        have HN := Lib.hid hno
        clear hno
        go_wp2
        go_ret
        have hbb := below_ext hbr ea
        refine ⟨by rw [HN.out]; rfl, by rw [HN.out]; exact hown1, ⟨hbb.os, hbb.tape, hbb.output, hbb.size, fun i hi _ => hbb.block i hi⟩⟩
    · obtain rfl : k = n := by omega
      rw [List.take_of_length_le (by omega)] at hfree
      have hgr : w.grownBy wr (some g) := ⟨hbr.os, hbr.tape, hbr.output, hbr.size, fun i hi _ => hbr.block i hi⟩
      have hown2 := own_belowL hown hbr
      clear hlt hk
      go_wp2
      go_loopw [27] (fun i wy => ∃ j : Nat, j ≤ k ∧ i = .int .i64 j ∧ wy.ownsRow C 3 1 (.slice (some ⟨g, 0, none⟩) 4 d) 4 (ints (lockAll xs t (us.take j))) ∧ w.grownBy wy (some g)) (fun i _ => k - (intOf i).toNat)
      case atStart => exact ⟨0, Nat.zero_le _, rfl, by simpa [lockAll] using hown2, hgr⟩
      case round =>
        obtain ⟨j, hj, rfl, hownj, hgj⟩ := hrel
        by_cases hlt : j < k
        · obtain ⟨b, off, u, rfl, hb, hx, c0, c1, c2⟩ := (hu.grown hgj hne).at_ hlt
          have hr := (upOk_parts (hok u (List.mem_of_getElem? hx))).1
          obtain ⟨u0, u1, u2⟩ := u
          unfold refB at hr
          simp only [Bool.and_eq_true, decide_eq_true_eq] at hr c0 c1 c2
          obtain ⟨r, rfl⟩ := Int.eq_ofNat_of_zero_le hr.1
          have hr4 : r < 4 := by omega
          have hr4i : (r : Int) < 4 := by omega
          have bo := Blk.new wr 50 [.int .i64 r, .int .i64 u1, .int .i64 u2]
          have ea := below_box wr (.cells #[.int .i64 r, .int .i64 u1, .int .i64 u2] 50)
          have hown3 := own_belowL hownj ea
          obtain ⟨CS, hB, -, hCt⟩ := own_blkI hown3
          have hf := hB.frozen r
          have hll : (ints (lockAll xs t (us.take j))).length = 4 := by rw [length_ints, lockAll_len, hxl]
          obtain ⟨y, hy⟩ : ∃ y, CS[r]? = some y := ⟨_, List.getElem?_eq_getElem (by
            have := congrArg List.length hCt
            rw [hll, List.length_take] at this
            omega)⟩
          have cx : (wr.alloc (.cells #[.int .i64 r, .int .i64 u1, .int .i64 u2] 50)).cell? ⟨g, r, none⟩ = some y := by rw [hB.cell]; exact hy
          have hset := own_setI hown3 r (.int .i64 t)
          rw [ints_set] at hset
          have hgs : w.grownBy ((wr.alloc (.cells #[.int .i64 r, .int .i64 u1, .int .i64 u2] 50)).setCell ⟨g, r, none⟩ (.int .i64 t)) (some g) := grown_setCell ⟨ea.os.trans hgj.os, ea.tape.trans hgj.tape, ea.output.trans hgj.output, Nat.le_trans hgj.size ea.size, fun i hi hn => (ea.block i (Nat.lt_of_lt_of_le hi hgj.size)).trans (hgj.block i hi hn)⟩ _
          have HX := Lib.hid hx
          have HS := Lib.hid hset
          have hgne : ¬ g = wr.heap.size := by have := hownj.lt g (by simp [Value.ownBlock]); omega
          clear hx hset hy hCt hll
          go_wp2
          go_roundw
          case rel => exact ⟨j + 1, by omega, by go_num, by
            have hkl : j < us.length := by omega
            have he : us[j] = ⟨(r : Int), u1, u2⟩ := (List.getElem?_eq_some_iff.1 HX.out).2
            rw [List.take_succ_eq_append_getElem hkl, he, lockAll_snoc]
            exact HS.out, hgs⟩
          case measure => simp [intOf]; omega
        · obtain rfl : j = k := by omega
          rw [List.take_of_length_le (by omega)] at hownj
          have HF := Lib.hid hfree.out
          go_wp2
          go_ret
          exact ⟨by rw [HF.out]; rfl, by rw [HF.out]; exact hownj, hgj⟩
end Go.Proofs.YtpanclbmfpgalaaDoor
