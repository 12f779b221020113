/- Walks: the reference's l12Take and LocksTake. -/
import Derived.Test.YtpanclbmfpgalaaDoorTake
namespace Go.Proofs.YtpanclbmfpgalaaDoor
open Go.RowKit Go.Sort

theorem RInts.news {w : World} {A : Option Addr} {n : Nat} {xs : List Int} (h : RInts w A n xs) (hn : 0 < n) : ∃ ad, A = some ad ∧ ∀ j u, (ints xs)[j]? = some u → w.cell? (ad.add j) = some u := by
  obtain ⟨ad', e, _, hc⟩ := h.2 hn
  exact ⟨ad', e, fun j u hu => by
    rw [ints, List.getElem?_map] at hu
    cases hx : xs[j]? with
    | none => rw [hx] at hu; cases hu
    | some x => rw [hx] at hu; rw [hc j x hx]; exact hu⟩

def take12 (xs : List Int) (t : Int) (us : List Up) : List Int × Bool := if freeB xs us then (lockAll xs t us, true) else (xs, false)
def Take12 (w : World) (xs : List Int) (t : Int) (us : List Up) (e : Ending) (w' : World) : Prop := ∃ B d, e = .returned (.tuple #[.slice B 4 d, .bool (take12 xs t us).2]) ∧
  w'.ownsRow w.heap.size 3 1 (.slice B 4 d) 4 (ints (take12 xs t us).1) ∧ Below w.heap.size w w'

set_option maxRecDepth 100000 in
set_option maxHeartbeats 1600000 in
theorem l12Take_any (A : Option Addr) (n c : Nat) (xs : List Int) (t : Int) (A2 : Option Addr) (n2 c2 : Nat) (us : List Up) (w : World) (h : RInts w A n xs) (h4 : n = 4) (hu : RUps w A2 n2 us) (hn2 : n2 ≤ maxLen) (hok : ∀ u ∈ us, upOk u = true) :
    Calls Tryd.prog 26 #[.slice A n c, .int .i64 t, .slice A2 n2 c2] w (Take12 w xs t us) := by
  subst h4
  unfold maxLen at hn2
  have hul := hu.1
  have hl := h.1
  have E1 := Blk.new w 3 []
  have b1 := below_box w (.cells #[] 3)
  have h1 := h.next b1
  go_enter Tryd.func26, Tryd.ntmps26
  go_wp2_with (at_builtin; go_loud (refine wpList_appS rfl (.tmp 10) (.tmp 11) 23 rfl w.heap.size 3 Tryd.underlying23 int_info1 rfl (by omega) (by omega) _ 0 [] rfl (own_emp E1 (Nat.le_refl _)) _ 4 c (ints xs) rfl (by rw [length_ints]; omega) h1.news (by simp [ints, Value.oneCell']) 4 (by omega) (by omega) b1.size ?_; intro B d w2 hown2 _ hb2 hg2))
  simp only [List.nil_append] at hown2
  obtain ⟨g, rfl, hg1, hg2⟩ := own_addr hown2 (by omega)
  have bw2 := b1.trans hb2
  go_loopw [9] (fun i wr => ∃ k : Nat, k ≤ n2 ∧ i = .int .i64 k ∧ Hid (freeB xs (us.take k) = true) ∧ wr.ownsRow w.heap.size 3 1 (.slice (some ⟨g, 0, none⟩) 4 d) 4 (ints (lockAll xs t (us.take k))) ∧ Below w.heap.size w wr) (fun i _ => n2 - (intOf i).toNat)
  case atStart => exact ⟨0, Nat.zero_le _, rfl, (show freeB xs (us.take 0) = true by simp [freeB]), by simpa [lockAll] using hown2, bw2⟩
  case round =>
    obtain ⟨k, hk, rfl, hfree, hownr, hbr⟩ := hrel
    by_cases hlt : k < n2
    · obtain ⟨b, off, u, rfl, hb, hx, c0, c1, c2⟩ := (hu.next hbr).at_ hlt
      have huo := hok u (List.mem_of_getElem? hx)
      have hr := (upOk_parts huo).1
      obtain ⟨u0, u1, u2⟩ := u
      unfold refB at hr
      simp only [Bool.and_eq_true, decide_eq_true_eq] at hr c0 c1 c2
      obtain ⟨r, rfl⟩ := Int.eq_ofNat_of_zero_le hr.1
      have hr4 : r < 4 := by omega
      have hr4i : (r : Int) < 4 := by omega
      obtain ⟨ad, x, rfl, hbx, hxx, cx⟩ := (h.next hbr).at_ hr4
      have hgl : getL xs r = x := by
        unfold getL
        rw [Int.toNat_natCast, List.getD_eq_getElem?_getD, hxx]; rfl
      have HX := Lib.hid hx
      have HG := Lib.hid hgl
      have HXX := Lib.hid hxx
      clear hx hgl hxx huo
      by_cases hx1 : x = -1
      · subst hx1
        obtain ⟨CS, hB, -, hCt⟩ := own_blkI hownr
        have hf := hB.frozen r
        have hll : (ints (lockAll xs t (us.take k))).length = 4 := by rw [length_ints, lockAll_len, hl]
        obtain ⟨y, hy⟩ : ∃ y, CS[r]? = some y := ⟨_, List.getElem?_eq_getElem (by
          have := congrArg List.length hCt
          rw [hll, List.length_take] at this
          omega)⟩
        have cy : wr.cell? ⟨g, r, none⟩ = some y := by rw [hB.cell]; exact hy
        have hset := own_setI hownr r (.int .i64 t)
        rw [ints_set] at hset
        have hbs : Below w.heap.size w (wr.setCell ⟨g, r, none⟩ (.int .i64 t)) := below_store hbr (by omega) _
        have HS := Lib.hid hset
        clear hset hy hCt hll
        go_wp2
        go_roundw
        case rel => exact ⟨k + 1, by omega, by go_num, (show freeB xs (us.take (k + 1)) = true by
          have hkl : k < us.length := by omega
          have he : us[k] = ⟨(r : Int), u1, u2⟩ := (List.getElem?_eq_some_iff.1 HX.out).2
          rw [List.take_succ_eq_append_getElem hkl, he]
          unfold freeB
          rw [List.all_append]
          have := hfree.out
          unfold freeB at this
          rw [this]
          simp [HG.out]), by
            have hkl : k < us.length := by omega
            have he : us[k] = ⟨(r : Int), u1, u2⟩ := (List.getElem?_eq_some_iff.1 HX.out).2
            rw [List.take_succ_eq_append_getElem hkl, he, lockAll_snoc]
            exact HS.out, hbs⟩
        case measure => simp [intOf]; omega
      · have hxb : (x != -1) = true := by simp; exact hx1
        have hno : freeB xs us = false := by
          cases hh : freeB xs us
          · rfl
          · unfold freeB at hh
            have := List.all_eq_true.1 hh _ (List.mem_of_getElem? HX.out)
            rw [HG.out] at this
            exact absurd (of_decide_eq_true this) hx1
        have HN := Lib.hid (show take12 xs t us = (xs, false) by unfold take12; rw [hno]; rfl)
        clear hno
        have E2 := Blk.new wr 3 []
        have b2 := below_box wr (.cells #[] 3)
        have h2 := (h.next hbr).next b2
        go_wp2_with (at_builtin; go_loud (refine wpList_appS rfl (.tmp 28) (.tmp 29) 23 rfl wr.heap.size 3 Tryd.underlying23 int_info1 rfl (by omega) (by omega) _ 0 [] rfl (own_emp E2 (Nat.le_refl _)) _ 4 c (ints xs) rfl (by rw [length_ints]; omega) h2.news (by simp [ints, Value.oneCell']) 4 (by omega) (by omega) b2.size ?_; intro B d3 w3 hown3 _ hb3 hg3))
        simp only [List.nil_append] at hown3
        refine bodyPost_ret (v := .tuple #[.slice B 4 d3, .bool false]) (by simp [results, Tryd.results26, go_sem]) rfl ?_
        refine ⟨B, d3, by rw [HN.out], by rw [HN.out]; exact own_baseL hown3 hbr.size, hbr.trans ((b2.trans hb3).mono hbr.size)⟩
    · obtain rfl : k = n2 := by omega
      rw [List.take_of_length_le (by omega)] at hfree hownr
      have HF := Lib.hid (show take12 xs t us = (lockAll xs t us, true) by unfold take12; rw [hfree.out]; rfl)
      go_wp2
      refine bodyPost_ret (v := .tuple #[.slice (some ⟨g, 0, none⟩) 4 d, .bool true]) (by simp [results, Tryd.results26, go_sem]) rfl ?_
      exact ⟨_, _, by rw [HF.out], by rw [HF.out]; exact hownr, hbr⟩

theorem takeR_ok12 {xs : List Int} {t : Int} {us : List Up} (h1 : locksB xs = true) (h2 : txnB t = true) (h3 : updB us = true) : takeR xs t us = take12 xs t us := takeR_ok h1 h2 h3
set_option maxRecDepth 100000 in
set_option maxHeartbeats 1600000 in
theorem specLocksTake_any (A : Option Addr) (n c : Nat) (xs : List Int) (t : Int) (A2 : Option Addr) (n2 c2 : Nat) (us : List Up) (w : World) (h : RInts w A n xs) (hn : n ≤ maxLen) (hu : RUps w A2 n2 us) (hn2 : n2 ≤ maxLen) :
    Calls Tryd.prog 8 #[.slice A n c, .int .i64 t, .slice A2 n2 c2] w (TakeTo w xs t us) := by
  have hl := h.1
  have badcase : ∀ w1, Below w.heap.size w w1 → takeR xs t us = ([], false) → TakeTo w xs t us (.returned (.tuple #[.slice (some ⟨w1.heap.size, 0, none⟩) 0 0, .bool false])) (w1.alloc (.cells #[] 3)) := fun w1 hb e => by
    unfold TakeTo; rw [e]
    exact ⟨_, 0, rfl, own_emp (Blk.new w1 3 []) hb.size, below_ext hb (below_box w1 _)⟩
  cases h1 : locksB xs
  · have HN := Lib.hid (fun w1 hb => badcase w1 hb (takeR_bad (by rw [h1]; rfl)))
    clear badcase
    go_enter Tryd.func8, Tryd.ntmps8
    go_wp2_with (go_at_call 23; refine (specLocksValid_any A n c xs w h hn).mono ?_; rintro e w1 ⟨rfl, rfl⟩)
    refine bodyPost_ret (v := .tuple #[.slice (some ⟨w.heap.size, 0, none⟩) 0 0, .bool false]) (by simp [results, Tryd.results8, go_sem]) rfl (HN.out w (Below.refl _ _))
  · cases h2 : txnB t
    · have HN := Lib.hid (fun w1 hb => badcase w1 hb (takeR_bad (by rw [h2]; simp)))
      clear badcase
      go_enter Tryd.func8, Tryd.ntmps8
      go_wp2_with (first
        | (go_at_call 23; refine (specLocksValid_any A n c xs w h hn).mono ?_; rintro e w1 ⟨rfl, rfl⟩)
        | (go_at_call 24; refine (l12Txn_any t _).mono ?_; rintro e w1 ⟨rfl, rfl⟩))
      refine bodyPost_ret (v := .tuple #[.slice (some ⟨w.heap.size, 0, none⟩) 0 0, .bool false]) (by simp [results, Tryd.results8, go_sem]) rfl (HN.out w (Below.refl _ _))
    · cases h3 : updB us
      · have HN := Lib.hid (fun w1 hb => badcase w1 hb (takeR_bad (by rw [h3]; simp)))
        clear badcase
        go_enter Tryd.func8, Tryd.ntmps8
        go_wp2_with (first
          | (go_at_call 23; refine (specLocksValid_any A n c xs w h hn).mono ?_; rintro e w1 ⟨rfl, rfl⟩)
          | (go_at_call 24; refine (l12Txn_any t _).mono ?_; rintro e w1 ⟨rfl, rfl⟩)
          | (go_at_call 25; refine (specUpdatesValid_any A2 n2 c2 us _ hu hn2).mono ?_; rintro e w2 ⟨rfl, hb2⟩))
        refine bodyPost_ret (v := .tuple #[.slice (some ⟨w2.heap.size, 0, none⟩) 0 0, .bool false]) (by simp [results, Tryd.results8, go_sem]) rfl (HN.out w2 hb2)
      · have HOK := Lib.hid (takeR_ok12 h1 h2 h3)
        have hups := updB_ok h3
        have hl4 := locksB_len h1
        clear badcase
        go_enter Tryd.func8, Tryd.ntmps8
        go_wp2_with (first
          | (go_at_call 23; refine (specLocksValid_any A n c xs w h hn).mono ?_; rintro e w1 ⟨rfl, rfl⟩)
          | (go_at_call 24; refine (l12Txn_any t _).mono ?_; rintro e w1 ⟨rfl, rfl⟩)
          | (go_at_call 25; refine (specUpdatesValid_any A2 n2 c2 us _ hu hn2).mono ?_; rintro e w2 ⟨rfl, hb2⟩)
          | (go_at_call 26; refine (l12Take_any A n c xs t A2 n2 c2 us w2 (h.next hb2) (by omega) (hu.next hb2) hn2 hups).mono ?_; rintro e w3 ⟨B, d, rfl, hown3, hb3⟩))
        refine bodyPost_ret (v := .tuple #[.slice B 4 d, .bool (take12 xs t us).2]) (by simp [results, Tryd.results8, go_sem]) rfl ?_
        have hl12 : (take12 xs t us).1.length = 4 := by unfold take12; split <;> simp [lockAll_len, hl4]
        unfold TakeTo
        rw [HOK.out, hl12]
        exact ⟨B, d, rfl, own_baseL hown3 hb2.size, below_ext hb2 hb3⟩
end Go.Proofs.YtpanclbmfpgalaaDoor
