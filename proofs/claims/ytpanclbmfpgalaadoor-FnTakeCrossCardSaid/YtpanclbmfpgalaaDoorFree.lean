/- Walks: release, LocksFree and LocksOf. -/
import Derived.Test.YtpanclbmfpgalaaDoorTake
namespace Go.Proofs.YtpanclbmfpgalaaDoor
open Go.RowKit Go.Sort

def relV (t x : Int) : Int := if x = t then -1 else x
def relL (t : Int) : Nat → List Int → List Int
  | 0, xs => xs
  | _ + 1, [] => []
  | k + 1, x :: xs => relV t x :: relL t k xs
theorem relL_len (t : Int) : ∀ (k : Nat) (xs : List Int), (relL t k xs).length = xs.length
  | 0, xs => rfl
  | _ + 1, [] => rfl
  | k + 1, x :: xs => by simp [relL, relL_len t k xs]
theorem relL_get (t : Int) : ∀ (k : Nat) (xs : List Int) (i : Nat), k ≤ i → (relL t k xs)[i]? = xs[i]?
  | 0, xs, _, _ => rfl
  | _ + 1, [], _, _ => rfl
  | k + 1, x :: xs, 0, h => absurd h (by omega)
  | k + 1, x :: xs, i + 1, h => by simp [relL, relL_get t k xs i (by omega)]
theorem relL_succ (t : Int) : ∀ (k : Nat) (xs : List Int) (x : Int), xs[k]? = some x → relL t (k + 1) xs = (relL t k xs).set k (relV t x)
  | 0, [], _, h => by cases h
  | _ + 1, [], _, h => by cases h
  | 0, y :: xs, x, h => by simp at h; subst h; simp [relL]
  | k + 1, y :: xs, x, h => by
    simp at h
    have := relL_succ t k xs x h
    show relV t y :: relL t (k + 1) xs = (relV t y :: relL t k xs).set (k + 1) (relV t x)
    rw [this]; rfl
theorem relL_all (t : Int) : ∀ (xs : List Int), relL t xs.length xs = xs.map (relV t)
  | [] => rfl
  | x :: xs => by simp [relL, relL_all t xs]
theorem set_same {α : Type} (xs : List α) (k : Nat) (x : α) (h : xs[k]? = some x) : xs.set k x = xs := by
  obtain ⟨h1, h2⟩ := List.getElem?_eq_some_iff.1 h
  subst h2
  exact List.set_getElem_self h1
def hasT (t : Int) (xs : List Int) : Bool := xs.any fun x => x == t
theorem hasT_succ (t : Int) (k : Nat) (xs : List Int) (x : Int) (h : xs[k]? = some x) : hasT t (xs.take (k + 1)) = (hasT t (xs.take k) || x == t) := by
  obtain ⟨h1, h2⟩ := List.getElem?_eq_some_iff.1 h
  unfold hasT
  rw [List.take_succ_eq_append_getElem h1, List.any_append, h2]
  simp

set_option maxHeartbeats 1600000 in
theorem release_any (C g d : Nat) (xs : List Int) (t : Int) (w : World) (hown : w.ownsRow C 3 1 (.slice (some ⟨g, 0, none⟩) 4 d) 4 (ints xs)) :
    Calls Tryd.prog 30 #[.slice (some ⟨g, 0, none⟩) 4 d, .int .i64 t] w fun e w' => e = .returned (.bool (hasT t xs)) ∧ w'.ownsRow C 3 1 (.slice (some ⟨g, 0, none⟩) 4 d) 4 (ints (xs.map (relV t))) ∧ w.grownBy w' (some g) := by
  have hxl : xs.length = 4 := by have := hown.1; rw [length_ints] at this; omega
  go_enter Tryd.func30, Tryd.ntmps30
  go_wp2
  go_loopw [5, 10] (fun s i wr => ∃ k : Nat, k ≤ 4 ∧ i = .int .i64 k ∧ s = .bool (hasT t (xs.take k)) ∧ wr.ownsRow C 3 1 (.slice (some ⟨g, 0, none⟩) 4 d) 4 (ints (relL t k xs)) ∧ w.grownBy wr (some g)) (fun _ i _ => 4 - (intOf i).toNat)
  case atStart => exact ⟨0, Nat.zero_le _, rfl, rfl, hown, World.grownBy.refl w _⟩
  case round =>
    obtain ⟨k, hk, rfl, rfl, hownj, hgj⟩ := hrel
    by_cases hlt : k < 4
    · have hlti : (k : Int) < 4 := by omega
      obtain ⟨x, hx⟩ : ∃ x, xs[k]? = some x := ⟨_, List.getElem?_eq_getElem (by omega)⟩
      have hx2 : (relL t k xs)[k]? = some x := (relL_get t k xs k (Nat.le_refl _)).trans hx
      obtain ⟨CS, hB, -, hCt⟩ := own_blkI hownj
      have hf := hB.frozen k
      have cx : wr.cell? ⟨g, k, none⟩ = some (.int .i64 x) := by
        have := hownj.cells (g := g) rfl k (.int .i64 x) (by rw [ints, List.getElem?_map, hx2]; rfl)
        have ha : (⟨g, 0, none⟩ : Addr).add k = ⟨g, k, none⟩ := by unfold Addr.add; split <;> simp_all
        rwa [ha] at this
      have HS := Lib.hid (relL_succ t k xs x hx)
      have HT := Lib.hid (hasT_succ t k xs x hx)
      have HSS := Lib.hid (set_same _ _ _ hx2)
      clear hx hx2 hCt
      by_cases hx1 : x = t
      · subst hx1
        have hset := own_setI hownj k (.int .i64 (-1))
        rw [ints_set] at hset
        have hgs := grown_setCell (i := k) hgj (.int .i64 (-1))
        go_wp2
        go_roundw
        case rel => exact ⟨k + 1, by omega, by go_num, by rw [HT.out]; simp, by rw [HS.out]; simpa [relV] using hset, hgs⟩
        case measure => simp [intOf]; omega
      · go_wp2
        go_roundw
        case rel => exact ⟨k + 1, by omega, by go_num, by rw [HT.out]; simp [hx1], by rw [HS.out, show relV t x = x from if_neg hx1, HSS.out]; exact hownj, hgj⟩
        case measure => simp [intOf]; omega
    · obtain rfl : k = 4 := by omega
      rw [List.take_of_length_le (by omega)]
      rw [← hxl, relL_all, hxl] at hownj
      go_wp2
      go_ret
      exact ⟨rfl, hownj, hgj⟩

def freeR (xs : List Int) (t : Int) : List Int × Bool := if locksB xs && txnB t then (xs.map (relV t), hasT t xs) else ([], false)
def FreeTo (w : World) (xs : List Int) (t : Int) (e : Ending) (w' : World) : Prop := ∃ B d, e = .returned (.tuple #[.slice B (freeR xs t).1.length d, .bool (freeR xs t).2]) ∧
  w'.ownsRow w.heap.size 3 1 (.slice B (freeR xs t).1.length d) (freeR xs t).1.length (ints (freeR xs t).1) ∧ Below w.heap.size w w'

set_option maxRecDepth 100000 in
set_option maxHeartbeats 1600000 in
theorem implLocksFree_any (A : Option Addr) (n c : Nat) (xs : List Int) (t : Int) (w : World) (h : RInts w A n xs) (hn : n ≤ maxLen) :
    Calls Tryd.prog 12 #[.slice A n c, .int .i64 t] w (FreeTo w xs t) := by
  have hl := h.1
  have nilcase : (locksB xs && txnB t) = false → FreeTo w xs t (.returned (.tuple #[.slice none 0 0, .bool false])) w := fun e => by
    unfold FreeTo freeR; rw [e]; exact ⟨none, 0, rfl, own_nil, Below.refl _ _⟩
  go_enter Tryd.func12, Tryd.ntmps12
  go_wp2_with fail
  refine (implLocksValid_any A n c xs w h hn).mono ?_
  rintro e w1 ⟨rfl, rfl⟩
  cases h1 : locksB xs
  · have HN := Lib.hid (nilcase (by rw [h1]; rfl))
    clear nilcase
    go_wp2_with fail
    refine bodyPost_ret (v := .tuple #[.slice none 0 0, .bool false]) (by simp [results, Tryd.results12, go_sem]) rfl HN.out
  · have hl4 := locksB_len h1
    go_wp2_with fail
    refine (isTxn_any t w).mono ?_
    rintro e w1 ⟨rfl, rfl⟩
    cases h2 : txnB t
    · have HN := Lib.hid (nilcase (by rw [h2]; simp))
      clear nilcase
      go_wp2_with fail
      refine bodyPost_ret (v := .tuple #[.slice none 0 0, .bool false]) (by simp [results, Tryd.results12, go_sem]) rfl HN.out
    · have HOK := Lib.hid (show freeR xs t = (xs.map (relV t), hasT t xs) by unfold freeR; rw [h1, h2]; rfl)
      clear nilcase
      go_wp2_with fail
      refine (cloneI_any A n c xs w h (by omega)).mono ?_
      rintro e w3 ⟨B, d, rfl, hown3, hb3⟩
      have hn4 : n = 4 := by omega
      subst hn4
      obtain ⟨g, rfl, hg1, hg2⟩ := own_addr hown3 (by omega)
      have HLEN := Lib.hid (show (xs.map (relV t)).length = 4 by rw [List.length_map]; exact hl4)
      have hrel := fun W (q : W.ownsRow w.heap.size 3 1 (.slice (some ⟨g, 0, none⟩) 4 d) 4 (ints xs)) => release_any w.heap.size g d xs t W q
      go_wp2_with (go_at_call 30; refine (hrel _ (by first | assumption | exact hown3 | exact own_belowL hown3 (Below.refl _ _).drew)).mono ?_; rintro e w5 ⟨rfl, hown5, hg5⟩)
      all_goals
        refine bodyPost_ret (v := .tuple #[.slice (some ⟨g, 0, none⟩) 4 d, .bool (hasT t xs)]) (by simp [results, Tryd.results12, go_sem]) rfl ?_
        unfold FreeTo
        rw [HOK.out]
        simp only [HLEN.out]
        have hg5' : w3.grownBy w5 (some g) := ⟨hg5.os, hg5.tape, hg5.output, hg5.size, hg5.block⟩
        exact ⟨some ⟨g, 0, none⟩, d, rfl, hown5, hb3.trans ⟨hg5'.os, hg5'.tape, hg5'.output, hg5'.size, fun i hi => hg5'.block i (by have := hb3.size; omega) (by intro e; injection e with e; omega)⟩⟩

def cntT (t : Int) (xs : List Int) : Nat := xs.countP fun x => x == t
theorem cntT_succ (t : Int) (k : Nat) (xs : List Int) (x : Int) (h : xs[k]? = some x) : cntT t (xs.take (k + 1)) = cntT t (xs.take k) + if x = t then 1 else 0 := by
  obtain ⟨h1, h2⟩ := List.getElem?_eq_some_iff.1 h
  unfold cntT
  rw [List.take_succ_eq_append_getElem h1, List.countP_append, h2]
  by_cases hx : x = t
  · simp [hx]
  · simp [hx]
theorem cntT_le (t : Int) (xs : List Int) : cntT t xs ≤ xs.length := List.countP_le_length
def ofN (xs : List Int) (t : Int) : Nat := if locksB xs && txnB t then cntT t xs else 0

set_option maxRecDepth 100000 in
set_option maxHeartbeats 1600000 in
theorem implLocksOf_any (A : Option Addr) (n c : Nat) (xs : List Int) (t : Int) (w : World) (h : RInts w A n xs) (hn : n ≤ maxLen) :
    Calls Tryd.prog 11 #[.slice A n c, .int .i64 t] w fun e w' => (∃ B d, e = .returned (.slice B (ofN xs t) d)) ∧ Below w.heap.size w w' := by
  have hl := h.1
  go_enter Tryd.func11, Tryd.ntmps11
  go_wp2_with fail
  refine (implLocksValid_any A n c xs w h hn).mono ?_
  rintro e w1 ⟨rfl, rfl⟩
  cases h1 : locksB xs
  · have HN := Lib.hid (show ofN xs t = 0 by unfold ofN; rw [h1]; rfl)
    go_wp2_with fail
    go_ret
    exact ⟨⟨none, 0, by rw [HN.out]; rfl⟩, Below.refl _ _⟩
  · have hl4 := locksB_len h1
    go_wp2_with fail
    refine (isTxn_any t w).mono ?_
    rintro e w1 ⟨rfl, rfl⟩
    cases h2 : txnB t
    · have HN := Lib.hid (show ofN xs t = 0 by unfold ofN; rw [h2]; simp)
      go_wp2_with fail
      go_ret
      exact ⟨⟨none, 0, by rw [HN.out]; rfl⟩, Below.refl _ _⟩
    · have HN := Lib.hid (show ofN xs t = cntT t xs by unfold ofN; rw [h1, h2]; rfl)
      have hn4 : n = 4 := by omega
      subst hn4
      clear h1 h2
      go_wp2_with fail
      go_loopw [5, 18] (fun s i wr => ∃ (k m : Nat) (B : Option Addr) (d : Nat) (ys : List Value), k ≤ 4 ∧ m ≤ k ∧ i = .int .i64 k ∧ s = .slice B m d ∧ Hid (m = cntT t (xs.take k)) ∧ wr.ownsRow w.heap.size 3 1 (.slice B m d) m ys ∧ Below w.heap.size w wr) (fun _ i _ => 4 - (intOf i).toNat)
      case atStart => exact ⟨0, 0, none, 0, [], Nat.zero_le _, Nat.zero_le _, rfl, rfl, (show 0 = cntT t (xs.take 0) from rfl), own_nil, Below.refl _ _⟩
      case round =>
        obtain ⟨k, m, B, d, ys, hk, hm, rfl, rfl, hcnt, hownj, hbj⟩ := hrel
        by_cases hlt : k < 4
        · obtain ⟨ad, x, rfl, hb, hx, hc⟩ := (h.next hbj).at_ hlt
          have HT := Lib.hid (cntT_succ t k xs x hx)
          clear hx
          by_cases hx1 : x = t
          · subst hx1
            have hz := hbj.size
            go_wp2_with (at_builtin; refine wpList_app rfl (.tmp 26) (.tmp 28) 23 rfl w.heap.size 3 Tryd.underlying23 int_info1 rfl (by omega) (by omega) _ m _ rfl (hownj.alloc _) ⟨wr.heap.size, 0, none⟩ 1 1 [.int .i64 k] rfl rfl (cell_one_new _ _ _) (by simp [Value.oneCell']) (by omega) (Nat.le_trans hz (by simp)) ?_; intro B' d' w4 hown4 _ hb4 hg4 _)
            go_roundw
            case rel => exact ⟨k + 1, m + 1, B', d', _, by omega, by omega, by go_num, rfl, (show m + 1 = cntT x (xs.take (k + 1)) by rw [HT.out, hcnt.out]; simp), hown4, hbj.trans (((below_box wr (.cells #[.int .i64 (k : Int)] 3)).mono hz).trans hb4)⟩
            case measure => simp [intOf]; omega
          · go_wp2
            go_roundw
            case rel => exact ⟨k + 1, m, B, d, ys, by omega, by omega, by go_num, rfl, (show m = cntT t (xs.take (k + 1)) by rw [HT.out, hcnt.out]; simp [hx1]), hownj, hbj⟩
            case measure => simp [intOf]; omega
        · obtain rfl : k = 4 := by omega
          rw [List.take_of_length_le (by omega)] at hcnt
          go_wp2
          go_ret
          exact ⟨⟨B, d, by rw [HN.out, ← hcnt.out]; rfl⟩, hbj⟩
end Go.Proofs.YtpanclbmfpgalaaDoor
