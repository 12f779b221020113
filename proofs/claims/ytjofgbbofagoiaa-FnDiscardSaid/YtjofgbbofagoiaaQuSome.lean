/- Walk: l92Some: some objects, with links to those of a store. -/
import Derived.Test.YtjofgbbofagoiaaQuPut
namespace Go.Proofs.Ytjofgbbofagoiaa
open Go.RowKit Go.Sort

set_option maxRecDepth 100000 in
set_option maxHeartbeats 6400000 in
theorem l92Some_any (g p : Nat) (D : Option Addr) (r dd : Nat) (ss : List Ob) (w : World) (h : Rd w g p) (hp : p ≤ 700000) (hl : RObjs w D r ss) (hr : r ≤ 50) (hss : ∀ o ∈ ss, o.ok = true) :
    Calls Try.prog 64 #[.pointer (some ⟨g, 0, none⟩), .slice D r dd] w (Drawn g p 1000 w (IsStore w.heap.size 3)) := by
  have hgw := h.lt
  have b0 := below_box2 w (.cells #[] 33) (.cells #[] 3)
  have E1 : Blk ((w.alloc (.cells #[] 33)).alloc (.cells #[] 3)) w.heap.size 33 [] := (Blk.new w 33 []).alloc (.cells #[] 3)
  have E2 : Blk ((w.alloc (.cells #[] 33)).alloc (.cells #[] 3)) (w.heap.size + 1) 3 [] := by
    have := Blk.new (w.alloc (.cells #[] 33)) 3 []
    rwa [show (w.alloc (.cells #[] 33)).heap.size = w.heap.size + 1 from by simp] at this
  go_enter Try.func64, Try.ntmps64
  go_wp2_with fail
  go_loopw [6, 7] (fun s i wr => ∃ (k : Nat) (B : Option Addr) (e : Nat) (is : List Int), k ≤ r ∧ i = .int .i64 k ∧ s = .slice B k e ∧ wr.ownsRow w.heap.size 3 1 (.slice B k e) k (ints is) ∧ Blk wr w.heap.size 33 [] ∧ Below w.heap.size w wr) (fun _ i _ => r - (intOf i).toNat)
  case atStart => exact ⟨0, _, 0, [], Nat.zero_le _, rfl, rfl, own_emp E2 (by omega), E1, b0⟩
  case round =>
    obtain ⟨k, B, e, is, hk, rfl, rfl, hown, hE, hbr⟩ := hrel
    by_cases hlt : k < r
    · obtain ⟨b, off, o, rfl, hb, hx, hob⟩ := (hl.next hbr).at_ hlt
      obtain ⟨L, ml, dl, c0, c1, c2', hri, hml, ht⟩ := hob
      have hoo := ObjOk.of (hss o (List.mem_of_getElem? hx))
      have hz := hbr.size
      clear hx
      go_wp2_with fail
      refine (l1Of_any _ _ _ _ o.xs _ _ hri hoo).mono ?_
      rintro e' w8 ⟨rfl, hb8⟩
      generalize hI : idV o.k o.xs o.t = x8 at *
      have HI := Lib.hid hI
      clear hI
      have by8 := below_ext hb8 (below_box w8 (.cells #[.int .i64 x8] 3))
      have hown8 := own_below hown by8
      have hE8 := hE.next by8
      have hz8 := by8.size
      have hz8' := hb8.size
      go_wp2_with (at_builtin; go_loud (refine wpList_app rfl (.tmp 21) (.tmp 27) 27 rfl w.heap.size 3 Try.underlying27 int_info1 rfl (by omega) (by omega) _ k (ints is) rfl hown8 ⟨w8.heap.size, 0, none⟩ 1 1 [.int .i64 x8] rfl rfl (cell_one_new _ _ _) (by simp [Value.oneCell']) (by omega) (by omega) ?_; intro B' d' w9 hown9 _ hb9 hg9 _))
      go_roundw
      case rel => exact ⟨k + 1, B', d', is ++ [x8], by omega, by go_num, rfl, by rw [← ints_snoc]; exact hown9, hE8.grown hg9 (fun e => own_ne_blk hown8 hE8 (by decide) e.symm), (below_ext hbr by8).trans hb9⟩
      case measure => simp [intOf]; omega
    · obtain rfl : k = r := by omega
      have hS0 : StP g w (some ⟨w.heap.size, 0, none⟩) 0 0 [] B k e is p wr := ⟨⟨[], own_emp hE (Nat.le_refl _), Elems.nil⟩, hown, h.keep hbr, grown_below (World.grownBy.refl w _) hbr⟩
      go_wp2_with fail
      refine (pick_any g p 3 _ (h.keep hbr) (by omega) (by omega) (by omega)).mono ?_
      rintro e w1 ⟨v1, rfl, h10, h11, hr1, hg1⟩
      have hS1 := hS0.draw hgw hr1 hg1
      obtain ⟨N, rfl⟩ := Int.eq_ofNat_of_zero_le h10
      have hN : N ≤ 2 := by omega
      have hwN : IntKind.i64.wrap (1 + (N : Int)) = 1 + (N : Int) := by rw [IntKind.wrap_i64]; omega
      clear hS0 hE hown E1 E2 hr1 hg1 h10 h11 b0
      generalize hRR : k = rr at *
      go_wp2_with fail
      go_loopw [5, 6, 9] (fun s i k wr => ∃ (kk : Nat) (A : Option Addr) (m c : Nat) (os : List Ob) (B : Option Addr) (d e : Nat) (is : List Int) (q : Nat), kk ≤ 1 + N ∧ k = .int .i64 kk ∧ s = .slice A m c ∧ i = .slice B d e ∧ m ≤ kk ∧ m ≤ c ∧ d ≤ 50 + kk ∧ q ≤ p + 1 + 200 * kk ∧ (∀ o ∈ os, o.ok = true) ∧ StP g w A m c os B d e is q wr) (fun _ _ k _ => 1 + N - (intOf k).toNat)
      case atStart => exact ⟨0, _, 0, 0, [], _, _, _, _, _, by omega, rfl, rfl, rfl, by omega, by omega, by omega, by omega, by simp, hS1⟩
      case round =>
        obtain ⟨k, A, m, c, os, B, d, e, is, q, hk, rfl, rfl, rfl, hm, hmc, hd, hq, hok, hS⟩ := hrel
        by_cases hlt : k < 1 + N
        · have hlti : (k : Int) < 1 + (N : Int) := by omega
          go_wp2_with fail
          refine (l91Object_any g q B d e is _ hS.2.2.1 (by omega) (RInts.of_own hS.2.1) (by omega) (fun ad hB => by have := own_far hS.2.1 ad hB; omega)).mono ?_
          rintro e' w3 ⟨v, q3, rfl, ⟨k1, A1, n1, c1, xs, t, rfl, hown1, hn1, hn1l, ht1, -, -⟩, hq3, hr3, hg3⟩
          have hS3 := hS.draw hgw hr3 hg3
          have hri := (RInts.of_own hown1).next (below_box w3 (.cells #[.int .i64 k1, .slice A1 n1 c1, .string t] 33))
          have bo := Blk.new w3 33 [.int .i64 k1, .slice A1 n1 c1, .string t]
          have hS4 := hS3.next (below_box w3 (.cells #[.int .i64 k1, .slice A1 n1 c1, .string t] 33))
          have HN1 := Lib.hid hn1
          clear hn1
          go_wp2_with fail
          generalize hW3 : w3.alloc (.cells #[.int .i64 k1, .slice A1 n1 c1, .string t] 33) = w4 at *
          have HW3 := Lib.hid hW3
          clear hW3
          refine (specValid_any _ _ _ _ xs _ _ hri (by simp only [maxLen]; omega)).mono ?_
          rintro e' w5 ⟨rfl, hb5⟩
          have hS5 := hS4.next hb5
          have bo5 := bo.next hb5
          have hri5 := hri.next hb5
          cases hv : objOkB k1 xs t
          · go_wp2_with fail
            go_roundw
            case rel => exact ⟨k + 1, A, m, c, os, B, d, e, is, q3, by omega, by go_num, rfl, rfl, by omega, hmc, by omega, by omega, hok, hS5⟩
            case measure => simp [intOf]; omega
          · have bo6 := bo5
            have hri6 := hri5
            have hS6 := hS5
            obtain ⟨c60, c61, c62⟩ := bo6.cells3
            skip
            have ho : (⟨k1, xs, t⟩ : Ob).ok = true := hv
            go_wp2_with fail
            refine (l1Put_any A m c os ⟨k1, xs, t⟩ A1 n1 c1 _ hS6.1.reads (by omega) hmc hok hri6 ho).mono ?_
            rintro e' w7 ⟨v7, rfl, hO7, hb7⟩
            have hok7 := putO_ok hok ho
            have hlen7 : (putO os ⟨k1, xs, t⟩).1.length ≤ m + 1 := by have := putO_len os ⟨k1, xs, t⟩; have := hS6.1.reads.1; omega
            generalize hP : putO os ⟨k1, xs, t⟩ = P at *
            have HP := Lib.hid hP
            clear hP
            obtain ⟨os7, b7⟩ := P
            simp only at hO7 hok7 hlen7
            generalize hM : os7.length = m7 at *
            have HM := Lib.hid hM
            clear hM
            obtain ⟨A7, c7, rfl, hmc7⟩ := hO7.form
            have hS7 := hS6.next hb7
            obtain ⟨c70, c71, c72⟩ := (bo6.next hb7).cells3
            have hri7 := hri6.next hb7
            cases b7
            · go_wp2_with fail
              go_roundw
              case rel => exact ⟨k + 1, A, m, c, os, B, d, e, is, q3, by omega, by go_num, rfl, rfl, by omega, hmc, by omega, by omega, hok, hS7⟩
              case measure => simp [intOf]; omega
            · go_wp2_with fail
              refine (l1Of_any _ _ _ _ xs _ _ hri7 (ObjOk.of hv)).mono ?_
              rintro e' w8 ⟨rfl, hb8⟩
              have hS8 := (hS7.next hb8).next (below_box w8 (.cells #[.int .i64 (idV k1 xs t)] 3))
              have hz8 := hS8.2.2.2.size
              generalize hI : idV k1 xs t = x8 at *
              have HI := Lib.hid hI
              clear hI
              go_wp2_with (at_builtin; go_loud (refine wpList_app rfl (.tmp 50) (.tmp 53) 27 rfl w.heap.size 3 Try.underlying27 int_info1 rfl (by omega) (by omega) _ d (ints is) rfl hS8.2.1 ⟨w8.heap.size, 0, none⟩ 1 1 [.int .i64 x8] rfl rfl (cell_one_new _ _ _) (by simp [Value.oneCell']) (by omega) hz8 ?_; intro B' d' w9 hown9 _ hb9 hg9 _))
              go_roundw
              case rel => exact ⟨k + 1, A7, m7, c7, os7, B', d + 1, d', is ++ [x8], q3, by omega, by go_num, rfl, rfl, by omega, hmc7, by omega, by omega, hok7, hS6.put hgw hO7 hb7 hb8 hown9 hb9 hg9⟩
              case measure => simp [intOf]; omega
        · have hlti : ¬ (k : Int) < 1 + (N : Int) := by omega
          go_wp2_with fail
          go_ret
          exact ⟨_, q, rfl, ⟨m, os, hS.1, by omega, hok⟩, by omega, hS.2.2.1, hS.2.2.2⟩
end Go.Proofs.Ytjofgbbofagoiaa
