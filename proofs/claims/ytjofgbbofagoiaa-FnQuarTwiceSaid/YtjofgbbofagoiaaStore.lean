/- Walks: drawing a store: the result is a list of valid objects in blocks of its own. -/
import Derived.Test.YtjofgbbofagoiaaPut
import Derived.Test.YtjofgbbofagoiaaDrawObj
namespace Go.Proofs.Ytjofgbbofagoiaa
open Go.RowKit Go.Sort

theorem OwnO.form {w : World} {B n : Nat} {v : Value} {os : List Ob} (h : OwnO w B v n os) : ∃ A c, v = .slice A n c ∧ n ≤ c := let ⟨_, h1, _⟩ := h; own_form h1
theorem OwnO.grownR {w w' : World} {B n : Nat} {v : Value} {os : List Ob} {row : Option Nat} (h : OwnO w B v n os) (hg : w.grownBy w' row) (hlt : ∀ g, row = some g → g < B) : OwnO w' B v n os := by
  obtain ⟨cs, h1, h2⟩ := h
  exact ⟨cs, h1.kept hg (by
    cases hv : v.ownBlock with
    | none => exact Or.inl rfl
    | some g' => exact Or.inr (fun he => by have := (h1.lt g' hv).1; have := hlt g' he.symm; omega)), h2.mono fun A m xs hx => hx.grown hg (fun g' e => Or.inl (hlt g' e))⟩
theorem own_far {w : World} {base n d size : Nat} {e : TypeId} {B : Option Addr} {xs : List Value} (h : w.ownsRow base e size (.slice B n d) n xs) : ∀ ad, B = some ad → base ≤ ad.block := by
  intro ad hB
  rcases h.2 with ⟨h0, _⟩ | ⟨g, cap, cur, hv, hb, _⟩
  · injection h0 with h1 _ _; rw [h1] at hB; cases hB
  · injection hv with h1 _ _; rw [h1] at hB; cases hB; exact hb

theorem putO_ok {os : List Ob} {o : Ob} (h : ∀ x ∈ os, x.ok = true) (ho : o.ok = true) : ∀ x ∈ (putO os o).1, x.ok = true := by
  have h1 : ∀ x ∈ os.take (posO os o.id) ++ [o] ++ os.drop (posO os o.id), x.ok = true := by
    intro x hx
    simp only [List.mem_append, List.mem_singleton] at hx
    rcases hx with (hx | rfl) | hx
    · exact h x (List.mem_of_mem_take hx)
    · exact ho
    · exact h x (List.mem_of_mem_drop hx)
  unfold putO
  split
  · split
    · exact h
    · split
      · exact h
      · exact h1
  · split
    · exact h
    · exact h1
theorem putO_len (os : List Ob) (o : Ob) : (putO os o).1.length ≤ os.length + 1 := by
  have h1 : (os.take (posO os o.id) ++ [o] ++ os.drop (posO os o.id)).length ≤ os.length + 1 := by
    simp only [List.length_append, List.length_take, List.length_drop, List.length_singleton]; omega
  unfold putO
  split
  · split
    · simp
    · split
      · simp
      · exact h1
  · split
    · simp
    · exact h1

/-- a list of valid objects, at most M, in blocks from B on -/
def IsStore (B M : Nat) (v : Value) (w : World) : Prop := ∃ (m : Nat) (os : List Ob), OwnO w B v m os ∧ m ≤ M ∧ ∀ o ∈ os, o.ok = true

/-- where l91Store stands -/
def StP (g : Nat) (w : World) (A : Option Addr) (m c : Nat) (os : List Ob) (B : Option Addr) (d e : Nat) (is : List Int) (q : Nat) (wx : World) : Prop :=
  OwnO wx w.heap.size (.slice A m c) m os ∧ wx.ownsRow w.heap.size 3 1 (.slice B d e) d (ints is) ∧ Rd wx g q ∧ w.grownBy wx (some g)
section
variable {g m c d e q : Nat} {w wx wy : World} {A B : Option Addr} {os : List Ob} {is : List Int}
theorem StP.draw {q' : Nat} (hgw : g < w.heap.size) (h : StP g w A m c os B d e is q wx) (hr : Rd wy g q') (hg : wx.grownBy wy (some g)) : StP g w A m c os B d e is q' wy :=
  ⟨h.1.grown hg hgw, own_grown h.2.1 hg hgw, hr, grown_trans h.2.2.2 hg⟩
theorem StP.next (h : StP g w A m c os B d e is q wx) (hb : Below wx.heap.size wx wy) : StP g w A m c os B d e is q wy :=
  ⟨h.1.next hb, own_below h.2.1 hb, h.2.2.1.keep hb, grown_below h.2.2.2 hb⟩
theorem StP.put {w6 w7 w8 : World} {A' B' : Option Addr} {m' c' e' : Nat} {os' : List Ob} {x : Int} (hgw : g < w.heap.size) (h : StP g w A m c os B d e is q wx)
    (hO6 : OwnO w6 wx.heap.size (.slice A' m' c') m' os') (hb6 : Below wx.heap.size wx w6) (hb7 : Below w6.heap.size w6 w7)
    (hown8 : w8.ownsRow w.heap.size 3 1 (.slice B' (d + 1) e') (d + 1) (ints is ++ [.int .i64 x])) (hb8 : Below w.heap.size (w7.alloc (.cells #[.int .i64 x] 3)) w8)
    (hg8 : (w7.alloc (.cells #[.int .i64 x] 3)).grownBy w8 (Value.slice B d e).ownBlock) : StP g w A' m' c' os' B' (d + 1) e' (is ++ [x]) q w8 := by
  have hz := h.2.2.2.size
  have hb7' := hb7.size
  have hb6' := hb6.size
  have h7 := ((h.next hb6).next hb7).next (below_box w7 (.cells #[.int .i64 x] 3))
  have hO7 := (hO6.next hb7).next (below_box w7 (.cells #[.int .i64 x] 3))
  refine ⟨(hO7.grownR hg8 (fun g' e => ((h.2.1.lt g' e).2))).base hz, by rw [← ints_snoc]; exact hown8, ?_, ?_⟩
  · obtain ⟨A', n', c', hA', hn', hr'⟩ := h7.2.2.1
    exact ⟨A', n', c', hA'.below hb8 hgw, hn', hr'.keep fun a ha => hb8.cell (by omega)⟩
  · have h3 := h7.2.2.2
    exact ⟨hb8.os.trans h3.os, hb8.tape.trans h3.tape, hb8.output.trans h3.output, Nat.le_trans h3.size hb8.size, fun i hi hne => (hb8.block i hi).trans (h3.block i hi hne)⟩
end

set_option maxHeartbeats 3200000 in
theorem l91Store_any (g p : Nat) (w : World) (h : Rd w g p) (hp : p ≤ 700000) :
    Calls Try.prog 77 #[.pointer (some ⟨g, 0, none⟩)] w (Drawn g p 5000 w (IsStore w.heap.size 20)) := by
  have hgw := h.lt
  have b0 := below_box2 w (.cells #[] 33) (.cells #[] 3)
  have E1 : Blk ((w.alloc (.cells #[] 33)).alloc (.cells #[] 3)) w.heap.size 33 [] := (Blk.new w 33 []).alloc (.cells #[] 3)
  have E2 : Blk ((w.alloc (.cells #[] 33)).alloc (.cells #[] 3)) (w.heap.size + 1) 3 [] := by
    have := Blk.new (w.alloc (.cells #[] 33)) 3 []
    rwa [show (w.alloc (.cells #[] 33)).heap.size = w.heap.size + 1 from by simp] at this
  have hS0 : StP g w (some ⟨w.heap.size, 0, none⟩) 0 0 [] (some ⟨w.heap.size + 1, 0, none⟩) 0 0 [] p ((w.alloc (.cells #[] 33)).alloc (.cells #[] 3)) :=
    ⟨⟨[], own_emp E1 (Nat.le_refl _), Elems.nil⟩, own_emp E2 (by omega), h.keep b0, grown_below (World.grownBy.refl w _) b0⟩
  go_enter Try.func77, Try.ntmps77
  go_wp2_with fail
  refine (pick_any g p 10 _ (h.keep b0) (by omega) (by omega) (by omega)).mono ?_
  rintro e w1 ⟨v1, rfl, h10, h11, hr1, hg1⟩
  have hS1 := hS0.draw hgw hr1 hg1
  go_upto_if 16 with (go_at_call 41; refine (pick_any g _ 12 _ hr1 (by omega) (by omega) (by omega)).mono ?_; rintro e w2 ⟨v2, rfl, h20, h21, hr2, hg2⟩)
  have hS2 := hS1.draw hgw hr2 hg2
  go_cut [5] from 6 (fun z wx => ∃ N : Nat, z = .int .i64 N ∧ N ≤ 20 ∧ wx = w2)
  case first =>
    go_wp2_with fail
    · go_meet
      case rel => exact ⟨20, rfl, by omega, rfl⟩
    · go_meet
      case rel => exact ⟨v1.toNat, by rw [Int.toNat_of_nonneg h10], by omega, rfl⟩
  obtain ⟨N, rfl, hN, rfl⟩ := hcut
  clear hS0 hS1 E1 E2 hr1 hg1 hr2 hg2 h10 h11 h20 h21 b0
  go_wp2_with fail
  go_loopw [3, 4, 6] (fun s i k wr => ∃ (kk : Nat) (A : Option Addr) (m c : Nat) (os : List Ob) (B : Option Addr) (d e : Nat) (is : List Int) (q : Nat), kk ≤ N ∧ k = .int .i64 kk ∧ s = .slice A m c ∧ i = .slice B d e ∧ m ≤ kk ∧ m ≤ c ∧ d ≤ kk ∧ q ≤ p + 2 + 200 * kk ∧ (∀ o ∈ os, o.ok = true) ∧ StP g w A m c os B d e is q wr) (fun _ _ k _ => N - (intOf k).toNat)
  case atStart => exact ⟨0, _, 0, 0, [], _, 0, 0, [], _, by omega, rfl, rfl, rfl, by omega, by omega, by omega, by omega, by simp, hS2⟩
  case round =>
    obtain ⟨k, A, m, c, os, B, d, e, is, q, hk, rfl, rfl, rfl, hm, hmc, hd, hq, hok, hS⟩ := hrel
    by_cases hlt : k < N
    · go_wp2_with fail
      refine (l91Object_any g q B d e is _ hS.2.2.1 (by omega) (RInts.of_own hS.2.1) (by omega) (fun ad hB => by have := own_far hS.2.1 ad hB; omega)).mono ?_
      rintro e' w3 ⟨v, q3, rfl, ⟨k1, A1, n1, c1, xs, t, rfl, hown1, hn1, hn1l, ht1, -, -⟩, hq3, hr3, hg3⟩
      have hS3 := hS.draw hgw hr3 hg3
      have hri := (RInts.of_own hown1).next (below_box w3 (.cells #[.int .i64 k1, .slice A1 n1 c1, .string t] 33))
      have bo := Blk.new w3 33 [.int .i64 k1, .slice A1 n1 c1, .string t]
      have hS4 := hS3.next (below_box w3 (.cells #[.int .i64 k1, .slice A1 n1 c1, .string t] 33))
      have HN1 := Lib.hid hn1
      clear hn1
      go_wp2_with fail
      generalize hW3 : w3.alloc (.cells #[.int .i64 k1, .slice A1 n1 c1, .string t] 33) = w4 at *
      have HW3 := Lib.hid hW3
      clear hW3
      refine (specValid_any _ _ _ _ xs _ _ hri (by simp only [maxLen]; omega)).mono ?_
      rintro e' w5 ⟨rfl, hb5⟩
      have hS5 := hS4.next hb5
      have bo5 := bo.next hb5
      have hri5 := hri.next hb5
      cases hv : objOkB k1 xs t
      · go_wp2_with fail
        go_roundw
        case rel => exact ⟨k + 1, A, m, c, os, B, d, e, is, q3, by omega, by go_num, rfl, rfl, by omega, hmc, by omega, by omega, hok, hS5⟩
        case measure => simp [intOf]; omega
      · go_wp2_with fail
        refine (specStoreValid_any _ _ _ os _ hS5.1.reads (by simp only [maxLen]; omega)).mono ?_
        rintro e' w6 ⟨rfl, hb6⟩
        have hS6 := hS5.next hb6
        have bo6 := bo5.next hb6
        have hri6 := hri5.next hb6
        obtain ⟨c60, c61, c62⟩ := bo6.cells3
        cases hs : storeB os
        · go_wp2_with fail
          go_roundw
          case rel => exact ⟨k + 1, A, m, c, os, B, d, e, is, q3, by omega, by go_num, rfl, rfl, by omega, hmc, by omega, by omega, hok, hS6⟩
          case measure => simp [intOf]; omega
        · have ho : (⟨k1, xs, t⟩ : Ob).ok = true := hv
          go_wp2_with fail
          refine (l1Put_any A m c os ⟨k1, xs, t⟩ A1 n1 c1 _ hS6.1.reads (by omega) hmc hok hri6 ho).mono ?_
          rintro e' w7 ⟨v7, rfl, hO7, hb7⟩
          have hok7 := putO_ok hok ho
          have hlen7 : (putO os ⟨k1, xs, t⟩).1.length ≤ m + 1 := by have := putO_len os ⟨k1, xs, t⟩; have := hS6.1.reads.1; omega
          generalize hP : putO os ⟨k1, xs, t⟩ = P at *
          have HP := Lib.hid hP
          clear hP
          obtain ⟨os7, b7⟩ := P
          simp only at hO7 hok7 hlen7
          generalize hM : os7.length = m7 at *
          have HM := Lib.hid hM
          clear hM
          obtain ⟨A7, c7, rfl, hmc7⟩ := hO7.form
          have hS7 := hS6.next hb7
          obtain ⟨c70, c71, c72⟩ := (bo6.next hb7).cells3
          have hri7 := hri6.next hb7
          cases b7
          · go_wp2_with fail
            go_roundw
            case rel => exact ⟨k + 1, A, m, c, os, B, d, e, is, q3, by omega, by go_num, rfl, rfl, by omega, hmc, by omega, by omega, hok, hS7⟩
            case measure => simp [intOf]; omega
          · go_wp2_with fail
            refine (l1Of_any _ _ _ _ xs _ _ hri7 (ObjOk.of hv)).mono ?_
            rintro e' w8 ⟨rfl, hb8⟩
            have hS8 := (hS7.next hb8).next (below_box w8 (.cells #[.int .i64 (idV k1 xs t)] 3))
            have hz8 := hS8.2.2.2.size
            generalize hI : idV k1 xs t = x8 at *
            have HI := Lib.hid hI
            clear hI
            go_wp2_with (at_builtin; go_loud (refine wpList_app rfl (.tmp 41) (.tmp 44) 27 rfl w.heap.size 3 Try.underlying27 int_info1 rfl (by omega) (by omega) _ d (ints is) rfl hS8.2.1 ⟨w8.heap.size, 0, none⟩ 1 1 [.int .i64 x8] rfl rfl (cell_one_new _ _ _) (by simp [Value.oneCell']) (by omega) hz8 ?_; intro B' d' w9 hown9 _ hb9 hg9 _))
            go_roundw
            case rel => exact ⟨k + 1, A7, m7, c7, os7, B', d + 1, d', is ++ [x8], q3, by omega, by go_num, rfl, rfl, by omega, hmc7, by omega, by omega, hok7, hS6.put hgw hO7 hb7 hb8 hown9 hb9 hg9⟩
            case measure => simp [intOf]; omega
    · go_wp2
      go_ret
      exact ⟨_, q, rfl, ⟨m, os, hS.1, by omega, hok⟩, by omega, hS.2.2.1, hS.2.2.2⟩
end Go.Proofs.Ytjofgbbofagoiaa
