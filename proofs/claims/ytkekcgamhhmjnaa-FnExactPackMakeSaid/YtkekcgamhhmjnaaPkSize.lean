/- Walks: DeltaSize, the program's and the reference's; depths: l3Depth, the program's depth of a node. -/
import Derived.Test.YtkekcgamhhmjnaaPkData
namespace Go.Proofs.Ytkekcgamhhmjnaa
open Go.RowKit Go.Sort

theorem dsz_le {ops : List Dp} {B : Nat} (h : ∀ o ∈ ops, o.tx.size ≤ B) : dsz ops ≤ ops.length * (B + 1) := by
  induction ops with
  | nil => simp [dsz]
  | cons o l ih =>
    have h1 := ih fun x hx => h x (List.mem_cons_of_mem _ hx)
    have h2 := h o (by simp)
    rw [dsz, List.length_cons, Nat.succ_mul]
    omega
theorem dmake_dsz (b t : ByteArray) : dsz (dmake b t) ≤ 72 := by
  have h := dmake_small b t
  have h1 := dsz_le (B := 8) (ops := dmake b t) fun o ho => by have := h.2 o ho; omega
  have h2 : (dmake b t).length * (8 + 1) ≤ 8 * (8 + 1) := Nat.mul_le_mul_right _ (by have := h.1; omega)
  omega
theorem dsz_part {ops : List Dp} (k : Nat) : dsz (ops.take k) ≤ dsz ops := by
  have := dsz_app (ops.take k) (ops.drop k)
  rw [List.take_append_drop] at this
  omega
theorem dsz_len : ∀ ops : List Dp, ops.length ≤ dsz ops
  | [] => Nat.le_refl _
  | o :: l => by have := dsz_len l; rw [dsz, List.length_cons]; omega
/-- the texts' sizes alone -/
theorem dsz_take2 {ops : List Dp} {k : Nat} {o : Dp} (h : ops[k]? = some o) : dsz (ops.take (k + 1)) - (k + 1) = (dsz (ops.take k) - k) + o.tx.size := by
  have h1 := dsz_take h
  have h2 := dsz_len (ops.take k)
  have hk : k < ops.length := (List.getElem?_eq_some_iff.1 h).1
  rw [List.length_take, Nat.min_eq_left (Nat.le_of_lt hk)] at h2
  omega
set_option maxHeartbeats 1600000 in
theorem specDeltaSize_any (A : Option Addr) (n c : Nat) (ops : List Dp) (w : World) (h : RSl repDp 0 w A n ops) (hn : n ≤ maxLen) (hB : dsz ops ≤ 1000000) :
    Calls Try.prog 55 #[.slice A n c] w fun e w' => e = .returned (.int .i64 (dsz ops)) ∧ Below w.heap.size w w' := by
  have hl := h.1
  unfold maxLen at hn
  go_enter Try.func55, Try.ntmps55
  go_wp2_with fail
  go_loopw [3, 4] (fun q i wr => ∃ k : Nat, k ≤ n ∧ i = .int .i64 k ∧ q = .int .i64 ((dsz (ops.take k) : Nat) : Int) ∧ Below w.heap.size w wr) (fun _ i _ => n - (intOf i).toNat)
  case atStart => exact ⟨0, Nat.zero_le _, rfl, by simp [dsz], Below.refl _ _⟩
  case round =>
    obtain ⟨k, hk, rfl, rfl, hbr⟩ := hrel
    by_cases hlt : k < n
    · obtain ⟨b, off, x, cs, rfl, hb, hx, hc, hv⟩ := (h.next hbr).at_ hlt
      obtain ⟨rfl, ht⟩ := repDp_cells hv
      have c2 : wr.cell? ⟨b, off + k * 3 + 1 + 1, none⟩ = some (.string x.tx) := hc 2 _ rfl
      have c3 : wr.cell? ⟨b, off + k * 3 + 2, none⟩ = some (.string x.tx) := hc 2 _ rfl
      have HT := Lib.hid (dsz_take hx)
      have hp := dsz_part (ops := ops) (k + 1)
      rw [HT.out] at hp
      generalize dsz (ops.take k) = q at *
      clear hx hc hv
      unfold maxLen at ht
      have hw1 : IntKind.i64.wrap ((q : Int) + 1) = (q : Int) + 1 := by rw [IntKind.wrap_i64]; omega
      have hw2 : IntKind.i64.wrap ((q : Int) + 1 + (x.tx.size : Int)) = ((q + 1 + x.tx.size : Nat) : Int) := by rw [IntKind.wrap_i64]; omega
      go_wp2_with fail
      go_roundw
      case rel => exact ⟨k + 1, by omega, by go_num, by rw [HT.out]; go_num, hbr⟩
      case measure => simp [intOf]; omega
    · obtain rfl : k = n := by omega
      go_wp2_with fail
      go_ret
      exact ⟨by rw [List.take_of_length_le (by omega)]; rfl, hbr⟩
set_option maxHeartbeats 1600000 in
theorem implDeltaSize_any (A : Option Addr) (n c : Nat) (ops : List Dp) (w : World) (h : RSl repDp 0 w A n ops) (hn : n ≤ maxLen) (hB : dsz ops ≤ 1000000) :
    Calls Try.prog 15 #[.slice A n c] w fun e w' => e = .returned (.int .i64 (dsz ops)) ∧ Below w.heap.size w w' := by
  have hl := h.1
  have hnd := dsz_len ops
  unfold maxLen at hn
  go_enter Try.func15, Try.ntmps15
  go_wp2_with fail
  go_loopw [3, 10] (fun q i wr => ∃ (k s : Nat), k ≤ n ∧ i = .int .i64 k ∧ q = .int .i64 s ∧ s ≤ dsz ops ∧ Hid (s = n + (dsz (ops.take k) - k)) ∧ Below w.heap.size w wr) (fun _ i _ => n - (intOf i).toNat)
  case atStart => exact ⟨0, n, Nat.zero_le _, rfl, rfl, by omega, Lib.hid (by simp [dsz]), Below.refl _ _⟩
  case round =>
    obtain ⟨k, s, hk, rfl, rfl, hs, HS, hbr⟩ := hrel
    by_cases hlt : k < n
    · obtain ⟨b, off, x, cs, rfl, hb, hx, hc, hv⟩ := (h.next hbr).at_ hlt
      obtain ⟨rfl, ht⟩ := repDp_cells hv
      have c0 : wr.cell? ⟨b, off + k * 3, none⟩ = some (.int .i64 x.at_) := hc 0 _ rfl
      have c1 : wr.cell? ⟨b, off + k * 3 + 1, none⟩ = some (.int .i64 x.sz) := hc 1 _ rfl
      have c2 : wr.cell? ⟨b, off + k * 3 + 1 + 1, none⟩ = some (.string x.tx) := hc 2 _ rfl
      have HT := Lib.hid (dsz_take2 hx)
      have hp : s + x.tx.size ≤ dsz ops := by
        have h1 := dsz_app (ops.take (k + 1)) (ops.drop (k + 1))
        rw [List.take_append_drop] at h1
        have h2 := dsz_len (ops.drop (k + 1))
        rw [List.length_drop] at h2
        have h3 := dsz_len (ops.take (k + 1))
        rw [List.length_take, Nat.min_eq_left (by omega)] at h3
        have h4 := HT.out
        have h5 := HS.out
        omega
      have hbx := below_box wr (.cells #[.int .i64 x.at_, .int .i64 x.sz, .string x.tx] 62)
      clear hx hc hv
      unfold maxLen at ht
      have hw2 : IntKind.i64.wrap ((s : Int) + (x.tx.size : Int)) = ((s + x.tx.size : Nat) : Int) := by rw [IntKind.wrap_i64]; omega
      go_wp2_with fail
      go_roundw
      case rel => exact ⟨k + 1, s + x.tx.size, by omega, by go_num, rfl, hp, Lib.hid (by have := HT.out; have := HS.out; omega), below_ext hbr hbx⟩
      case measure => simp [intOf]; omega
    · obtain rfl : k = n := by omega
      go_wp2_with fail
      go_ret
      refine ⟨ret_int ?_, hbr⟩
      have := HS.out
      rw [List.take_of_length_le (by omega)] at this
      omega
theorem getD_b {ps : List Pe} {i : Nat} {x : Pe} (h : ps[i]? = some x) : (ps.map Pe.b).getD i (-1) = x.b := by simp [List.getD, h]
set_option maxHeartbeats 1600000 in
theorem l3Depth_any (A : Option Addr) (n c i : Nat) (ps : List Pe) (w : World) (h : RSl repPe 0 w A n ps) (hn : n ≤ 1000000) (hi : i < n) (hok : OkB (ps.map Pe.b)) :
    Calls Try.prog 56 #[.slice A n c, .int .i64 i] w fun e w' => e = .returned (.int .i64 (dep (ps.map Pe.b) i)) ∧ w = w' := by
  have hl := h.1
  have HO := Lib.hid hok
  clear hok
  go_enter Try.func56, Try.ntmps56
  go_wp2_with fail
  go_loop [1, 5] (fun j q => ∃ (k s : Nat), k < n ∧ s + k ≤ i ∧ j = .int .i64 k ∧ q = .int .i64 s ∧ Hid (dep (ps.map Pe.b) i = s + dep (ps.map Pe.b) k)) (fun j _ => (intOf j).toNat)
  case atStart => exact ⟨i, 0, hi, by omega, rfl, rfl, Lib.hid (by omega)⟩
  case round =>
    obtain ⟨k, s, hk, hsk, rfl, rfl, HD⟩ := hrel
    obtain ⟨b, off, x, cs, rfl, hb, hx, hc, hv⟩ := h.at_ hk
    obtain ⟨B1, m1, d1, B3, m3, d3, rfl, _, _, _, _⟩ := repPe_cells hv
    have hbd := HO.out k x.b (by rw [List.getElem?_map, hx]; rfl)
    have HB := Lib.hid (getD_b hx)
    have c2 : w.cell? ⟨b, off + k * 4 + 2, none⟩ = some (.int .i64 x.b) := hc 2 _ rfl
    have c3 : w.cell? ⟨b, off + k * 4 + 1 + 1, none⟩ = some (.int .i64 x.b) := hc 2 _ rfl
    clear hx hc hv
    by_cases h0 : 0 ≤ x.b
    · obtain ⟨q, HQ⟩ : ∃ q : Nat, Hid (x.b = q) := ⟨x.b.toNat, Lib.hid (by omega)⟩
      have hge : decide (x.b ≥ 0) = true := decide_eq_true h0
      have hge2 : decide (0 ≤ x.b) = true := decide_eq_true h0
      have hwr : IntKind.i64.wrap ((s : Int) + 1) = ((s + 1 : Nat) : Int) := by rw [IntKind.wrap_i64]; omega
      have HDD := Lib.hid (dep_pos (bs := ps.map Pe.b) (i := k) (by rw [HB.out]; exact h0) (by rw [HB.out]; omega))
      go_wp2_with fail
      go_round
      case rel => exact ⟨q, s + 1, by have := HQ.out; omega, by have := HQ.out; omega, by rw [HQ.out], by go_num, Lib.hid (by
        have h1 := HD.out
        rw [HDD.out, HB.out, HQ.out, Int.toNat_natCast] at h1
        omega)⟩
      case measure => simp [intOf]; omega
    · have hge : decide (x.b ≥ 0) = false := decide_eq_false h0
      have hge2 : decide (0 ≤ x.b) = false := decide_eq_false h0
      have HDD := Lib.hid (dep_neg (bs := ps.map Pe.b) (i := k) (by rw [HB.out]; omega))
      go_wp2_with fail
      go_ret
      exact ⟨ret_int (by have := HD.out; rw [HDD.out] at this; omega), rfl⟩
/-- nodes that point to the nodes of their bases -/
def NodeP (w : World) (gs : List Nat) (bs : List Int) : Prop := gs.length = bs.length ∧ ∀ (i g : Nat) (b : Int), gs[i]? = some g → bs[i]? = some b →
  g < w.heap.size ∧ w.cell? ⟨g, 4, none⟩ = some (.pointer (if b < 0 then none else some ⟨gs.getD b.toNat 0, 0, none⟩))
theorem NodeP.next {w w' : World} {gs : List Nat} {bs : List Int} (h : NodeP w gs bs) (hb : Below w.heap.size w w') : NodeP w' gs bs :=
  ⟨h.1, fun i g b h1 h2 => by
    obtain ⟨h3, h4⟩ := h.2 i g b h1 h2
    exact ⟨Nat.lt_of_lt_of_le h3 hb.size, (hb.cell (p := ⟨g, 4, none⟩) h3).trans h4⟩⟩
set_option maxHeartbeats 1600000 in
theorem depth_any (i g : Nat) (gs : List Nat) (bs : List Int) (w : World) (h : NodeP w gs bs) (hg : gs[i]? = some g) (hn : gs.length ≤ 1000000) (hok : OkB bs) :
    Calls Try.prog 32 #[.pointer (some ⟨g, 0, none⟩)] w fun e w' => e = .returned (.int .i64 (dep bs i)) ∧ w = w' := by
  have hl := h.1
  have hi : i < gs.length := (List.getElem?_eq_some_iff.1 hg).1
  have HO := Lib.hid hok
  have HN := Lib.hid h
  have HG := Lib.hid hg
  clear hok h hg
  go_enter Try.func32, Try.ntmps32
  go_wp2_with fail
  go_loop [0, 3] (fun p q => ∃ (k s a : Nat), k < gs.length ∧ s + k ≤ i ∧ p = .pointer (some ⟨a, 0, none⟩) ∧ q = .int .i64 s ∧ Hid (gs[k]? = some a) ∧ Hid (dep bs i = s + dep bs k)) (fun _ q => i + 1 - (intOf q).toNat)
  case atStart => exact ⟨i, 0, g, hi, by omega, rfl, rfl, HG, Lib.hid (by omega)⟩
  case round =>
    obtain ⟨k, s, a, hk, hsk, rfl, rfl, HA, HD⟩ := hrel
    have hbk : bs[k]? = some (bs[k]'(by omega)) := List.getElem?_eq_getElem _
    have hgd : bs.getD k (-1) = bs[k]'(by omega) := by simp [List.getD, hbk]
    obtain ⟨ha, hc⟩ := HN.out.2 k a _ HA.out hbk
    have hbd := HO.out k _ hbk
    have HGD := Lib.hid hgd
    clear hbk hgd
    generalize bs[k]'(by omega) = x at *
    by_cases h0 : x < 0
    · rw [if_pos h0] at hc
      have HDD := Lib.hid (dep_neg (bs := bs) (i := k) (by rw [HGD.out]; omega))
      go_wp2_with fail
      go_ret
      exact ⟨ret_int (by have := HD.out; rw [HDD.out] at this; omega), rfl⟩
    · rw [if_neg h0] at hc
      obtain ⟨q, HQ⟩ : ∃ q : Nat, Hid (x = q) := ⟨x.toNat, Lib.hid (by omega)⟩
      have HDD := Lib.hid (dep_pos (bs := bs) (i := k) (by rw [HGD.out]; omega) (by rw [HGD.out]; omega))
      have hql : q < gs.length := by have := HQ.out; omega
      have HGQ : Hid (gs[q]? = some (gs.getD x.toNat 0)) := Lib.hid (by
        rw [HQ.out, Int.toNat_natCast]
        simp [List.getD, List.getElem?_eq_getElem hql])
      generalize gs.getD x.toNat 0 = z at *
      have hwr : IntKind.i64.wrap ((s : Int) + 1) = ((s + 1 : Nat) : Int) := by rw [IntKind.wrap_i64]; omega
      go_wp2_with fail
      go_round
      case rel => exact ⟨q, s + 1, z, hql, by have := HQ.out; omega, rfl, by go_num, HGQ, Lib.hid (by
        have h1 := HD.out
        rw [HDD.out, HGD.out, HQ.out, Int.toNat_natCast] at h1
        omega)⟩
      case measure => simp [intOf]; omega
end Go.Proofs.Ytkekcgamhhmjnaa
