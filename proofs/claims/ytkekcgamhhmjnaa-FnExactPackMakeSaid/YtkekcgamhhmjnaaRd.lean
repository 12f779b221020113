/- Walks: the reader of draws (l6Open, pick): only what bounds the results is said. -/
import Derived.Test.YtkekcgamhhmjnaaProg
import Derived.Test.YtkekcgamhhmjnaaMem
import Derived.WalkSpells
import Derived.WalkLawsBesides
import Derived.Handy
import Derived.BigQuiet
namespace Go.Proofs.Ytkekcgamhhmjnaa
open Go.RowKit Go.Sort

/-- the reader in block g, at place p -/
def Rd (w : World) (g p : Nat) : Prop := ∃ A n c, Blk w g 83 [.slice A n c, .int .i64 p] ∧ n ≤ 2000 ∧ RBytes w g A n
theorem Rd.keep {w w' : World} {g p : Nat} (h : Rd w g p) (hb : Below w.heap.size w w') : Rd w' g p := by
  obtain ⟨A, n, c, hbl, hn, hr⟩ := h
  exact ⟨A, n, c, hbl.next hb, hn, hr.keep fun a ha => hb.cell (by have := hbl.lt; omega)⟩
theorem Rd.lt {w : World} {g p : Nat} (h : Rd w g p) : g < w.heap.size := by obtain ⟨A, n, c, hbl, _⟩ := h; exact hbl.lt

theorem setCell_cell_far (w : World) (a p : Addr) (u : Value) (h : a.block ≠ p.block) : (w.setCell p u).cell? a = w.cell? a := World.cell?_setCell_other w p a u (fun e => h (by rw [e]))
theorem grown_setCell {w w' : World} {g i : Nat} (h : w.grownBy w' (some g)) (u : Value) : w.grownBy (w'.setCell ⟨g, i, none⟩ u) (some g) :=
  ⟨h.os, h.tape, h.output, by simpa [World.setCell] using h.size, fun k hk hne => (Below.heap_setCell w' ⟨g, i, none⟩ u k (by rintro rfl; exact hne rfl)).trans (h.block k hk hne)⟩
theorem grown_drewN {w w' : World} {row : Option Nat} (h : w.grownBy w' row) (n : Nat) : w.grownBy (w'.drewN n) row := ⟨h.os, h.tape, h.output, h.size, h.block⟩

theorem ofInt_i64 (a : Nat) (ha : a < 9223372036854775808) : (BitVec.ofInt 64 (a : Int)).toNat = a := by
  rw [BitVec.ofInt_natCast, BitVec.toNat_ofNat]; exact Nat.mod_eq_of_lt (by omega)
theorem i64_xor_nat (a b : Nat) (ha : a < 9223372036854775808) (hb : b < 9223372036854775808) : bits .xor .i64 (a : Int) (b : Int) = ((a ^^^ b : Nat) : Int) := by
  have hx : a ^^^ b < 2 ^ 63 := Nat.xor_lt_two_pow (by omega) (by omega)
  show IntKind.i64.wrap ((BitVec.ofInt 64 (a : Int) ^^^ BitVec.ofInt 64 (b : Int)).toNat : Int) = _
  rw [BitVec.toNat_xor, ofInt_i64 a ha, ofInt_i64 b hb, IntKind.wrap_i64]
  omega
theorem xor_nonneg (a b : Int) (ha : 0 ≤ a) (ha' : a < 9223372036854775808) (hb : 0 ≤ b) (hb' : b < 9223372036854775808) : 0 ≤ bits .xor .i64 a b := by
  obtain ⟨m, rfl⟩ := Int.eq_ofNat_of_zero_le ha
  obtain ⟨n, rfl⟩ := Int.eq_ofNat_of_zero_le hb
  rw [i64_xor_nat m n (by omega) (by omega)]; omega

set_option maxHeartbeats 1600000 in
theorem pick_any (g p : Nat) (z : Int) (w : World) (h : Rd w g p) (hp : p ≤ 1000000) (hz1 : 1 ≤ z) (hz2 : z ≤ 1000) :
    Calls Try.prog 50 #[.pointer (some ⟨g, 0, none⟩), .int .i64 z] w fun e w' => ∃ v : Int, e = .returned (.int .i64 v) ∧ 0 ≤ v ∧ v < z ∧ Rd w' g (p + 1) ∧ w.grownBy w' (some g) := by
  obtain ⟨A, n, c, hbl, hn, hr⟩ := h
  obtain ⟨c0, c1⟩ := hbl.cells2
  have fr1 := hbl.frozen 1
  have hbl' : Blk (w.setCell ⟨g, 1, none⟩ (.int .i64 (p + 1))) g 83 [.slice A n c, .int .i64 ((p + 1 : Nat) : Int)] := hbl.set_ 1 _
  have hr' : RBytes (w.setCell ⟨g, 1, none⟩ (.int .i64 (p + 1))) g A n := hr.keep fun a ha => setCell_cell_far _ _ _ _ (by show a.block ≠ g; omega)
  have HRd : Rd (w.setCell ⟨g, 1, none⟩ (.int .i64 (p + 1))) g (p + 1) := ⟨A, n, c, hbl', hn, hr'⟩
  have HG : w.grownBy (w.setCell ⟨g, 1, none⟩ (.int .i64 (p + 1))) (some g) := grown_setCell (World.grownBy.refl w _) _
  have hz0 : decide (z < 1) = false := by simp; omega
  by_cases h0 : n = 0
  · subst h0
    go_enter Try.func50, Try.ntmps50
    go_wp2
    go_ret
    exact ⟨0, rfl, by omega, by omega, HRd, HG⟩
  · obtain ⟨ad, rfl, hab, hcs⟩ := hr (by omega)
    have h00 : ((n : Int) == 0) = false := by simp; omega
    by_cases hlt : p < n
    · obtain ⟨b, hb0, hb1, hc⟩ := hcs p hlt
      have hc' : ∀ u, (w.setCell ⟨g, 1, none⟩ u).cell? (ad.add p) = some (.int .u8 b) := fun u => by rw [setCell_cell_far _ _ _ _ (by rw [block_of_add]; show ad.block ≠ g; omega)]; exact hc
      go_enter Try.func50, Try.ntmps50
      go_wp2
      go_ret
      exact ⟨b % z, rfl, Int.emod_nonneg _ (by omega), Int.emod_lt_of_pos _ (by omega), HRd, HG⟩
    · obtain ⟨b, hb0, hb1, hc⟩ := hcs (p % n) (Nat.mod_lt _ (by omega))
      obtain ⟨d, hd0, hd1, hd⟩ := hcs ((p * 7 + 3) % n) (Nat.mod_lt _ (by omega))
      have hc' : ∀ u, (w.setCell ⟨g, 1, none⟩ u).cell? (ad.add (p % n)) = some (.int .u8 b) := fun u => by rw [setCell_cell_far _ _ _ _ (by rw [block_of_add]; show ad.block ≠ g; omega)]; exact hc
      have hd' : ∀ u, (w.setCell ⟨g, 1, none⟩ u).cell? (ad.add ((p * 7 + 3) % n)) = some (.int .u8 d) := fun u => by rw [setCell_cell_far _ _ _ _ (by rw [block_of_add]; show ad.block ≠ g; omega)]; exact hd
      have m1 : (p : Int) % n < n := Int.emod_lt_of_pos _ (by omega)
      have m2 : ((p : Int) * 7 + 3) % n < n := Int.emod_lt_of_pos _ (by omega)
      have m3 : 0 ≤ (p : Int) % n := Int.emod_nonneg _ (by omega)
      have m4 : 0 ≤ ((p : Int) * 7 + 3) % n := Int.emod_nonneg _ (by omega)
      have m5 : 0 ≤ (p : Int) / n := Int.ediv_nonneg (by omega) (by omega)
      have m6 : (p : Int) / n ≤ p := Int.ediv_le_self _ (by omega)
      go_enter Try.func50, Try.ntmps50
      go_wp2
      refine wp_region_quiet_lit (by kernel_rfl) (by kernel_rfl) ?_
      repeat (go_big_quiet_step (fail))
      refine wpQuiet_nil ?_
      intro _ hw'
      obtain ⟨nq, hw''⟩ := hw'
      subst hw''
      go_wp2
      go_ret
      exact ⟨_, rfl, Int.tmod_nonneg _ (xor_nonneg _ _ (by omega) (by omega) (by omega) (by omega)), Int.tmod_lt_of_pos _ (by omega), HRd, grown_drewN HG nq⟩
end Go.Proofs.Ytkekcgamhhmjnaa
