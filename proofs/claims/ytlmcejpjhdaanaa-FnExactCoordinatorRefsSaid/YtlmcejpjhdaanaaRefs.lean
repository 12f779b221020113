/- Walks: refs as an array of four numbers: noRefs, set; the reference's l21Begin, l11Set. -/
import Derived.Test.YtlmcejpjhdaanaaPartAt
import Derived.Test.YtlmcejpjhdaanaaCoP
import Derived.RegionTactic
import Derived.ChangeAlike
namespace Go.Proofs.Ytlmcejpjhdaanaa
open Go.RowKit Go.Sort

/-- updates performed -/
def setR (rs : List Int) (us : List Up) : List Int := us.foldl (fun r u => r.set u.ref.toNat u.new) rs
def no4 : List Int := [-1, -1, -1, -1]
theorem setR_len : ∀ (us : List Up) (rs : List Int), (setR rs us).length = rs.length
  | [], _ => rfl
  | u :: us, rs => by
    show (setR (rs.set u.ref.toNat u.new) us).length = _
    rw [setR_len us, List.length_set]
theorem setR_succ {us : List Up} {k : Nat} {u : Up} (rs : List Int) (h : us[k]? = some u) : setR rs (us.take (k + 1)) = (setR rs (us.take k)).set u.ref.toNat u.new := by
  obtain ⟨h1, h2⟩ := List.getElem?_eq_some_iff.1 h
  unfold setR
  rw [List.take_succ_eq_append_getElem h1, List.foldl_append, h2]
  rfl
theorem grownB {a b c : World} {row : Option Nat} (h : a.grownBy b row) (hb : Below b.heap.size b c) : a.grownBy c row :=
  ⟨hb.os.trans h.os, hb.tape.trans h.tape, hb.output.trans h.output, Nat.le_trans h.size hb.size, fun i hi hn => (hb.block i (Nat.lt_of_lt_of_le hi h.size)).trans (h.block i hi hn)⟩
theorem refs_info : (Try.prog.info? 77).map (fun i => (i.zero, i.size, i.bytes)) = some (some (.agg #[.int .i64 0, .int .i64 0, .int .i64 0, .int .i64 0]), 4, 32) := by kernel_rfl
theorem Blk.cells4 {w : World} {g : Nat} {t : TypeId} {a b c d : Value} (h : Blk w g t [a, b, c, d]) : w.cell? ⟨g, 0, none⟩ = some a ∧ w.cell? ⟨g, 1, none⟩ = some b ∧ w.cell? ⟨g, 2, none⟩ = some c ∧ w.cell? ⟨g, 3, none⟩ = some d := ⟨h.cell 0, h.cell 1, h.cell 2, h.cell 3⟩
set_option maxHeartbeats 1600000 in
theorem noRefs_any (w : World) : Calls Try.prog 72 #[] w fun e w' => e = .returned (.agg #[.int .i64 (-1), .int .i64 (-1), .int .i64 (-1), .int .i64 (-1)]) ∧ Below w.heap.size w w' := by
  have x0 := (Blk.new w 77 [.int .i64 0, .int .i64 0, .int .i64 0, .int .i64 0]).alloc (.cells #[.int .i64 0, .int .i64 0, .int .i64 0, .int .i64 0] 77)
  have x1 : Blk ((w.alloc (.cells #[.int .i64 0, .int .i64 0, .int .i64 0, .int .i64 0] 77)).alloc (.cells #[.int .i64 0, .int .i64 0, .int .i64 0, .int .i64 0] 77)) (w.heap.size + 1) 77 [.int .i64 0, .int .i64 0, .int .i64 0, .int .i64 0] := by simpa using Blk.new (w.alloc (.cells #[.int .i64 0, .int .i64 0, .int .i64 0, .int .i64 0] 77)) 77 [.int .i64 0, .int .i64 0, .int .i64 0, .int .i64 0]
  have b2 := below_box2 w (.cells #[.int .i64 0, .int .i64 0, .int .i64 0, .int .i64 0] 77) (.cells #[.int .i64 0, .int .i64 0, .int .i64 0, .int .i64 0] 77)
  go_enter Try.func72, Try.ntmps72
  go_wp2_with fail
  go_loopw [3] (fun i wr => ∃ k : Nat, k ≤ 4 ∧ i = .int .i64 k ∧ Blk wr (w.heap.size + 1) 77 (ints (fillI no4 4 k)) ∧ Blk wr w.heap.size 77 [.int .i64 0, .int .i64 0, .int .i64 0, .int .i64 0] ∧ Below w.heap.size w wr) (fun i _ => 4 - (intOf i).toNat)
  case atStart => exact ⟨0, Nat.zero_le _, rfl, x1, x0, b2⟩
  case round =>
    obtain ⟨k, hk, rfl, hB, hR, hbr⟩ := hrel
    by_cases hlt : k < 4
    · have hc := hB.cell k
      rw [fillI_get no4 4 k rfl hlt] at hc
      have hf := hB.frozen k
      have hx : no4[k]? = some (-1) := by
        match k, hlt with
        | 0, _ => rfl
        | 1, _ => rfl
        | 2, _ => rfl
        | 3, _ => rfl
      have hB2 := hB.set_ k (.int .i64 (-1))
      rw [fillI_set no4 4 k (-1) rfl hx] at hB2
      have hR2 := hR.far (p := ⟨w.heap.size + 1, k, none⟩) (by dsimp only; omega) (.int .i64 (-1))
      have hb2 := hbr.setCell (p := ⟨w.heap.size + 1, k, none⟩) (by dsimp only; omega) (.int .i64 (-1))
      clear hx
      go_wp2_with fail
      go_roundw
      case rel => exact ⟨k + 1, by omega, by go_num, hB2, hR2, hb2⟩
      case measure => simp [intOf]; omega
    · obtain rfl : k = 4 := by omega
      have hB' : Blk wr (w.heap.size + 1) 77 [.int .i64 (-1), .int .i64 (-1), .int .i64 (-1), .int .i64 (-1)] := hB
      obtain ⟨c0, c1, c2, c3⟩ := hB'.cells4
      obtain ⟨d0, d1, d2, d3⟩ := hR.cells4
      have f0 := hR.frozen 0
      have f1 := hR.frozen 1
      have f2 := hR.frozen 2
      have f3 := hR.frozen 3
      have hRR := (((hR.set_ 0 (.int .i64 (-1))).set_ 1 (.int .i64 (-1))).set_ 2 (.int .i64 (-1))).set_ 3 (.int .i64 (-1))
      simp only [List.set_cons_zero, List.set_cons_succ] at hRR
      obtain ⟨r0, r1, r2, r3⟩ := hRR.cells4
      go_wp2_with fail
      refine bodyPost_ret (v := .agg #[.int .i64 (-1), .int .i64 (-1), .int .i64 (-1), .int .i64 (-1)]) (by simp [results, Try.results72, go_sem, r0, r1, r2, r3]) rfl ?_
      exact ⟨rfl, (((hbr.setCell (p := ⟨w.heap.size, 0, none⟩) (Nat.le_refl _) _).setCell (p := ⟨w.heap.size, 1, none⟩) (Nat.le_refl _) _).setCell (p := ⟨w.heap.size, 2, none⟩) (Nat.le_refl _) _).setCell (p := ⟨w.heap.size, 3, none⟩) (Nat.le_refl _) _⟩
set_option maxHeartbeats 3200000 in
theorem set_any (g : Nat) (rs : List Int) (A : Option Addr) (n c : Nat) (us : List Up) (W w : World) (h : RSl repUp 0 W A n us) (hn : n ≤ maxLen) (hb : Below W.heap.size W w) (hg : W.heap.size ≤ g) (hB : Blk w g 77 (ints rs)) (hl : rs.length = 4) (hok : ∀ u ∈ us, upOk u = true) :
    Calls Try.prog 74 #[.pointer (some ⟨g, 0, none⟩), .slice A n c] w fun e w' => e = .returned (.tuple #[]) ∧ Blk w' g 77 (ints (setR rs us)) ∧ w.grownBy w' (some g) := by
  unfold maxLen at hn
  have hlu := h.1
  have hgl := hB.lt
  go_enter Try.func74, Try.ntmps74
  go_wp2_with fail
  go_loopw [8] (fun i wr => ∃ k : Nat, k ≤ n ∧ i = .int .i64 k ∧ Blk wr g 77 (ints (setR rs (us.take k))) ∧ w.grownBy wr (some g)) (fun i _ => n - (intOf i).toNat)
  case atStart => exact ⟨0, Nat.zero_le _, rfl, by simpa [setR] using hB, World.grownBy.refl _ _⟩
  case round =>
    obtain ⟨k, hk, rfl, hBk, hgr⟩ := hrel
    have hbw : Below W.heap.size W wr := ⟨hgr.os.trans hb.os, hgr.tape.trans hb.tape, hgr.output.trans hb.output, Nat.le_trans hb.size hgr.size, fun i hi => (hgr.block i (Nat.lt_of_lt_of_le hi hb.size) (fun e => by injection e with e; omega)).trans (hb.block i hi)⟩
    by_cases hlt : k < n
    · obtain ⟨b, off, u, cs, rfl, hbb, hx, hcx, hvx⟩ := (h.next hbw).at_ hlt
      obtain rfl := repUp_cells hvx
      have c0 : wr.cell? ⟨b, off + k * 3, none⟩ = some (.int .i64 u.ref) := hcx 0 _ rfl
      have c1 : wr.cell? ⟨b, off + k * 3 + 1, none⟩ = some (.int .i64 u.old) := hcx 1 _ rfl
      have c2 : wr.cell? ⟨b, off + k * 3 + 1 + 1, none⟩ = some (.int .i64 u.new) := hcx 2 _ rfl
      have huo := hok u (List.mem_of_getElem? hx)
      have hr := (upOk_parts huo).1
      unfold refB at hr
      simp only [Bool.and_eq_true, decide_eq_true_eq] at hr
      have HS := Lib.hid (setR_succ rs hx)
      obtain ⟨u0, u1, u2⟩ := u
      dsimp only at c0 c1 c2 hr HS
      obtain ⟨r, rfl⟩ := Int.eq_ofNat_of_zero_le hr.1
      have hr4 : r < 4 := by omega
      have hr4i : (r : Int) < 4 := by omega
      rw [Int.toNat_natCast] at HS
      have bo := Blk.new wr 53 [.int .i64 r, .int .i64 u1, .int .i64 u2]
      have ea := below_box wr (.cells #[.int .i64 r, .int .i64 u1, .int .i64 u2] 53)
      obtain ⟨o0, o1, o2⟩ := bo.cells3
      have hBa := hBk.next ea
      have hlen : (setR rs (us.take k)).length = 4 := by rw [setR_len]; exact hl
      obtain ⟨v, hv⟩ : ∃ v, (setR rs (us.take k))[r]? = some v := ⟨_, List.getElem?_eq_getElem (by omega)⟩
      have cg := hBa.cell r
      rw [ints, List.getElem?_map, hv] at cg
      simp only [Option.map_some] at cg
      have fg := hBa.frozen r
      have hB2 := hBa.drew.set_ r (.int .i64 u2)
      rw [show (ints (setR rs (us.take k))).set r (.int .i64 u2) = ints ((setR rs (us.take k)).set r u2) by simp [ints, List.map_set]] at hB2
      have hg2 : w.grownBy (((wr.alloc (.cells #[.int .i64 r, .int .i64 u1, .int .i64 u2] 53)).drew).setCell ⟨g, r, none⟩ (.int .i64 u2)) (some g) := grown_setCell (grownB hgr (below_ext ea (Below.refl _ _).drew)) _
      have HB2 := Lib.hid hB2
      have hgne : g ≠ wr.heap.size := by have := hBk.lt; omega
      clear hx hcx hvx hv hB2 huo
      go_wp2_with fail
      go_region
      all_goals
        go_wp2
        go_roundw
        case rel => exact ⟨k + 1, by omega, by go_num, by rw [HS.out]; exact HB2.out, hg2⟩
        case measure => simp [intOf]; omega
    · obtain rfl : k = n := by omega
      rw [List.take_of_length_le (by omega)] at hBk
      go_wp2
      go_end0
      exact ⟨rfl, hBk, hgr⟩
end Go.Proofs.Ytlmcejpjhdaanaa
