/- Walks: copies of parts: the reference's l22Parts2. -/
import Derived.Test.YtlmcejpjhdaanaaSepC
import Derived.Test.YtlmcejpjhdaanaaAppG
import Derived.Test.YtlmcejpjhdaanaaSort
import Derived.Deep.RegionLaw
import Derived.Deep.RegionHeld3
namespace Go.Proofs.Ytlmcejpjhdaanaa
open Go.RowKit Go.Sort

theorem own_belowS {w w' : World} {base : Nat} {e : TypeId} {size n : Nat} {v : Value} {xs : List Value} (h : w.ownsRow base e size v n xs) (hb : Below w.heap.size w w') : w'.ownsRow base e size v n xs :=
  h.kept (row := none) ⟨hb.os, hb.tape, hb.output, hb.size, fun k hk _ => hb.block k hk⟩ (by cases v.ownBlock <;> simp)
theorem upd_info1 : (Try.prog.info? 53).map (fun i => (i.zero, i.size, i.bytes)) = some (some (.agg #[.int .i64 0, .int .i64 0, .int .i64 0]), 3, 24) := by kernel_rfl
theorem part_info1 : (Try.prog.info? 51).map (fun i => (i.zero, i.size, i.bytes)) = some (some (.agg #[.int .i64 0, .slice none 0 0]), 2, 32) := by kernel_rfl
theorem upV_one (us : List Up) : ∀ u ∈ (us.map upV).flatten, u.oneCell' = true := fun u hu => by
  obtain ⟨l, hl, hul⟩ := List.mem_flatten.1 hu
  obtain ⟨x, _, rfl⟩ := List.mem_map.1 hl
  unfold upV at hul
  simp only [List.mem_cons, List.not_mem_nil, or_false] at hul
  rcases hul with rfl | rfl | rfl <;> rfl
theorem upV_len (us : List Up) : ((us.map upV).flatten).length = us.length * 3 := by
  rw [flat_len (m := 3) (fun cs hcs => by obtain ⟨x, _, rfl⟩ := List.mem_map.1 hcs; rfl), List.length_map]

theorem Blk.cellsAtG {w : World} {g : Nat} {t : TypeId} {cs : List Value} (h : Blk w g t cs) : ∀ j u, cs[j]? = some u → w.cell? ((⟨g, 0, none⟩ : Addr).add j) = some u := fun j u hu => by
  rw [add_flat, Nat.zero_add, h.cell]; exact hu
theorem Blk.cellsAtH {w : World} {g g' : Nat} {t : TypeId} {cs : List Value} (h : Blk w g t cs) (hg : g = g') : ∀ j u, cs[j]? = some u → w.cell? ((⟨g', 0, none⟩ : Addr).add j) = some u := fun j u hu => by
  subst hg
  exact h.cellsAtG j u hu
def PartsTo (w : World) (n : Nat) (ps : List Pt) (e : Ending) (w' : World) : Prop := ∃ A d, e = .returned (.slice A n d) ∧ SSl 51 sepPt w.heap.size (Iv w.heap.size w'.heap.size) w' A n d ps ∧ Below w.heap.size w w'
def smallU (ps : List Pt) : Prop := ps.length ≤ 100000000 ∧ ∀ p ∈ ps, p.us.length ≤ 100000000

set_option maxRecDepth 100000 in
set_option maxHeartbeats 1600000 in
theorem l22Parts2_any (A : Option Addr) (n c : Nat) (ps : List Pt) (w : World) (h : RSl repPt 0 w A n ps) (hs : smallU ps) :
    Calls Try.prog 61 #[.slice A n c] w (PartsTo w n ps) := by
  have hl := h.1
  have hn : n ≤ 100000000 := by have := hs.1; omega
  go_enter Try.func61, Try.ntmps61
  go_wp2
  go_loopw [3, 4] (fun s i wr => ∃ (k : Nat) (B : Option Addr) (d : Nat), k ≤ n ∧ i = .int .i64 k ∧ s = .slice B k d ∧ SSl 51 sepPt w.heap.size (Iv w.heap.size wr.heap.size) wr B k d (ps.take k) ∧ Below w.heap.size w wr) (fun _ i _ => n - (intOf i).toNat)
  case atStart => exact ⟨0, _, _, Nat.zero_le _, rfl, rfl, SSl.emp (Blk.new w 51 []) (Nat.le_refl _) ⟨Nat.le_refl _, by simp⟩, below_box _ _⟩
  case round =>
    obtain ⟨k, B, d, hk, rfl, rfl, hS, hbr⟩ := hrel
    by_cases hlt : k < n
    · obtain ⟨b, off, p, cs, rfl, hb, hx, hcx, hvx⟩ := (h.next hbr).at_ hlt
      have hpu := hs.2 p (List.mem_of_getElem? hx)
      obtain ⟨U, m, e, rfl, hro, hmo⟩ := repPt_cells hvx
      have c0 : wr.cell? ⟨b, off + k * 2, none⟩ = some (.int .i64 p.shard) := hcx 0 _ rfl
      have c1 : wr.cell? ⟨b, off + k * 2 + 1, none⟩ = some (.slice U m e) := hcx 1 _ rfl
      have hul := hro.1
      have HT := Lib.hid (show ps.take (k + 1) = ps.take k ++ [p] by
        obtain ⟨h1, h2⟩ := List.getElem?_eq_some_iff.1 hx
        rw [List.take_succ_eq_append_getElem h1, h2])
      clear hcx hvx hx
      obtain ⟨cs0, hown, hgrow⟩ := hS.grow
      have hbd : Below wr.heap.size wr wr.drew := (Below.refl _ _).drew
      have e1 := below_ext hbd (below_box wr.drew (.cells #[] 53))
      have hro1 := hro.next e1
      have hz := hbr.size
      go_wp2_with fail
      go_region_law (first
        | (refine step_appS rfl (.tmp 18) (.tmp 23) 49 rfl wr.heap.size 53 Try.underlying49 upd_info1 rfl (by omega) (by omega) _ 0 [] rfl (own_emp (Blk.new wr.drew 53 []) (Nat.le_refl _)) _ m e ((p.us.map upV).flatten) rfl (by rw [upV_len]; omega) hro1.upCells (upV_one _) m (by omega) (by omega) e1.size ?_
           intro U2 d2 w2 hown2 _ hb2 hg2
           simp only [List.nil_append] at hown2
           have f2 := e1.trans hb2
           have c0f := (f2.cell (p := ⟨b, off + k * 2, none⟩) hb).trans c0
           have fx := below_ext f2 (below_box w2 (.cells #[.int .i64 p.shard, .slice U2 m d2] 51)))
        | (refine step_app rfl (.tmp 12) (.tmp 26) 33 rfl w.heap.size 51 Try.underlying33 part_info1 rfl (by omega) (by omega) _ k cs0 rfl (own_belowS hown fx) ⟨w2.heap.size, 0, none⟩ 1 1 [.int .i64 p.shard, .slice U2 m d2] rfl rfl (Blk.new w2 51 [.int .i64 p.shard, .slice U2 m d2]).cellsAtG (by simp [Value.oneCell']) (by omega) (Nat.le_trans hz fx.size) ?_
           intro B3 d3 w3 hown3 _ hb3 hg3 hloc3))
      all_goals
        go_wp2_with fail
        go_roundw
        case rel => exact ⟨k + 1, B3, d3, by omega, by go_num, rfl, by
          rw [HT.out]
          have hz2 := hb2.size
          have hz3 := hg3.size
          refine hgrow _ w3 _ p (Iv wr.heap.size w2.heap.size) _ B3 d3 (fun b hb' => fx.block b hb'.2) (fun b hb' => Nat.lt_of_lt_of_le hb'.2 fx.size) (fun b h1 h2 => absurd h2.2 (by have := h1.1; omega)) (fun b h1 => by have := h1.2; simp; omega) (fun b h1 => ⟨h1.1, Nat.lt_of_lt_of_le h1.2 (Nat.le_trans fx.size hz3)⟩) (fun b h1 => ⟨by have := h1.1; omega, Nat.lt_of_lt_of_le h1.2 (Nat.le_trans (by simp) hz3)⟩) (fun h1 => ⟨Nat.le_trans hz fx.size, h1⟩) ?_ hown3 hg3 hloc3
          refine sepPt_mk ?_
          have hq := SSl.of_flat (r := sepUp) (lo := wr.heap.size) (S := Iv wr.heap.size w2.heap.size) (T := 53) upV (fun x _ => sepUp_mk x) hown2 hul (fun b h1 h2 _ => ⟨h1, h2⟩)
          exact (hq.next (below_box w2 _) (fun b h1 => h1.2)).down hz, hbr.trans ((fx.mono hz).trans hb3)⟩
        case measure => simp [intOf]; omega
    · obtain rfl : k = n := by omega
      rw [List.take_of_length_le (by omega)] at hS
      go_wp2
      go_ret
      exact ⟨B, d, rfl, hS, hbr⟩
end Go.Proofs.Ytlmcejpjhdaanaa
