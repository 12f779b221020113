/- Walks: PackDepth; what the laws on packs share. -/
import Derived.Test.YtkekcgamhhmjnaaPkPackI
import Derived.Test.YtkekcgamhhmjnaaPkLink
import Derived.Test.YtkekcgamhhmjnaaPkDraw
import Derived.Test.YtkekcgamhhmjnaaPkSame
namespace Go.Proofs.Ytkekcgamhhmjnaa
open Go.RowKit Go.Sort

set_option maxHeartbeats 1600000 in
theorem packDepth_any (A : Option Addr) (n c : Nat) (i : Int) (k : Nat) (ps : List Pe) (w : World) (h : RSl repPe 0 w A n ps) (hn : n ≤ 1000) (hi : i = k) (hk : k < n) (hok : OkB (ps.map Pe.b)) :
    Calls Try.prog 18 #[.slice A n c, .int .i64 i] w fun e w' => e = .returned (.int .i64 (dep (ps.map Pe.b) k)) ∧ Below w.heap.size w w' := by
  subst hi
  have hl := h.1
  have HOK := Lib.hid hok
  clear hok
  go_enter Try.func18, Try.ntmps18
  go_wp2_with fail
  refine (linkPack_any A n c ps w h hn HOK.out).mono ?_
  rintro e w1 ⟨N, cN, gs, rfl, hON, hNL, hb1⟩
  have hwn : IntKind.i64.wrap ((n : Int) - 1) = (n : Int) - 1 := by rw [IntKind.wrap_i64]; omega
  have hlen := hON.len
  have HNP := Lib.hid (hNL.nodeP (by rw [List.length_map]; omega))
  obtain ⟨g0, g, rfl, hg0, hg, hpc⟩ := hON.at_ hk
  have HG := Lib.hid hg
  have HLN := Lib.hid hlen
  have HD : Hid ((decide (0 ≤ (k : Int)) && decide ((k : Int) ≤ (n : Int) - 1)) = true) := Lib.hid (by rw [decide_eq_true (by omega : 0 ≤ (k : Int)), decide_eq_true (by omega : (k : Int) ≤ (n : Int) - 1)]; rfl)
  clear hg hlen hNL
  go_wp2_with fail
  refine (inRange_any (k : Int) 0 ((n : Int) - 1) _).mono ?_
  rw [HD.out]
  rintro e w2 ⟨rfl, rfl⟩
  go_wp2_with fail
  refine (depth_any k g gs (ps.map Pe.b) w1 HNP.out HG.out (by have := HLN.out; omega) HOK.out).mono ?_
  rintro e w2 ⟨rfl, rfl⟩
  go_wp2_with fail
  go_ret
  exact ⟨rfl, hb1⟩
theorem packTo_entry {os : List Ob} {m i : Nat} {o : Ob} (hi : i < m) (hx : os[i]? = some o) : (packTo os m)[i]? = some ⟨o.k, o.xs, (bestTo o.t (os.map Ob.t) ((packTo os i).map Pe.b) i).1, (bestTo o.t (os.map Ob.t) ((packTo os i).map Pe.b) i).2⟩ := by
  rw [packTo_at m hi, show os.getD i ⟨0, [], ⟨#[]⟩⟩ = o by simp [List.getD, hx]]
theorem packTo_pre {os : List Ob} {m i : Nat} (hi : i ≤ m) : (packTo os m).map Pe.b = (packTo os i).map Pe.b ++ ((packTo os m).map Pe.b).drop i := by
  rw [← packTo_take m hi, List.map_take, List.take_append_drop]
theorem packTo_depEq {os : List Ob} {m i k : Nat} (hi : i ≤ m) (hk : k < i) : dep ((packTo os m).map Pe.b) k = dep ((packTo os i).map Pe.b) k := by
  rw [packTo_pre (os := os) hi]
  exact dep_app (by rw [List.length_map, packTo_len]; exact hk)
/-- a pack that was handed back, read -/
theorem PackTo.reads {w w' : World} {os : List Ob} {e : Ending} (h : PackTo w os e w') : ∃ A n c, e = .returned (.tuple #[.slice A n c, .bool (packP os).2]) ∧ n = (packP os).1.length ∧ n ≤ c ∧ RSl repPe 0 w' A n (packP os).1 ∧ Below w.heap.size w w' := by
  obtain ⟨A, n, c, rfl, h1, h2⟩ := h
  exact ⟨A, n, c, rfl, h1.1.symm, h1.small.1, h1.reads.down (Nat.zero_le _), h2⟩
theorem packP_len {os : List Ob} : (packP os).1.length ≤ os.length := by
  unfold packP
  split
  · rw [packTo_len]; exact Nat.le_refl _
  · exact Nat.zero_le _
theorem packable_len {os : List Ob} {m : Nat} (h : packable os = true) (hm : os.length = m) : m ≤ 16 := by
  unfold packable at h
  rw [Bool.and_eq_true, decide_eq_true_eq] at h
  omega
theorem PackTo.bad {w w' : World} {os : List Ob} {e : Ending} (h : PackTo w os e w') (hp : packable os = false) : ∃ A c, e = .returned (.tuple #[.slice A 0 c, .bool false]) ∧ RSl repPe 0 w' A 0 [] ∧ Below w.heap.size w w' := by
  obtain ⟨A, n, c, rfl, hn, _, h1, h2⟩ := h.reads
  rw [packP_no hp] at hn h1 ⊢
  obtain rfl : n = 0 := by simpa using hn
  exact ⟨A, c, rfl, h1, h2⟩
theorem PackTo.good {w w' : World} {os : List Ob} {e : Ending} {m : Nat} (h : PackTo w os e w') (hp : packable os = true) (hm : os.length = m) : ∃ A c, e = .returned (.tuple #[.slice A m c, .bool true]) ∧ m ≤ c ∧ RSl repPe 0 w' A m (packTo os m) ∧ Below w.heap.size w w' := by
  obtain ⟨A, n, c, rfl, hn, hc, h1, h2⟩ := h.reads
  rw [packP_yes hp, hm] at hn h1 ⊢
  obtain rfl : n = m := by simpa [packTo_len] using hn
  exact ⟨A, c, rfl, hc, h1, h2⟩
end Go.Proofs.Ytkekcgamhhmjnaa
