/- Walks: RefsValid of the program; the drawn coordinator, shard and number. Plain: refs stay valid. -/
import Derived.Test.YtlmcejpjhdaanaaRefsI
import Derived.Test.YtlmcejpjhdaanaaDrawCo3
namespace Go.Proofs.Ytlmcejpjhdaanaa
open Go.RowKit Go.Sort

def valsB (xs : List Int) : Bool := xs.all valB
theorem setR_vals : ∀ (us : List Up) (rs : List Int), (∀ u ∈ us, upOk u = true) → valsB rs = true → valsB (setR rs us) = true
  | [], _, _, h => h
  | u :: us, rs, hu, h => by
    show valsB (setR (rs.set u.ref.toNat u.new) us) = true
    refine setR_vals us _ (fun v hv => hu v (List.mem_cons_of_mem _ hv)) ?_
    unfold valsB at h ⊢
    rw [List.all_eq_true] at h ⊢
    intro x hx
    rcases List.mem_or_eq_of_mem_set hx with h1 | rfl
    · exact h x h1
    · have := hu u (by simp)
      unfold upOk at this
      simp only [Bool.and_eq_true] at this
      exact this.1.2
theorem stepR_vals {q : Co} (hb : coB q = true) (s : Int) (r : List Int) (z : Int) (h : valsB r = true) : valsB (stepR q s r z) = true := by
  unfold stepR
  split
  · rename_i x hx
    split
    · split
      · rename_i p hp
        have hxm := List.mem_of_getElem? hx
        have hpl := partsB_len (txB_parts ((coB_parts hb).1 x hxm)).1
        exact setR_vals _ _ (upds_ok (hpl.2.2 p (List.mem_of_getElem? hp)).2.1) h
      · exact h
    · exact h
  · exact h
theorem refsQ_vals {q : Co} (hb : coB q = true) (s : Int) (m : Nat) : valsB (refsQ q s m) = true := by
  unfold refsQ
  have : ∀ (l : List Int) (r : List Int), valsB r = true → valsB (l.foldl (stepR q s) r) = true := by
    intro l
    induction l with
    | nil => intro r h; exact h
    | cons z l ih => intro r h; rw [List.foldl_cons]; exact ih _ (stepR_vals hb s r z h)
  exact this _ _ (by decide)
theorem refsOk_parts {q : Co} {s m : Int} (h : refsOk q s m = true) : coB q = true ∧ (0 ≤ s ∧ s ≤ 2) ∧ 0 ≤ m ∧ m ≤ (q.ord.length : Int) := by
  unfold refsOk at h
  simp only [Bool.and_eq_true, decide_eq_true_eq] at h
  exact ⟨h.1.1, h.1.2, h.2⟩
theorem refsOk_mk {q : Co} {s m : Int} (h1 : coB q = true) (h2 : 0 ≤ s ∧ s ≤ 2) (h3 : 0 ≤ m ∧ m ≤ (q.ord.length : Int)) : refsOk q s m = true := by
  unfold refsOk
  rw [h1, decide_eq_true h2.1, decide_eq_true h2.2, decide_eq_true h3.1, decide_eq_true h3.2]
  rfl
theorem isRefId_any (z : Int) (w : World) : Calls Try.prog 56 #[.int .i64 z] w fun e w' => e = .returned (.bool (valB z)) ∧ w = w' := by
  go_enter Try.func56, Try.ntmps56
  go_wp2_with fail
  refine (inRange_any _ _ _ _).mono ?_
  rintro e w' ⟨rfl, rfl⟩
  go_wp2_with fail
  go_ret
  exact ⟨rfl, rfl⟩
theorem notRef_any (z : Int) (w : World) : Calls Try.prog 55 #[.int .i64 z] w fun e w' => e = .returned (.bool (!valB z)) ∧ w = w' := by
  go_enter Try.func55, Try.ntmps55
  go_wp2_with fail
  refine (isRefId_any _ _).mono ?_
  rintro e w' ⟨rfl, rfl⟩
  go_wp2_with fail
  go_ret
  exact ⟨rfl, rfl⟩
set_option maxHeartbeats 1600000 in
theorem idxRef_any (A : Option Addr) (n c : Nat) (xs : List Int) (w : World) (h : RInts w A n xs) (hn : n ≤ maxLen) (hv : valsB xs = true) :
    Calls Try.prog 78 #[.slice A n c, .func (.func 55) #[] #[]] w fun e w' => e = .returned (.int .i64 (-1)) ∧ w = w' := by
  unfold maxLen at hn
  go_enter Try.func78, Try.ntmps78
  go_wp2
  go_loop [8] (fun i => ∃ k : Nat, k ≤ n ∧ i = .int .i64 k) (fun i => n - (intOf i).toNat)
  case atStart => exact ⟨0, Nat.zero_le _, rfl⟩
  case round =>
    obtain ⟨k, hk, rfl⟩ := hrel
    by_cases hlt : k < n
    · obtain ⟨ad, x, rfl, hb, hx, hc⟩ := h.at_ hlt
      have hxv : valB x = true := List.all_eq_true.1 hv x (List.mem_of_getElem? hx)
      have hcl := notRef_any x w
      rw [hxv] at hcl
      clear hx
      go_wp2_with (refine hcl.mono ?_; rintro e w2 ⟨rfl, rfl⟩)
      go_round
      case rel => exact ⟨k + 1, by omega, by go_num⟩
      case measure => simp [intOf]; omega
    · go_wp2
      go_ret
      exact ⟨rfl, rfl⟩
set_option maxHeartbeats 800000 in
theorem refsValid_any (A : Option Addr) (c : Nat) (xs : List Int) (w : World) (h : RInts w A 4 xs) (hv : valsB xs = true) :
    Calls Try.prog 25 #[.slice A 4 c] w fun e w' => e = .returned (.bool true) ∧ w = w' := by
  have hcon : ∀ W, W = w → Calls Try.prog 54 #[.slice A 4 c, .func (.func 55) #[] #[]] W fun e w' => e = .returned (.bool false) ∧ W = w' := fun W hW => by
    subst hW
    go_enter Try.func54, Try.ntmps54
    go_wp2_with fail
    refine (idxRef_any A 4 c xs _ h (by simp [maxLen]) hv).mono ?_
    rintro e w' ⟨rfl, rfl⟩
    go_wp2_with fail
    go_ret
    exact ⟨rfl, rfl⟩
  go_enter Try.func25, Try.ntmps25
  go_wp2_with fail
  refine (hcon _ rfl).mono ?_
  rintro e w' ⟨rfl, rfl⟩
  go_wp2_with fail
  go_ret
  exact ⟨rfl, rfl⟩
def DrewRefs (w : World) (e : Ending) (w' : World) : Prop := ∃ cs q z z2, e = .returned (.tuple #[.agg cs.toArray, .int .i64 z, .int .i64 z2]) ∧ CoAt w.heap.size w' cs q ∧ 0 ≤ z2 ∧ z2 ≤ 1000 ∧ Below w.heap.size w w'
set_option maxRecDepth 100000 in
set_option maxHeartbeats 6400000 in
theorem DrawCoordinatorRefs_any (A : Option Addr) (n c : Nat) (w : World) (h : RBytes w w.heap.size A n) (hn : n ≤ maxLen) (hc : n ≤ c) :
    Calls Try.prog 21 #[.slice A n c] w (DrewRefs w) := by
  have hR := Blk.new w 26 [.slice none 0 0, .slice none 0 0]
  have b0 := below_box w (.cells #[.slice none 0 0, .slice none 0 0] 26)
  go_enter Try.func21, Try.ntmps21
  go_wp2_with fail
  refine (l6Open_any _ _ _ _ (rbytes_next h b0) hn hc).mono ?_
  rintro e w1 ⟨rfl, hrd0, hb1⟩
  have hrd : Rd w1 (w.heap.size + 1) 0 := by simpa using hrd0
  rw [show (w.alloc (.cells #[.slice none 0 0, .slice none 0 0] 26)).heap.size = w.heap.size + 1 by simp]
  have hR1 := hR.next hb1
  have b1 : Below w.heap.size w w1 := below_ext b0 hb1
  go_wp2_with fail
  refine (l92Coordinator_any (w.heap.size + 1) 0 _ hrd (by omega)).mono ?_
  rintro e w2 ⟨v, p2, rfl, ⟨cs, q, S, rfl, hS, hq, ht⟩, hp2, hrd2, hg2⟩
  have hz1 := hrd.lt
  have hQ : CoAt w1.heap.size w2 cs q := ⟨S, hS, hq, ht⟩
  obtain ⟨A2, n2, c2, C2, m2, d2, rfl⟩ := hQ.two
  have hm2 : m2 ≤ 13 := by
    obtain ⟨_, _, _, _, _, _, e9, _, _, hr1, _⟩ := repCo_cells hQ.rep0
    obtain ⟨⟨rfl, rfl, rfl⟩, rfl, rfl, rfl⟩ : (_ ∧ _ ∧ _) ∧ _ ∧ _ ∧ _ := by simpa using e9
    have := hr1.1
    have := hQ.tiny.2.1
    omega
  clear hS hq ht
  have hR2 := hR1.grown hg2 (by simp)
  have eb := below_box w2 (.cells #[.slice A2 n2 c2, .slice C2 m2 d2] 26)
  have x2 := Blk.new w2 26 [.slice A2 n2 c2, .slice C2 m2 d2]
  have hQ2 := hQ.next eb
  have hrd3 := hrd2.keep eb
  have hR3 := hR2.next eb
  have b2 := below_ext (grown_toB b1 hg2 (by omega) (by omega)) eb
  have hz2 := hg2.size
  obtain ⟨y0, y1⟩ := x2.cells2
  have HY : w.heap.size + 1 < w2.heap.size := by omega
  go_upto_region 3 with fail
  generalize (w2.alloc (.cells #[.slice A2 n2 c2, .slice C2 m2 d2] 26)) = w3 at *
  generalize w2.heap.size = g2 at *
  have hQ4d := hQ2.next (Below.refl _ _).drew
  have x4d := x2.next (Below.refl _ _).drew
  have hR4d := hR3.next (Below.refl _ _).drew
  have hrd4d := hrd3.keep (Below.refl _ _).drew
  have b4d := b2.drew
  have HZ4 := Lib.hid (show w.heap.size ≤ w3.drew.heap.size by have h9 : w3.drew.heap.size = w3.heap.size := rfl; have := x2.lt; omega)
  obtain ⟨y0d, y1d⟩ := x4d.cells2
  have hm21 : IntKind.i64.wrap ((m2 : Int) + 1) = (m2 : Int) + 1 := by rw [IntKind.wrap_i64]; omega
  have hmA : (1 : Int) ≤ (m2 : Int) + 1 := by omega
  have hmB : (m2 : Int) + 1 ≤ 1000 := by omega
  go_region_held3 (fun w' => w'.cell? ⟨g2, 0, none⟩ = some (.slice A2 n2 c2) ∧ w'.cell? ⟨g2, 1, none⟩ = some (.slice C2 m2 d2)) (first
    | exact ⟨y0, y1⟩
    | exact ⟨y0d, y1d⟩
    | exact ⟨z10, z11⟩
    | exact ⟨z20, z21⟩
    | exact ⟨z30, z31⟩
    | exact ⟨z40, z41⟩
    | exact ⟨z50, z51⟩
    | exact zst _ _) (first
    | (go_simp; go_at_call 50; refine (pick_any (w.heap.size + 1) _ 16 _ i4r (by omega) (by omega) (by omega)).mono ?_
       rintro e w9 ⟨v5, rfl, i50, i51, i5r, i5g⟩
       have x9 := x8.grown i5g (by intro e; injection e with e; omega)
       have hR9 := hR8.grown i5g (by simp)
       have hQ9 := hQ8.grown i5g (by omega)
       have k3 : IntKind.i64.wrap (v5.tdiv 15) = v5.tdiv 15 := by rw [IntKind.wrap_i64, Int.tdiv_eq_ediv_of_nonneg i50]; omega
       obtain ⟨z50, z51⟩ := x9.cells2
       obtain ⟨s0, s1⟩ := hR9.cells2
       have f0 := hR9.frozen 0
       have f1 := hR9.frozen 1
       have zst := fun u v => ((x9.far (p := ⟨w.heap.size, 0, none⟩) (by dsimp only; omega) u).far (p := ⟨w.heap.size, 1, none⟩) (by dsimp only; omega) v).cells2)
    | (go_simp; go_at_call 50; refine (pick_any (w.heap.size + 1) _ ((m2 : Int) + 1) _ i3r (by omega) hmA hmB).mono ?_
       rintro e w8 ⟨v4, rfl, i40, i41, i4r, i4g⟩
       have x8 := x7.grown i4g (by intro e; injection e with e; omega)
       have hR8 := hR7.grown i4g (by simp)
       have hQ8 := hQ7.grown i4g (by omega)
       obtain ⟨z40, z41⟩ := x8.cells2)
    | (go_simp; go_at_call 50; refine (pick_any (w.heap.size + 1) _ 20 _ i2r (by omega) (by omega) (by omega)).mono ?_
       rintro e w7 ⟨v3, rfl, i30, i31, i3r, i3g⟩
       have x7 := x6.grown i3g (by intro e; injection e with e; omega)
       have hR7 := hR6.grown i3g (by simp)
       have hQ7 := hQ6.grown i3g (by omega)
       have k2 : IntKind.i64.wrap (v3.tdiv 19) = v3.tdiv 19 := by rw [IntKind.wrap_i64, Int.tdiv_eq_ediv_of_nonneg i30]; omega
       obtain ⟨z30, z31⟩ := x7.cells2)
    | (go_simp; go_at_call 50; refine (pick_any (w.heap.size + 1) _ 20 _ i1r (by omega) (by omega) (by omega)).mono ?_
       rintro e w6 ⟨v2, rfl, i20, i21, i2r, i2g⟩
       have x6 := x5.grown i2g (by intro e; injection e with e; omega)
       have hR6 := hR5.grown i2g (by simp)
       have hQ6 := hQ5.grown i2g (by omega)
       have k1 : IntKind.i64.wrap (v2.tdiv 19) = v2.tdiv 19 := by rw [IntKind.wrap_i64, Int.tdiv_eq_ediv_of_nonneg i20]; omega
       obtain ⟨z20, z21⟩ := x6.cells2)
    | (go_simp; go_at_call 50; refine (pick_any (w.heap.size + 1) _ 3 _ hrd4d (by omega) (by omega) (by omega)).mono ?_
       rintro e w5 ⟨v1, rfl, i10, i11, i1r, i1g⟩
       have x5 := x4d.grown i1g (by intro e; injection e with e; omega)
       have hR5 := hR4d.grown i1g (by simp)
       have hQ5 := hQ4d.grown i1g (by omega)
       obtain ⟨z10, z11⟩ := x5.cells2))
  have hRR := (hR9.set_ 0 (.slice A2 n2 c2)).set_ 1 (.slice C2 m2 d2)
  simp only [List.set_cons_zero, List.set_cons_succ] at hRR
  obtain ⟨t0, t1⟩ := hRR.cells2
  have hg9 := grown_trans (grown_trans (grown_trans (grown_trans i1g i2g) i3g) i4g) i5g
  have hz2 : IntKind.i64.wrap (v4 + v5.tdiv 15) = v4 + v5.tdiv 15 := by rw [IntKind.wrap_i64, Int.tdiv_eq_ediv_of_nonneg i50]; omega
  have HB := Lib.hid (show 0 ≤ v4 + v5.tdiv 15 ∧ v4 + v5.tdiv 15 ≤ 1000 by rw [Int.tdiv_eq_ediv_of_nonneg i50]; omega)
  go_wp2_with fail
  refine bodyPost_ret (v := .tuple #[.agg #[.slice A2 n2 c2, .slice C2 m2 d2], .int .i64 (IntKind.i64.wrap (IntKind.i64.wrap (v1 + v2.tdiv 19) - IntKind.i64.wrap (v3.tdiv 19 * 2))), .int .i64 (v4 + v5.tdiv 15)]) (by simp [results, Try.results21, go_sem, t0, t1, hz2]) rfl ?_
  exact ⟨_, q, _, _, rfl, ((hQ9.store (by omega) _).store (by omega) _).down (by omega), HB.out.1, HB.out.2, belowSet (belowSet (grown_toB b4d hg9 (by omega) HZ4.out) (Nat.le_refl _) _) (Nat.le_refl _) _⟩
end Go.Proofs.Ytlmcejpjhdaanaa
