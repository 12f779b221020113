/- Walks: coordinators: the program's CoordinatorValid. -/
import Derived.Test.YtlmcejpjhdaanaaCoPlain
import Derived.Test.YtlmcejpjhdaanaaTxnOk
import Derived.Test.YtlmcejpjhdaanaaCloneI
import Derived.Test.YtlmcejpjhdaanaaEqual
import Derived.Test.YtlmcejpjhdaanaaSortC
namespace Go.Proofs.Ytlmcejpjhdaanaa
open Go.RowKit Go.Sort

theorem own_belowL {w w' : World} {base : Nat} {e : TypeId} {size n : Nat} {v : Value} {xs : List Value} (h : w.ownsRow base e size v n xs) (hb : Below w.heap.size w w') : w'.ownsRow base e size v n xs :=
  h.kept (row := none) ⟨hb.os, hb.tape, hb.output, hb.size, fun k hk _ => hb.block k hk⟩ (by cases v.ownBlock <;> simp)
theorem RInts.of_ownL {w : World} {B n c : Nat} {t : TypeId} {A : Option Addr} {xs : List Int} (h : w.ownsRow B t 1 (.slice A n c) n (ints xs)) : RInts w A n xs := by
  have hl := h.1
  rw [length_ints] at hl
  refine ⟨by omega, fun hn => ?_⟩
  obtain ⟨g, rfl, _, hlt⟩ := own_addr h hn
  exact ⟨_, rfl, hlt, fun j x hx => h.cells (g := g) rfl j (.int .i64 x) (by rw [ints, List.getElem?_map, hx]; rfl)⟩

set_option maxRecDepth 100000 in
set_option maxHeartbeats 3200000 in
theorem implCoordinatorValid_any (cs : List Value) (q : Co) (w : World) (hv : repCo.V 0 w cs q) (hbig : q.ord.length ≤ 100000000) (hbig0 : q.ts.length ≤ 100000000) :
    Calls Try.prog 15 #[.agg cs.toArray] w fun e w' => e = .returned (.bool (coB q)) ∧ Below w.heap.size w w' := by
  obtain ⟨B0, m0, d0, B1, m1, d1, rfl, hr0, hm0, hr1, hm1⟩ := repCo_cells hv
  have hl0 := hr0.1
  have hl1 := hr1.1
  have hbx := below_box w (.cells #[.slice B0 m0 d0, .slice B1 m1 d1] 26)
  have bx := Blk.new w 26 [.slice B0 m0 d0, .slice B1 m1 d1]
  obtain ⟨x0, x1⟩ := bx.cells2
  have hri := hr1.rints
  have HI := Lib.hid (coB_impl q)
  go_enter Try.func15, Try.ntmps15
  go_wp2
  go_loopw [3, 10] (fun s i wr => ∃ (k n : Nat) (B : Option Addr) (d : Nat), k ≤ m0 ∧ n ≤ k ∧ s = .slice B n d ∧ i = .int .i64 k ∧ Hid (∀ t ∈ q.ts.take k, txB t = true) ∧ wr.ownsRow (w.heap.size + 1) 3 1 (.slice B n d) n (ints (comI 0 (q.ts.take k))) ∧ Below w.heap.size w wr ∧ Blk wr w.heap.size 26 [.slice B0 m0 d0, .slice B1 m1 d1]) (fun _ i _ => m0 - (intOf i).toNat)
  case atStart => exact ⟨0, 0, none, 0, Nat.zero_le _, Nat.zero_le _, rfl, rfl, fun t ht => absurd ht (by simp), own_nil, hbx, bx⟩
  case round =>
    obtain ⟨k, n, B, d, hk, hn, rfl, rfl, hH, hown, hbr, hbo⟩ := hrel
    obtain ⟨z0, z1⟩ := hbo.cells2
    by_cases hlt : k < m0
    · obtain ⟨b, off, x, cs', rfl, hb, hx, hcx, hvx⟩ := (hr0.next hbr).at_ hlt
      have HC := Lib.hid (comI_succ q.ts k x hx)
      have HT := Lib.hid (fun hh : txB x = true => show ∀ t ∈ q.ts.take (k + 1), txB t = true from fun t ht => by
        obtain ⟨h1, h2⟩ := List.getElem?_eq_some_iff.1 hx
        rw [List.take_succ_eq_append_getElem h1, h2] at ht
        rcases List.mem_append.1 ht with ht | ht
        · exact hH.out t ht
        · simp at ht; subst ht; exact hh)
      have HB := Lib.hid (fun hh : txB x = false => show coB q = false by
        rw [HI.out]
        have : q.ts.all txB = false := by
          cases h1 : q.ts.all txB
          · rfl
          · have := List.all_eq_true.1 h1 x (List.mem_of_getElem? hx)
            rw [hh] at this; cases this
        rw [this]; rfl)
      have hvx0 := hvx
      obtain ⟨P0, p0, e0, P1, p1, e1, rfl, -, -, -, -⟩ := repTx_cells hvx0
      clear hvx0
      have c0 : wr.cell? ⟨b, off + k * 3, none⟩ = some (.slice P0 p0 e0) := hcx 0 _ rfl
      have c1 : wr.cell? ⟨b, off + k * 3 + 1, none⟩ = some (.slice P1 p1 e1) := hcx 1 _ rfl
      have c2 : wr.cell? ⟨b, off + k * 3 + 1 + 1, none⟩ = some (.int .i64 x.dec) := hcx 2 _ rfl
      have bo := Blk.new wr 35 [.slice P0 p0 e0, .slice P1 p1 e1, .int .i64 x.dec]
      have ea := below_box wr (.cells #[.slice P0 p0 e0, .slice P1 p1 e1, .int .i64 x.dec] 35)
      have hcall := implTxn_any _ x _ (repTx.next hvx ea)
      have hbe := below_ext hbr ea
      have hbo1 := hbo.next ea
      have hown1 := own_belowL hown ea
      clear hcx hvx hx
      obtain ⟨e0', e1', e2'⟩ := bo.cells3
      go_wp2_with fail
      refine hcall.mono ?_
      rintro e w2 ⟨rfl, hb2⟩
      have hbb := below_ext hbe hb2
      have hbo2 := hbo1.next hb2
      have hown2 := own_belowL hown1 hb2
      have bo2 := bo.next hb2
      obtain ⟨y0, y1, y2⟩ := bo2.cells3
      clear c0 c1 c2 e0' e1' e2' hcall
      cases hok : txB x
      · have HBAD := Lib.hid (HB.out hok)
        go_wp2_with fail
        go_ret
        exact ⟨ret_bool HBAD.out.symm, hbb⟩
      · have HTT := Lib.hid (HT.out hok)
        by_cases hd : x.dec = 2
        · have HN := Lib.hid (show comI 0 (q.ts.take (k + 1)) = comI 0 (q.ts.take k) ++ [(k : Int)] by rw [HC.out, if_pos hd])
          rw [hd] at y2
          clear hd hok
          have hz : w.heap.size + 1 ≤ w2.heap.size := hbo2.lt
          have hz1 := hbb.size
          go_wp2_with (at_builtin; refine wpList_app rfl (.tmp 21) (.tmp 23) 24 rfl (w.heap.size + 1) 3 Try.underlying24 int_info1 rfl (by omega) (by omega) _ n _ rfl (hown2.alloc _) ⟨w2.heap.size, 0, none⟩ 1 1 [.int .i64 k] rfl rfl (cell_one_new _ _ _) (by simp [Value.oneCell']) (by omega) (Nat.le_trans hz (by simp)) ?_; intro B' d' w4 hown4 _ hb4 hg4 _)
          go_roundw
          case rel => exact ⟨k + 1, n + 1, B', d', by omega, by omega, rfl, by go_num, HTT.out, by rw [HN.out, ← ints_snoc]; exact hown4, hbb.trans (((below_box w2 (.cells #[.int .i64 (k : Int)] 3)).mono hz1).trans (hb4.mono (Nat.le_succ _))), (hbo2.next (below_box w2 (.cells #[.int .i64 (k : Int)] 3))).below hb4 (Nat.lt_succ_self _)⟩
          case measure => simp [intOf]; omega
        · have hdb : (x.dec == 2) = false := by simpa using hd
          have HN := Lib.hid (show comI 0 (q.ts.take (k + 1)) = comI 0 (q.ts.take k) by rw [HC.out, if_neg hd]; simp)
          clear hd hok
          go_wp2_with fail
          go_roundw
          case rel => exact ⟨k + 1, n, B, d, by omega, by omega, rfl, by go_num, HTT.out, by rw [HN.out]; exact hown2, hbb, hbo2⟩
          case measure => simp [intOf]; omega
    · obtain rfl : k = m0 := by omega
      rw [List.take_of_length_le (by omega)] at hH hown
      have HA := Lib.hid (show q.ts.all txB = true from List.all_eq_true.2 hH.out)
      go_wp2_with fail
      refine (cloneI_any B1 m1 d1 q.ord _ (hri.next hbr) (by omega)).mono ?_
      rintro e w3 ⟨B3, d3, rfl, hown3, hb3⟩
      have hbb3 := below_ext hbr hb3
      have hownC := own_belowL hown hb3
      have hbo3 := hbo.next hb3
      go_wp2_with fail
      refine (sortS_any wr.heap.size B3 m1 d3 q.ord w3 hown3 (by omega)).mono ?_
      rintro e w4 ⟨rfl, hown4, hg4, hbel4⟩
      have hb4 : Below wr.heap.size w3 w4 := hbel4
      have hbb4 := hbb3.trans (hb4.mono hbr.size)
      have hownC4 := hownC.kept hg4 (by
        cases hv0 : (Value.slice B n d).ownBlock with
        | none => exact Or.inl rfl
        | some g =>
          right
          intro e
          have h1 := (hown.lt g hv0).2
          have h2 := (hown3.lt g e.symm).1
          omega)
      have hbo4 : Blk w4 w.heap.size 26 [.slice B0 k d0, .slice B1 m1 d1] := hbo3.below hb4 hbo.lt
      obtain ⟨y0, y1⟩ := hbo4.cells2
      by_cases h12 : k ≤ 12
      · have h12b : decide ((k : Int) ≤ 12) = true := decide_eq_true (by omega)
        have HF := Lib.hid (show coB q = eqI (sortI q.ord) (comI 0 q.ts) by rw [HI.out, HA.out, hl0, decide_eq_true h12]; rfl)
        clear h12
        go_wp2_with fail
        refine (equalI_any B3 B m1 d3 n d (sortI q.ord) (comI 0 q.ts) w4 (RInts.of_ownL hown4) (RInts.of_ownL hownC4) hm1 (by simp only [maxLen]; omega)).mono ?_
        rintro e w5 ⟨rfl, hb5⟩
        go_wp2_with fail
        go_ret
        exact ⟨ret_bool (by rw [HF.out]), below_ext hbb4 hb5⟩
      · have h12b : decide ((k : Int) ≤ 12) = false := decide_eq_false (by omega)
        have HF := Lib.hid (show coB q = false by rw [HI.out, hl0, decide_eq_false h12]; simp)
        clear h12
        go_wp2_with fail
        go_ret
        exact ⟨ret_bool HF.out.symm, hbb4⟩
end Go.Proofs.Ytlmcejpjhdaanaa
