/- Walks: the reference's refs after transactions: l21Begin, l11Set, l22Refs, CoordinatorRefs. -/
import Derived.Test.YtlmcejpjhdaanaaRefs
import Derived.Test.YtlmcejpjhdaanaaCopyI
import Derived.Test.YtlmcejpjhdaanaaShardS
namespace Go.Proofs.Ytlmcejpjhdaanaa
open Go.RowKit Go.Sort

theorem keepOwn {w w' : World} {row : Option Nat} {base : Nat} {e : TypeId} {size n : Nat} {v : Value} {xs : List Value} (h : w.ownsRow base e size v n xs) (hg : w.grownBy w' row) (hne : ∀ b, v.ownBlock = some b → some b ≠ row) : w'.ownsRow base e size v n xs :=
  h.kept hg (by
    cases hv : v.ownBlock with
    | none => exact Or.inl rfl
    | some b => exact Or.inr (hne b hv))
theorem grownSet1 (w : World) (g i : Nat) (u : Value) : w.grownBy (w.setCell ⟨g, i, none⟩ u) (some g) := grown_setCell (World.grownBy.refl w (some g)) u
theorem grownAl (w : World) (o : Obj) (row : Option Nat) : w.grownBy (w.alloc o) row := grownB (World.grownBy.refl w row) (below_box w o)
theorem own_baseR {w : World} {base base' : Nat} {e : TypeId} {size n : Nat} {v : Value} {xs : List Value} (h : w.ownsRow base e size v n xs) (hb : base' ≤ base) : w.ownsRow base' e size v n xs := by
  refine ⟨h.1, ?_⟩
  rcases h.2 with h0 | ⟨g, cap, cur, hv, hg, r⟩
  · exact Or.inl h0
  · exact Or.inr ⟨g, cap, cur, hv, by omega, r⟩
theorem own_blkS {w : World} {B g n d size : Nat} {e : TypeId} {xs : List Value} (h : w.ownsRow B e size (.slice (some ⟨g, 0, none⟩) n d) n xs) : ∃ cs, Blk w g e cs := by
  rcases h.2 with ⟨h0, _⟩ | ⟨g', cap, cur, hv, hb, hh, _⟩
  · cases h0
  · injection hv with hv1 _ _
    injection hv1 with hv1
    injection hv1 with hv1 _ _
    subst hv1
    exact ⟨cur.toList, by unfold Blk; simpa using hh⟩
theorem one_at {w : World} {g : Nat} {t : TypeId} {v : Value} (h : Blk w g t [v]) : ∀ j u, ([v] : List Value)[j]? = some u → w.cell? ((⟨g, 0, none⟩ : Addr).add j) = some u := fun j u hu => by
  match j, hu with
  | 0, hu =>
    simp at hu
    subst hu
    rw [add_flat]
    exact h.cell 0
  | j + 1, hu => simp at hu
/-- k numbers -1 -/
def neg1 (k : Nat) : List Int := List.replicate k (-1)
theorem neg1_succ (k : Nat) : ints (neg1 k) ++ [Value.int .i64 (-1)] = ints (neg1 (k + 1)) := by
  rw [ints_snoc]
  unfold neg1
  rw [List.replicate_succ']
set_option maxRecDepth 100000 in
set_option maxHeartbeats 3200000 in
theorem l21Begin_any (w : World) : Calls Try.prog 75 #[] w fun e w' => ∃ R d L dl, e = .returned (.agg #[.slice R 4 d, .slice L 4 dl]) ∧ w'.ownsRow w.heap.size 3 1 (.slice R 4 d) 4 (ints no4) ∧ Below w.heap.size w w' := by
  have x0 := (Blk.new w 104 [.slice none 0 0, .slice none 0 0]).alloc (.cells #[.slice none 0 0, .slice none 0 0] 104)
  have x1 : Blk ((w.alloc (.cells #[.slice none 0 0, .slice none 0 0] 104)).alloc (.cells #[.slice none 0 0, .slice none 0 0] 104)) (w.heap.size + 1) 104 [.slice none 0 0, .slice none 0 0] := by simpa using Blk.new (w.alloc (.cells #[.slice none 0 0, .slice none 0 0] 104)) 104 [.slice none 0 0, .slice none 0 0]
  have b2 := below_box2 w (.cells #[.slice none 0 0, .slice none 0 0] 104) (.cells #[.slice none 0 0, .slice none 0 0] 104)
  have HSZ : ((w.alloc (.cells #[.slice none 0 0, .slice none 0 0] 104)).alloc (.cells #[.slice none 0 0, .slice none 0 0] 104)).heap.size = w.heap.size + 2 := by simp
  have HS := Lib.hid HSZ
  clear HSZ
  go_enter Try.func75, Try.ntmps75
  go_wp2_with fail
  go_loopw [2] (fun i wr => ∃ (k : Nat) (R L : Option Addr) (dr dl : Nat), k ≤ 4 ∧ i = .int .i64 k ∧ Blk wr w.heap.size 104 [.slice none 0 0, .slice none 0 0] ∧ Blk wr (w.heap.size + 1) 104 [.slice R k dr, .slice L k dl] ∧ wr.ownsRow (w.heap.size + 2) 3 1 (.slice R k dr) k (ints (neg1 k)) ∧ wr.ownsRow (w.heap.size + 2) 3 1 (.slice L k dl) k (ints (neg1 k)) ∧
    (∀ b, (Value.slice R k dr).ownBlock = some b → (Value.slice L k dl).ownBlock ≠ some b) ∧ w.heap.size + 2 ≤ wr.heap.size ∧ Below w.heap.size w wr) (fun i _ => 4 - (intOf i).toNat)
  case atStart => exact ⟨0, none, none, 0, 0, Nat.zero_le _, rfl, x0, x1, own_nil, own_nil, (fun b h => by cases h), by rw [HS.out]; exact Nat.le_refl _, b2⟩
  case round =>
    obtain ⟨k, R, L, dr, dl, hk, rfl, hR, hB, hoR, hoL, hne, hsz, hbr⟩ := hrel
    by_cases hlt : k < 4
    · obtain ⟨c0, c1⟩ := hB.cells2
      have ba := below_box wr (.cells #[.int .i64 (-1)] 3)
      have o1 := Blk.new wr 3 [.int .i64 (-1)]
      have hltR := fun b h => (hoR.lt b h).1
      have hltL := fun b h => (hoL.lt b h).1
      have hltR2 := fun b h => (hoR.lt b h).2
      have hltL2 := fun b h => (hoL.lt b h).2
      have hza : (wr.alloc (.cells #[.int .i64 (-1)] 3)).heap.size = wr.heap.size + 1 := by simp
      have HZA := Lib.hid hza
      clear hza
      go_wp2_with (at_builtin; first
        | (refine wpList_app rfl (.tmp 9) (.tmp 10) 24 rfl (w.heap.size + 2) 3 Try.underlying24 int_info1 rfl (by omega) (by omega) _ k _ rfl (hoR.alloc _) ⟨wr.heap.size, 0, none⟩ 1 1 [.int .i64 (-1)] rfl rfl (cell_one_new _ _ _) (by simp [Value.oneCell']) (by omega) (by rw [HZA.out]; omega) ?_
           intro R2 dr2 w4 hoR2 _ hb4 hg4 hloc4
           rw [neg1_succ] at hoR2
           have hz4 := hg4.size
           have hB4 := (hB.next ba).grown hg4 (fun e => by have := hltR _ e.symm; omega)
           have hR4 := (hR.next ba).grown hg4 (fun e => by have := hltR _ e.symm; omega)
           have hoL4 := keepOwn (hoL.alloc (.cells #[.int .i64 (-1)] 3)) hg4 (fun b h e => hne b e.symm h)
           obtain ⟨d0, d1⟩ := hB4.cells2
           have f0 := hB4.frozen 0
           have hB5 := hB4.set_ 0 (.slice R2 (k + 1) dr2)
           simp only [List.set_cons_zero] at hB5
           obtain ⟨e0, e1⟩ := hB5.cells2
           have hg5 := grownSet1 w4 (w.heap.size + 1) 0 (.slice R2 (k + 1) dr2)
           have hR5 := hR4.far (p := ⟨w.heap.size + 1, 0, none⟩) (by dsimp only; omega) (.slice R2 (k + 1) dr2)
           have hoR5 := keepOwn hoR2 hg5 (fun b h e => by have := (hoR2.lt b h).1; injection e with e; omega)
           have hoL5 := keepOwn hoL4 hg5 (fun b h e => by have := hltL b h; injection e with e; omega)
           have hsz5 : (w4.setCell ⟨w.heap.size + 1, 0, none⟩ (.slice R2 (k + 1) dr2)).heap.size = w4.heap.size := by simp [World.setCell]
           have HZ5 := Lib.hid hsz5
           clear hsz5
           have hlR2 := fun b h => (hoR2.lt b h)
           have hbb : Below w.heap.size w (w4.setCell ⟨w.heap.size + 1, 0, none⟩ (.slice R2 (k + 1) dr2)) := ((hbr.trans (ba.mono hbr.size)).trans (hb4.mono (by omega))).setCell (p := ⟨w.heap.size + 1, 0, none⟩) (by dsimp only; omega) _
           have ba5 := below_box (w4.setCell ⟨w.heap.size + 1, 0, none⟩ (.slice R2 (k + 1) dr2)) (.cells #[.int .i64 (-1)] 3)
           have o5 := Blk.new (w4.setCell ⟨w.heap.size + 1, 0, none⟩ (.slice R2 (k + 1) dr2)) 3 [.int .i64 (-1)]
           rw [HZ5.out] at o5
           have hbs5 : w.heap.size + 2 ≤ ((w4.setCell ⟨w.heap.size + 1, 0, none⟩ (.slice R2 (k + 1) dr2)).alloc (.cells #[.int .i64 (-1)] 3)).heap.size := by have := ba5.size; have := HZ5.out; have := HZA.out; omega)
        | (refine wpList_app rfl (.tmp 14) (.tmp 15) 24 rfl (w.heap.size + 2) 3 Try.underlying24 int_info1 rfl (by omega) (by omega) _ k _ rfl (hoL5.alloc _) ⟨w4.heap.size, 0, none⟩ 1 1 [.int .i64 (-1)] rfl rfl (one_at o5) (by simp [Value.oneCell']) (by omega) hbs5 ?_
           intro L2 dl2 w6 hoL2 _ hb6 hg6 hloc6
           rw [neg1_succ] at hoL2
           have hz6 := hg6.size
           have hB6 := (hB5.next ba5).grown hg6 (fun e => by have := hltL _ e.symm; omega)
           have hR6 := (hR5.next ba5).grown hg6 (fun e => by have := hltL _ e.symm; omega)
           have hR2L : ∀ b, (Value.slice R2 (k + 1) dr2).ownBlock = some b → (Value.slice L k dl).ownBlock ≠ some b := fun b h e => by
             rcases hloc4 with h4 | h4
             · exact hne b (h4 ▸ h) e
             · rw [h4] at h
               injection h with h
               have := hltL2 b e
               have := HZA.out
               omega
           have hoR6 := keepOwn (hoR5.alloc (.cells #[.int .i64 (-1)] 3)) hg6 (fun b h e => hR2L b h e.symm)
           obtain ⟨q0, q1⟩ := hB6.cells2
           have q1f := hB6.frozen 1
           have hB7 := hB6.set_ 1 (.slice L2 (k + 1) dl2)
           simp only [List.set_cons_zero, List.set_cons_succ] at hB7
           have hg7 := grownSet1 w6 (w.heap.size + 1) 1 (.slice L2 (k + 1) dl2)
           have hR7 := hR6.far (p := ⟨w.heap.size + 1, 1, none⟩) (by dsimp only; omega) (.slice L2 (k + 1) dl2)
           have hoR7 := keepOwn hoR6 hg7 (fun b h e => by have := (hoR6.lt b h).1; injection e with e; omega)
           have hoL7 := keepOwn hoL2 hg7 (fun b h e => by have := (hoL2.lt b h).1; injection e with e; omega)))
      go_roundw
      case rel =>
        have hz5 := HZ5.out
        have hza := HZA.out
        have hb5s := ba5.size
        exact ⟨k + 1, R2, L2, dr2, dl2, by omega, by go_num, hR7, hB7, hoR7, hoL7, fun b h e => by
          rcases hloc6 with h6 | h6
          · exact hR2L b h (h6 ▸ e)
          · rw [h6] at e
            injection e with e
            have := (hlR2 b h).2
            have h9 : ((w4.setCell ⟨w.heap.size + 1, 0, none⟩ (.slice R2 (k + 1) dr2)).alloc (.cells #[.int .i64 (-1)] 3)).heap.size = (w4.setCell ⟨w.heap.size + 1, 0, none⟩ (.slice R2 (k + 1) dr2)).heap.size + 1 := by simp
            omega, by rw [size_setCell]; omega, ((hbb.trans (ba5.mono hbb.size)).trans (hb6.mono (by omega))).setCell (p := ⟨w.heap.size + 1, 1, none⟩) (by dsimp only; omega) _⟩
      case measure => simp [intOf]; omega
    · obtain rfl : k = 4 := by omega
      obtain ⟨c0, c1⟩ := hB.cells2
      obtain ⟨d0, d1⟩ := hR.cells2
      have f0 := hR.frozen 0
      have f1 := hR.frozen 1
      have hRR := (hR.set_ 0 (.slice R 4 dr)).set_ 1 (.slice L 4 dl)
      simp only [List.set_cons_zero, List.set_cons_succ] at hRR
      obtain ⟨r0, r1⟩ := hRR.cells2
      go_wp2_with fail
      refine bodyPost_ret (v := .agg #[.slice R 4 dr, .slice L 4 dl]) (by simp [results, Try.results75, go_sem, r0, r1]) rfl ?_
      have hg1 := grownSet1 wr w.heap.size 0 (.slice R 4 dr)
      have hg2 := grownSet1 (wr.setCell ⟨w.heap.size, 0, none⟩ (.slice R 4 dr)) w.heap.size 1 (.slice L 4 dl)
      have ho1 := keepOwn hoR hg1 (fun b h e => by have := (hoR.lt b h).1; injection e with e; omega)
      have ho2 := keepOwn ho1 hg2 (fun b h e => by have := (hoR.lt b h).1; injection e with e; omega)
      exact ⟨R, dr, L, dl, rfl, own_baseR ho2 (by omega), (hbr.setCell (p := ⟨w.heap.size, 0, none⟩) (Nat.le_refl _) _).setCell (p := ⟨w.heap.size, 1, none⟩) (Nat.le_refl _) _⟩
set_option maxRecDepth 100000 in
set_option maxHeartbeats 3200000 in
theorem l11Set_any (R : Option Addr) (d : Nat) (rs : List Int) (A : Option Addr) (n c : Nat) (us : List Up) (w : World) (hr : RInts w R 4 rs) (h : RSl repUp 0 w A n us) (hn : n ≤ maxLen) (hok : ∀ u ∈ us, upOk u = true) :
    Calls Try.prog 77 #[.slice R 4 d, .slice A n c] w fun e w' => ∃ R2 d2, e = .returned (.slice R2 4 d2) ∧ w'.ownsRow w.heap.size 3 1 (.slice R2 4 d2) 4 (ints (setR rs us)) ∧ Below w.heap.size w w' := by
  unfold maxLen at hn
  have hlu := h.1
  have hl := hr.1
  have e1 := below_box w (.cells #[] 3)
  have hr1 := hr.next e1
  have x1 := Blk.new w 3 []
  go_enter Try.func77, Try.ntmps77
  go_wp2_with (at_builtin; go_loud (refine wpList_appS rfl (.tmp 7) (.tmp 8) 24 rfl w.heap.size 3 Try.underlying24 int_info1 rfl (by omega) (by omega) _ 0 [] rfl (own_emp x1 (Nat.le_refl _)) _ 4 d (ints rs) rfl (by rw [length_ints]; omega) (fun hn => hr1.newsI hn) (ints_one _) 4 (by omega) (by omega) e1.size ?_; intro R2 d2 w2 hown2 _ hb2 hg2; simp only [List.nil_append] at hown2))
  obtain ⟨g, rfl, hg1, hg2'⟩ := own_addr hown2 (by omega)
  have hb0 := e1.trans hb2
  go_loopw [6] (fun i wr => ∃ k : Nat, k ≤ n ∧ i = .int .i64 k ∧ wr.ownsRow w.heap.size 3 1 (.slice (some ⟨g, 0, none⟩) 4 d2) 4 (ints (setR rs (us.take k))) ∧ Below w.heap.size w wr) (fun i _ => n - (intOf i).toNat)
  case atStart => exact ⟨0, Nat.zero_le _, rfl, by simpa [setR] using hown2, hb0⟩
  case round =>
    obtain ⟨k, hk, rfl, hoj, hbj⟩ := hrel
    by_cases hlt : k < n
    · obtain ⟨b, off, u, cs, rfl, hbb, hx, hcx, hvx⟩ := (h.next hbj).at_ hlt
      obtain rfl := repUp_cells hvx
      have c0 : wr.cell? ⟨b, off + k * 3, none⟩ = some (.int .i64 u.ref) := hcx 0 _ rfl
      have c2 : wr.cell? ⟨b, off + k * 3 + 1 + 1, none⟩ = some (.int .i64 u.new) := hcx 2 _ rfl
      have c2' : wr.cell? ⟨b, off + k * 3 + 2, none⟩ = some (.int .i64 u.new) := hcx 2 _ rfl
      have hru := (upOk_parts (hok u (List.mem_of_getElem? hx))).1
      unfold refB at hru
      simp only [Bool.and_eq_true, decide_eq_true_eq] at hru
      have HS := Lib.hid (setR_succ rs hx)
      obtain ⟨u0, u1, u2⟩ := u
      dsimp only at c0 c2 c2' hru HS
      obtain ⟨r, rfl⟩ := Int.eq_ofNat_of_zero_le hru.1
      have hr4 : r < 4 := by omega
      have hr4i : (r : Int) < 4 := by omega
      rw [Int.toNat_natCast] at HS
      have hlen : (setR rs (us.take k)).length = 4 := by rw [setR_len]; exact hl
      obtain ⟨v, hv⟩ : ∃ v, (setR rs (us.take k))[r]? = some v := ⟨_, List.getElem?_eq_getElem (by omega)⟩
      have cg : wr.cell? ⟨g, r, none⟩ = some (.int .i64 v) := by
        have := hoj.cells (g := g) rfl r (.int .i64 v) (by rw [ints, List.getElem?_map, hv]; rfl)
        rw [add_flat, Nat.zero_add] at this
        exact this
      obtain ⟨cur, hBg⟩ := own_blkS hoj
      have fg := hBg.frozen r
      have ho2 := own_setP (w := wr.drew) hoj r (.int .i64 u2)
      rw [show (ints (setR rs (us.take k))).set r (.int .i64 u2) = ints ((setR rs (us.take k)).set r u2) by simp [ints, List.map_set]] at ho2
      have HO2 := Lib.hid ho2
      have hb2' := hbj.drew.setCell (p := ⟨g, r, none⟩) hg1 (.int .i64 u2)
      clear hx hcx hvx hv ho2
      go_wp2_with fail
      go_region
      all_goals
        go_wp2
        go_roundw
        case rel => exact ⟨k + 1, by omega, by go_num, by rw [HS.out]; exact HO2.out, hb2'⟩
        case measure => simp [intOf]; omega
    · obtain rfl : k = n := by omega
      rw [List.take_of_length_le (by omega)] at hoj
      go_wp2
      go_ret
      exact ⟨_, _, rfl, hoj, hbj⟩
end Go.Proofs.Ytlmcejpjhdaanaa
