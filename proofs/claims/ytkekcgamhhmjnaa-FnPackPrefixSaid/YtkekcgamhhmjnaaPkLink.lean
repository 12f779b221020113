/- Walks: the program's linkPack and PackDepth. -/
import Derived.Test.YtkekcgamhhmjnaaPkSt
namespace Go.Proofs.Ytkekcgamhhmjnaa
open Go.RowKit Go.Sort

/-- nodes that are linked: where each points to -/
def NodeL (w : World) (lo : Nat) (gs : List Nat) (bs : List Int) : Prop := gs.length ≤ bs.length ∧ ∀ (i g : Nat) (b : Int), gs[i]? = some g → bs[i]? = some b → lo ≤ g ∧ ∃ cs, Blk w g 57 cs ∧ cs[4]? = some (.pointer (ptrTo gs b))
section
variable {w w' : World} {lo : Nat} {gs : List Nat} {bs : List Int}
theorem NodeL.next (h : NodeL w lo gs bs) (hb : Below w.heap.size w w') : NodeL w' lo gs bs :=
  ⟨h.1, fun i g b h1 h2 => by
    obtain ⟨h3, cs, h4, h5⟩ := h.2 i g b h1 h2
    exact ⟨h3, cs, h4.next hb, h5⟩⟩
theorem NodeL.grown {row : Option Nat} (h : NodeL w lo gs bs) (hb : w.grownBy w' row) (hne : ∀ g cs, Blk w g 57 cs → some g ≠ row) : NodeL w' lo gs bs :=
  ⟨h.1, fun i g b h1 h2 => by
    obtain ⟨h3, cs, h4, h5⟩ := h.2 i g b h1 h2
    exact ⟨h3, cs, h4.grown hb (hne g cs h4), h5⟩⟩
theorem NodeL.nil : NodeL w lo [] bs := ⟨Nat.zero_le _, fun i g b h => by simp at h⟩
theorem NodeL.snoc {gn : Nat} {b : Int} {cs : List Value} (h : NodeL w lo gs bs) (hb : bs[gs.length]? = some b) (hbb : b < gs.length) (hok : ∀ (i : Nat) (b : Int), i < gs.length → bs[i]? = some b → b < i) (hlo : lo ≤ gn) (hB : Blk w gn 57 cs) (hc : cs[4]? = some (.pointer (ptrTo gs b))) : NodeL w lo (gs ++ [gn]) bs := by
  have hl := (List.getElem?_eq_some_iff.1 hb).1
  refine ⟨by rw [List.length_append, List.length_singleton]; omega, fun i g b' h1 h2 => ?_⟩
  by_cases hi : i < gs.length
  · rw [List.getElem?_append_left hi] at h1
    have hbi := hok i b' hi h2
    obtain ⟨h3, cs', h4, h5⟩ := h.2 i g b' h1 h2
    exact ⟨h3, cs', h4, by rw [ptrTo_app (by omega)]; exact h5⟩
  · have hi2 : i = gs.length := by
      have := (List.getElem?_eq_some_iff.1 h1).1
      rw [List.length_append, List.length_singleton] at this
      omega
    subst hi2
    rw [List.getElem?_append_right (Nat.le_refl _), Nat.sub_self] at h1
    simp at h1
    subst h1
    rw [hb] at h2
    injection h2 with h2
    subst h2
    exact ⟨hlo, cs, hB, by rw [ptrTo_app hbb]; exact hc⟩
theorem NodeL.nodeP (h : NodeL w lo gs bs) (hl : gs.length = bs.length) : NodeP w gs bs :=
  ⟨hl, fun i g b h1 h2 => by
    obtain ⟨_, cs, h4, h5⟩ := h.2 i g b h1 h2
    exact ⟨h4.lt, by rw [h4.cell 4, h5]; rfl⟩⟩
theorem NodeL.push {N : Option Addr} {k cN gx : Nat} {b : Int} {cs : List Value} (hON : OwnN w lo N k cN gs) (hNL : NodeL w lo gs bs) (hb : bs[k]? = some b) (hbb : b < k) (hok : OkB bs) (hlo : lo ≤ gx) (hlw : lo ≤ w.heap.size) (hB : Blk w gx 57 cs) (hc : cs[4]? = some (.pointer (ptrTo gs b))) :
    (w.alloc (.cells #[.pointer (some ⟨gx, 0, none⟩)] 55)).ownsRow lo 55 1 (.slice N k cN) k (ptrs gs) ∧
      (∀ (j : Nat) (u : Value), [.pointer (some ⟨gx, 0, none⟩)][j]? = some u → (w.alloc (.cells #[.pointer (some ⟨gx, 0, none⟩)] 55)).cell? ((⟨w.heap.size, 0, none⟩ : Addr).add j) = some u) ∧
      lo ≤ (w.alloc (.cells #[.pointer (some ⟨gx, 0, none⟩)] 55)).heap.size ∧
      ∀ (N' : Option Addr) (cN' : Nat) (w10 : World), w10.ownsRow lo 55 1 (.slice N' (k + 1) cN') (k + 1) (ptrs gs ++ [.pointer (some ⟨gx, 0, none⟩)]) →
        (w.alloc (.cells #[.pointer (some ⟨gx, 0, none⟩)] 55)).grownBy w10 (Value.slice N k cN).ownBlock → OwnN w10 lo N' (k + 1) cN' (gs ++ [gx]) ∧ NodeL w10 lo (gs ++ [gx]) bs := by
  have bp := below_box w (.cells #[.pointer (some ⟨gx, 0, none⟩)] 55)
  have hONx : OwnN (w.alloc (.cells #[.pointer (some ⟨gx, 0, none⟩)] 55)) lo N k cN gs := own_below hON bp
  have hlen := hON.len
  refine ⟨hONx, (Blk.new w _ [.pointer (some ⟨gx, 0, none⟩)]).cellsAt, Nat.le_trans hlw bp.size, fun N' cN' w10 ho hg => ⟨?_, ?_⟩⟩
  · unfold OwnN
    rw [show ptrs (gs ++ [gx]) = ptrs gs ++ [.pointer (some ⟨gx, 0, none⟩)] by simp [ptrs]]
    exact ho
  · have hNLx := (hNL.next bp).grown hg (fun g cs hB' e => own_ne_blk hONx hB' (by decide) e.symm)
    have hBx := (hB.next bp).grown hg (fun e => own_ne_blk hONx (hB.next bp) (by decide) e.symm)
    exact hNLx.snoc (by rw [hlen]; exact hb) (by omega) (fun i b' _ h' => (hok i b' h').2) hlo hBx hc
end
set_option maxRecDepth 100000 in
set_option maxHeartbeats 1600000 in
theorem linkPack_any (A : Option Addr) (n c : Nat) (ps : List Pe) (w : World) (h : RSl repPe 0 w A n ps) (hn : n ≤ 1000) (hok : OkB (ps.map Pe.b)) :
    Calls Try.prog 39 #[.slice A n c] w fun e w' => ∃ N cN gs, e = .returned (.tuple #[.slice N n cN, .bool true]) ∧ OwnN w' w.heap.size N n cN gs ∧ NodeL w' w.heap.size gs (ps.map Pe.b) ∧ Below w.heap.size w w' := by
  have hl := h.1
  have HOK := Lib.hid hok
  clear hok
  go_enter Try.func39, Try.ntmps39
  go_wp2_with fail
  go_loopw [4, 10] (fun v i wr => ∃ (k : Nat) (N : Option Addr) (cN : Nat) (gs : List Nat), k ≤ n ∧ v = .slice N k cN ∧ i = .int .i64 k ∧ OwnN wr w.heap.size N k cN gs ∧ NodeL wr w.heap.size gs (ps.map Pe.b) ∧ Below w.heap.size w wr) (fun _ i _ => n - (intOf i).toNat)
  case atStart => exact ⟨0, none, 0, [], Nat.zero_le _, rfl, rfl, ⟨by simp [ptrs], .inl ⟨rfl, rfl⟩⟩, NodeL.nil, Below.refl _ _⟩
  case round =>
    obtain ⟨k, N, cN, gs, hk, rfl, rfl, hON, hNL, hbr⟩ := hrel
    have HLN := Lib.hid hON.len
    by_cases hlt : k < n
    · obtain ⟨b, off, x, cs, rfl, hb, hx, hc, hv⟩ := (h.next hbr).at_ hlt
      obtain ⟨B1, m1, d1, B3, m3, d3, rfl, _, _, _, _⟩ := repPe_cells hv
      have HBK := Lib.hid (show (ps.map Pe.b)[k]? = some x.b by rw [List.getElem?_map, hx]; rfl)
      have hbd := HOK.out k x.b HBK.out
      have c0 : wr.cell? ⟨b, off + k * 4, none⟩ = some (.int .i64 x.k) := hc 0 _ rfl
      have c1 : wr.cell? ⟨b, off + k * 4 + 1, none⟩ = some (.slice B1 m1 d1) := hc 1 _ rfl
      have c2 : wr.cell? ⟨b, off + k * 4 + 1 + 1, none⟩ = some (.int .i64 x.b) := hc 2 _ rfl
      have c3 : wr.cell? ⟨b, off + k * 4 + 1 + 1 + 1, none⟩ = some (.slice B3 m3 d3) := hc 3 _ rfl
      have bE := below_box wr (.cells #[.int .i64 x.k, .slice B1 m1 d1, .int .i64 x.b, .slice B3 m3 d3] 32)
      have hwk : IntKind.i64.wrap ((k : Int) - 1) = (k : Int) - 1 := by rw [IntKind.wrap_i64]; omega
      have d1' : (decide (-1 ≤ x.b) && decide (x.b ≤ (k : Int) - 1)) = true := by rw [decide_eq_true (by omega : -1 ≤ x.b), decide_eq_true (by omega : x.b ≤ (k : Int) - 1)]; rfl
      have HD1 := Lib.hid d1'
      clear hx hc hv d1'
      go_wp2_with fail
      refine (inRange_any x.b (-1) ((k : Int) - 1) _).mono ?_
      rw [HD1.out]
      rintro e w1 ⟨rfl, rfl⟩
      have hBE := Blk.new wr 32 [.int .i64 x.k, .slice B1 m1 d1, .int .i64 x.b, .slice B3 m3 d3]
      have hge := bE.size
      have hONe : OwnN _ w.heap.size N k cN gs := own_below hON bE
      have hNLe := hNL.next bE
      have bwe := below_ext hbr bE
      have hzw := hbr.size
      generalize hW : wr.alloc (.cells #[.int .i64 x.k, .slice B1 m1 d1, .int .i64 x.b, .slice B3 m3 d3] 32) = we at *
      obtain ⟨e0, e1, e2, e3⟩ := hBE.cells4
      have hlo : w.heap.size ≤ we.heap.size := Nat.le_trans hzw hge
      have bX := below_box we (.cells #[.int .i64 x.k, .slice B1 m1 d1, .int .i64 x.b, .slice B3 m3 d3, .pointer none, .string ⟨#[]⟩] 57)
      have hBX := Blk.new we 57 [.int .i64 x.k, .slice B1 m1 d1, .int .i64 x.b, .slice B3 m3 d3, .pointer none, .string ⟨#[]⟩]
      have hBEx := hBE.next bX
      have hONx : OwnN _ w.heap.size N k cN gs := own_below hONe bX
      have hNLx := hNLe.next bX
      have bwx := below_ext bwe bX
      have hzx := bX.size
      have hNLe0 := hNLe
      clear hON hNL c0 c1 c2 c3 hONe hNLe hW bE
      have NEWN : ∀ g ∈ gs, g < we.heap.size := fun g hg => by
        obtain ⟨i, hi⟩ := List.mem_iff_getElem?.1 hg
        have hil := (List.getElem?_eq_some_iff.1 hi).1
        obtain ⟨_, cs, h4, _⟩ := hNLe0.2 i g _ hi (List.getElem?_eq_getElem (by have := hNLe0.1; omega))
        exact h4.lt
      clear hNLe0
      go_upto_region 8 with fail
      generalize hWX : we.alloc (.cells #[.int .i64 x.k, .slice B1 m1 d1, .int .i64 x.b, .slice B3 m3 d3, .pointer none, .string ⟨#[]⟩] 57) = wx at *
      generalize hGX : we.heap.size = gx at *
      clear hWX hGX e0 e1 e2 e3 bX hBE
      have hgx : w.heap.size ≤ gx := hlo
      obtain ⟨f0, f1, f2, f3⟩ := hBEx.cells4
      by_cases h0 : 0 ≤ x.b
      · obtain ⟨q, HQ⟩ : ∃ q : Nat, Hid (x.b = q) := ⟨x.b.toNat, Lib.hid (by omega)⟩
        have hqk : q < k := by have := HQ.out; omega
        have hge0 : decide (x.b ≥ 0) = true := decide_eq_true h0
        have hge1 : decide (0 ≤ x.b) = true := decide_eq_true h0
        obtain ⟨g0, gq, rfl, hg0, hgq, hpc⟩ := hONx.at_ hqk
        have HGQ := Lib.hid hgq
        clear hgq
        have hxk : x.b < (k : Int) := by omega
        have hpc' : wx.cell? ⟨g0, x.b.toNat, none⟩ = some (.pointer (some ⟨gq, 0, none⟩)) := by rw [show x.b.toNat = q by have := HQ.out; omega]; exact hpc
        have b4 := hBX.cell 4
        have bf := hBX.frozen 4
        have hgr := grown_setCell (i := 4) (World.grownBy.refl wx (some gx)) (.pointer (some ⟨gq, 0, none⟩))
        have hONy : OwnN (wx.setCell ⟨gx, 4, none⟩ (.pointer (some ⟨gq, 0, none⟩))) w.heap.size (some ⟨g0, 0, none⟩) k cN gs := World.ownsRow.kept hONx hgr (Or.inr (own_ne_blk hONx hBX (by decide)))
        have hBY : Blk (wx.setCell ⟨gx, 4, none⟩ (.pointer (some ⟨gq, 0, none⟩))) gx 57 [.int .i64 x.k, .slice B1 m1 d1, .int .i64 x.b, .slice B3 m3 d3, .pointer (some ⟨gq, 0, none⟩), .string ⟨#[]⟩] := hBX.set_ 4 _
        have hNLy : NodeL (wx.setCell ⟨gx, 4, none⟩ (.pointer (some ⟨gq, 0, none⟩))) w.heap.size gs (ps.map Pe.b) := ⟨hNLx.1, fun i g b h1 h2 => by
          obtain ⟨h3, cs, h4, h5⟩ := hNLx.2 i g b h1 h2
          refine ⟨h3, cs, h4.grown hgr (fun e => ?_), h5⟩
          injection e with e
          have := NEWN g (List.mem_of_getElem? h1)
          omega⟩
        have bwy : Below w.heap.size w (wx.setCell ⟨gx, 4, none⟩ (.pointer (some ⟨gq, 0, none⟩))) := bwx.setCell (p := ⟨gx, 4, none⟩) hgx _
        have hly := bwy.size
        have HC := Lib.hid (show [Value.int .i64 x.k, .slice B1 m1 d1, .int .i64 x.b, .slice B3 m3 d3, .pointer (some ⟨gq, 0, none⟩), .string ⟨#[]⟩][4]? = some (.pointer (ptrTo gs x.b)) by
          unfold ptrTo
          rw [if_neg (by omega), show x.b.toNat = q by have := HQ.out; omega, List.getD_eq_getElem?_getD, HGQ.out]
          rfl)
        clear hONx hNLx hBX hgr bwx
        go_upto_region 10 with fail
        generalize hWY : wx.setCell ⟨gx, 4, none⟩ (.pointer (some ⟨gq, 0, none⟩)) = wy at *
        clear hWY hpc hpc' b4 bf f0 f1 f2 f3 hBEx
        obtain ⟨P1, P2, P3, P4⟩ := NodeL.push hONy hNLy HBK.out (by omega) HOK.out hgx hly hBY HC.out
        have HP4 := Lib.hid P4
        clear P4
        go_wp2_with (at_builtin; (refine wpList_app rfl (.tmp 35) (.tmp 37) 53 rfl w.heap.size 55 Try.underlying53 ptr_info rfl (by omega) (by omega) _ k (ptrs gs) rfl P1 ⟨wy.heap.size, 0, none⟩ 1 1 [.pointer (some ⟨gx, 0, none⟩)] rfl rfl P2 (by simp [Value.oneCell']) (by omega) P3 ?_; intro N9 c9 w9 hown9 _ hb9 hg9 _))
        obtain ⟨R1, R2⟩ := HP4.out N9 c9 w9 hown9 hg9
        go_roundw
        case rel => exact ⟨k + 1, N9, c9, gs ++ [gx], by omega, rfl, by go_num, R1, R2, (below_ext bwy (below_box _ _)).trans hb9⟩
        case measure => simp [intOf]; omega
      · have hge0 : decide (x.b ≥ 0) = false := decide_eq_false h0
        have hge1 : decide (0 ≤ x.b) = false := decide_eq_false h0
        have hONy := hONx
        have hNLy := hNLx
        have bwy := bwx
        have hly := bwx.size
        have HC := Lib.hid (show [Value.int .i64 x.k, .slice B1 m1 d1, .int .i64 x.b, .slice B3 m3 d3, .pointer none, .string ⟨#[]⟩][4]? = some (.pointer (ptrTo gs x.b)) by
          unfold ptrTo
          rw [if_pos (by omega)]
          rfl)
        obtain ⟨P1, P2, P3, P4⟩ := NodeL.push hONy hNLy HBK.out (by omega) HOK.out hgx hly hBX HC.out
        have HP4 := Lib.hid P4
        clear P4
        go_wp2_with (at_builtin; (refine wpList_app rfl (.tmp 35) (.tmp 37) 53 rfl w.heap.size 55 Try.underlying53 ptr_info rfl (by omega) (by omega) _ k (ptrs gs) rfl P1 ⟨wx.heap.size, 0, none⟩ 1 1 [.pointer (some ⟨gx, 0, none⟩)] rfl rfl P2 (by simp [Value.oneCell']) (by omega) P3 ?_; intro N9 c9 w9 hown9 _ hb9 hg9 _))
        obtain ⟨R1, R2⟩ := HP4.out N9 c9 w9 hown9 hg9
        go_roundw
        case rel => exact ⟨k + 1, N9, c9, gs ++ [gx], by omega, rfl, by go_num, R1, R2, (below_ext bwy (below_box _ _)).trans hb9⟩
        case measure => simp [intOf]; omega
    · obtain rfl : k = n := by omega
      go_wp2_with fail
      refine bodyPost_ret (v := .tuple #[.slice N k cN, .bool true]) (by simp [results, Try.results39, go_sem]) rfl ?_
      exact ⟨N, cN, gs, rfl, hON, hNL, hbr⟩
end Go.Proofs.Ytkekcgamhhmjnaa
