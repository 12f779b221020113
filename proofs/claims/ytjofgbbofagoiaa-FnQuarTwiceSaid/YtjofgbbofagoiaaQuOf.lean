/- Walk: quarantineOf: the quarantine of a store and a map of areas. -/
import Derived.Test.YtjofgbbofagoiaaQuKeys
import Derived.Test.YtjofgbbofagoiaaQuAreas
namespace Go.Proofs.Ytjofgbbofagoiaa
open Go.RowKit Go.Sort Go.Maps

theorem find_ars {p : Int × Value} : ∀ {l : List (Int × Value)} {k : Nat}, (l.map (·.1)).Pairwise (· < ·) → l[k]? = some p → l.find? (fun q => decide (q.1 = p.1)) = some p
  | [], _, _, h => by simp at h
  | q :: l, 0, _, h => by
    have : q = p := by simpa using h
    subst this
    simp
  | q :: l, k + 1, hp, h => by
    rw [List.map_cons, List.pairwise_cons] at hp
    have hx : l[k]? = some p := by simpa using h
    have hlt := hp.1 p.1 (List.mem_map_of_mem (List.mem_of_getElem? hx))
    rw [List.find?_cons, decide_eq_false (by omega)]
    exact find_ars hp.2 hx
theorem look_ars {w : World} {gm nn k : Nat} {l : List (Int × Value)} {p : Int × Value} (hM : w.ownsMap Try.prog 3 RH gm nn (arsD l)) (hp : (l.map (·.1)).Pairwise (· < ·)) (hx : l[k]? = some p) (ht : 0 ≤ p.1 ∧ p.1 ≤ 11) :
    (Instr.lookup 76 (.map (some gm)) (.int .i64 p.1) false).run Try.prog w = .ok p.2 w := by
  obtain ⟨v, ps, hrun, hv⟩ := hM.lookup intK Try.underlying76 (z := .slice none 0 0) (zd := .held (.slice none 0 0)) (zp := []) (by kernel_rfl) rfl (int_key ht)
  rw [at_ars, find_ars hp hx] at hv
  have : v = p.2 ∧ ps = [] := by
    unfold RH at hv
    simpa using hv
  rw [← this.1]
  exact hrun
/-- where quarantineOf stands: the result's box, the quarantine's, its areas, the map, the keys -/
def QoSt (w : World) (A : Option Addr) (n c gm nn : Nat) (l : List (Int × Value)) (K C : Option Addr) (k d : Nat) (wr : World) : Prop :=
  Blk wr w.heap.size 26 [.slice none 0 0, .slice none 0 0] ∧ Blk wr (w.heap.size + 1) 26 [.slice A n c, .slice C k d] ∧
  wr.ownsRow (w.heap.size + 2) 70 2 (.slice C k d) k ((l.take k).map arC).flatten ∧ wr.ownsMap Try.prog 3 RH gm nn (arsD l) ∧ LinkIn wr (w.heap.size + 3) K l.length (l.map (·.1)) ∧ Below w.heap.size w wr
section
variable {w wr w9 : World} {A K C C9 : Option Addr} {n c gm nn k d d9 : Nat} {l : List (Int × Value)} {p : Int × Value}
theorem QoSt.next {wx : World} (h : QoSt w A n c gm nn l K C k d wr) (hb : Below wr.heap.size wr wx) : QoSt w A n c gm nn l K C k d wx := by
  obtain ⟨h1, h2, h3, h4, h5, h6⟩ := h
  exact ⟨h1.next hb, h2.next hb, own_below h3 hb, h4.kept (row := none) ⟨hb.os, hb.tape, hb.output, hb.size, fun i hi _ => hb.block i hi⟩ (by simp), h5.next hb, below_ext h6 hb⟩
theorem QoSt.add (hgm : gm < w.heap.size) (h : QoSt w A n c gm nn l K C k d wr) (hx : l[k]? = some p) (hg9 : wr.grownBy w9 (Value.slice C k d).ownBlock) (hb9 : Below (w.heap.size + 2) wr w9)
    (hown9 : w9.ownsRow (w.heap.size + 2) 70 2 (.slice C9 (k + 1) d9) (k + 1) (((l.take k).map arC).flatten ++ [.int .i64 p.1, p.2])) :
    QoSt w A n c gm nn l K C9 (k + 1) d9 (w9.setCell ⟨w.heap.size + 1, 1, none⟩ (.slice C9 (k + 1) d9)) := by
  obtain ⟨h1, h2, h3, h4, h5, h6⟩ := h
  have hB := h2.grown hg9 (fun e => own_ne_blk h3 h2 (by decide) e.symm)
  have hR := h1.grown hg9 (fun e => own_ne_blk h3 h1 (by decide) e.symm)
  have hC : ∀ g, (Value.slice C k d).ownBlock = some g → w.heap.size + 2 ≤ g ∧ ∃ cs, Blk wr g 70 cs := fun g e => by
    rcases h3.2 with ⟨h0, _⟩ | ⟨g1, cap, cur, hv, hb, hh, _⟩
    · rw [h0] at e; cases e
    · rw [hv] at e
      have : g1 = g := by simpa [Value.ownBlock] using e
      subst this
      exact ⟨hb, cur.toList, by unfold Blk; simpa using hh⟩
  have hM := h4.kept hg9 (fun e => by have := (hC gm e.symm).1; omega)
  have hK := h5.grown hg9 (fun g e => Or.inr (by
    obtain ⟨_, cs, hb⟩ := hC g e
    exact ⟨_, _, _, hb, by decide⟩))
  have hT : ((l.take (k + 1)).map arC).flatten = ((l.take k).map arC).flatten ++ [.int .i64 p.1, p.2] := by
    obtain ⟨q1, q2⟩ := List.getElem?_eq_some_iff.1 hx
    rw [List.take_succ_eq_append_getElem q1, List.map_append, List.flatten_append, q2]
    rfl
  have hgs := grownSetQ w9 (w.heap.size + 1) 1 (.slice C9 (k + 1) d9)
  refine ⟨hR.far (p := ⟨w.heap.size + 1, 1, none⟩) (by dsimp only; omega) _, ?_, ?_, hM.setCell (a := ⟨w.heap.size + 1, 1, none⟩) (by dsimp only; omega) _, hK.grown hgs (fun g e => Or.inl (by injection e with e; omega)), below_store (h6.trans (hb9.mono (by omega))) (Nat.le_succ _) _⟩
  · have := hB.set_ 1 (.slice C9 (k + 1) d9)
    simpa only [List.set_cons_zero, List.set_cons_succ] using this
  · rw [hT]
    exact own_grown hown9 hgs (by omega)
end
set_option maxRecDepth 100000 in
set_option maxHeartbeats 3200000 in
theorem quarantineOf_any (A : Option Addr) (n c gm nn : Nat) (l : List (Int × Value)) (w : World) (hown : w.ownsMap Try.prog 3 RH gm nn (arsD l)) (hl : l.length ≤ 100) (hp : (l.map (·.1)).Pairwise (· < ·)) (ht : ∀ p ∈ l, 0 ≤ p.1 ∧ p.1 ≤ 11) (hv : ∀ p ∈ l, ∃ A n c, p.2 = .slice A n c) :
    Calls Try.prog 67 #[.slice A n c, .map (some gm)] w fun e w' => ∃ C d, e = .returned (.agg #[.slice A n c, .slice C l.length d]) ∧
      w'.ownsRow w.heap.size 70 2 (.slice C l.length d) l.length (l.map arC).flatten ∧ Below w.heap.size w w' := by
  have hgm := hown.lt
  have b0 := below_box2 w (.cells #[.slice none 0 0, .slice none 0 0] 26) (.cells #[.slice A n c, .slice none 0 0] 26)
  have x0 := (Blk.new w 26 [.slice none 0 0, .slice none 0 0]).alloc (.cells #[.slice A n c, .slice none 0 0] 26)
  have x1 := Blk.new (w.alloc (.cells #[.slice none 0 0, .slice none 0 0] 26)) 26 [.slice A n c, .slice none 0 0]
  have hM1 := (hown.alloc (.cells #[.slice none 0 0, .slice none 0 0] 26)).alloc (.cells #[.slice A n c, .slice none 0 0] 26)
  have hz1 : ((w.alloc (.cells #[.slice none 0 0, .slice none 0 0] 26)).alloc (.cells #[.slice A n c, .slice none 0 0] 26)).heap.size = w.heap.size + 2 := by simp
  have hz0 : (w.alloc (.cells #[.slice none 0 0, .slice none 0 0] 26)).heap.size = w.heap.size + 1 := by simp
  rw [hz0] at x1
  go_enter Try.func67, Try.ntmps67
  go_wp2_with fail
  refine (keysOf_any (some gm) _).mono ?_
  rintro e w2 ⟨rfl, rfl⟩
  go_wp2_with fail
  have cS := sortedKeys_any gm nn l _ hM1 hl hp
  rw [hz1] at cS
  refine cS.mono ?_
  rintro e w3 ⟨v, rfl, hrow, hb3⟩
  obtain ⟨K, kc, rfl, hkc⟩ := own_form hrow
  have hz2 : (((w.alloc (.cells #[.slice none 0 0, .slice none 0 0] 26)).alloc (.cells #[.slice A n c, .slice none 0 0] 26)).alloc (.cells #[.map (some gm)] 76)).heap.size = w.heap.size + 2 + 1 := by simp
  rw [← hz2] at hb3
  have hS : QoSt w A n c gm nn l K none 0 0 w3 := ⟨(x0.alloc _).next hb3, (x1.alloc _).next hb3, ⟨by simp, .inl ⟨rfl, rfl⟩⟩, (hM1.alloc _).kept (row := none) ⟨hb3.os, hb3.tape, hb3.output, hb3.size, fun i hi _ => hb3.block i hi⟩ (by simp), LinkIn.of_own hrow, below_ext (b0.alloc b0.size _) hb3⟩
  clear hb3 hrow hM1 x0 x1 b0 hz0 hz1 hz2 cS hown
  have HP := Lib.hid hp
  clear hp
  go_wp2_with fail
  go_loopw [14] (fun i wr => ∃ k C d, k ≤ l.length ∧ i = .int .i64 (k : Int) ∧ QoSt w A n c gm nn l K C k d wr) (fun i _ => l.length - (intOf i).toNat)
  case atStart => exact ⟨0, none, 0, Nat.zero_le _, rfl, hS⟩
  case round =>
    obtain ⟨k, C, d, hk, rfl, hSk⟩ := hrel
    by_cases hlt : k < l.length
    · obtain ⟨p, hx⟩ : ∃ p, l[k]? = some p := ⟨_, List.getElem?_eq_getElem hlt⟩
      have HX := Lib.hid hx
      have hm := List.mem_of_getElem? hx
      have htp := ht p hm
      obtain ⟨PA, pn, pc, hpv⟩ := hv p hm
      obtain ⟨h1, h2, h3, h4, h5, h6⟩ := id hSk
      have hlook := look_ars h4 HP.out hx htp
      have hki : (k : Int) < (l.length : Int) := by omega
      obtain ⟨ad, e, hlt2, hc⟩ := h5.1.2 (by omega)
      obtain ⟨-, e2, -⟩ := h5.2 ad e
      subst e
      have hc0 := hc k p.1 (by rw [List.getElem?_map, hx]; rfl)
      obtain ⟨q0, q1⟩ := h2.cells2
      have fz1 := h2.frozen 1
      rw [e2] at hc0 hlt2
      generalize ad.block = gk at *
      subst e2
      rw [add_flat, Nat.zero_add] at hc0
      have HK9 := Lib.hid hk
      clear hc h1 h2 h5 h6 hx hm
      have E1 : Below wr.heap.size wr (wr.alloc (.cells #[.int .i64 p.1, .slice PA pn pc] 70)) := below_box wr _
      have E2 := Blk.new wr 70 [.int .i64 p.1, .slice PA pn pc]
      have hSa := hSk.next E1
      have E3 := hSa.2.2.1
      have E4 := (hSk.2.2.2.2.2).size
      have E5 := (hSk.2.1).lt
      have E6 : ∀ (j : Nat) (u : Value), [Value.int .i64 p.1, .slice PA pn pc][j]? = some u → (wr.alloc (.cells #[.int .i64 p.1, .slice PA pn pc] 70)).cell? ((⟨wr.heap.size, 0, none⟩ : Addr).add j) = some u := fun j u hu => by
        have := E2.cell j
        rw [hu] at this
        rw [add_flat, Nat.zero_add]
        exact this
      have E7 : ∀ u ∈ [Value.int .i64 p.1, .slice PA pn pc], u.oneCell' = true := fun u hu => by
        simp only [List.mem_cons, List.not_mem_nil, or_false] at hu
        rcases hu with rfl | rfl <;> rfl
      have E8 : w.heap.size + 2 ≤ (wr.alloc (.cells #[.int .i64 p.1, .slice PA pn pc] 70)).heap.size := by simp only [World.alloc, Array.size_push]; omega
      go_wp2_with (at_builtin; go_loud (refine wpList_app rfl (.tmp 19) (.tmp 25) 24 rfl (w.heap.size + 2) 70 Try.underlying24 ar_info1 rfl (by omega) (by omega) _ k _ rfl E3 _ 1 1 _ rfl rfl E6 E7 (by omega) E8 ?_; intro A9 c9 w9 hown9 hc9 hb9 hg9 _; have E9 := hSa.2.1.grown hg9 (fun e => own_ne_blk hSa.2.2.1 hSa.2.1 (by decide) e.symm); obtain ⟨s0, s1⟩ := E9.cells2; have fz9 := E9.frozen 1))
      go_roundw
      case rel => exact ⟨k + 1, A9, c9, by omega, by go_num, hSa.add hgm HX.out hg9 hb9 (by rw [hpv]; exact hown9)⟩
      case measure => simp [intOf]; omega
    · obtain rfl : k = l.length := by omega
      obtain ⟨h1, h2, h3, -, -, h6⟩ := hSk
      obtain ⟨q0, q1⟩ := h2.cells2
      have f0 := h1.frozen 0
      have f1 := h1.frozen 1
      have hRR := (h1.set_ 0 (.slice A n c)).set_ 1 (.slice C l.length d)
      simp only [List.set_cons_zero, List.set_cons_succ] at hRR
      obtain ⟨t0, t1⟩ := hRR.cells2
      rw [List.take_of_length_le (Nat.le_refl _)] at h3
      obtain ⟨z0, z1⟩ := h1.cells2
      go_wp2_with fail
      refine bodyPost_ret (v := .agg #[.slice A n c, .slice C l.length d]) (by simp [results, Try.results67, go_sem, t0, t1]) rfl ?_
      refine ⟨C, d, rfl, ?_, (h6.setCell (p := ⟨w.heap.size, 0, none⟩) (Nat.le_refl _) _).setCell (p := ⟨w.heap.size, 1, none⟩) (Nat.le_refl _) _⟩
      exact own_base (own_grown (own_grown h3 (grownSetQ _ _ _ _) (by omega)) (grownSetQ _ _ _ _) (by omega)) (by omega)
end Go.Proofs.Ytjofgbbofagoiaa
