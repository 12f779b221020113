/- Walk: DrawQuarantineValid. Plain: parts of lists of areas. -/
import Derived.Test.YtjofgbbofagoiaaQuDraw1
import Derived.Test.YtjofgbbofagoiaaAppS
namespace Go.Proofs.Ytjofgbbofagoiaa
open Go.RowKit Go.Sort

theorem rbytes_next {w w' : World} {A : Option Addr} {n : Nat} (h : RBytes w w.heap.size A n) (hb : Below w.heap.size w w') : RBytes w' w'.heap.size A n := fun hn => by
  obtain ⟨ad, e, hlt, hcs⟩ := h hn
  exact ⟨ad, e, Nat.lt_of_lt_of_le hlt hb.size, fun j hj => by
    obtain ⟨b, h0, h1, h2⟩ := hcs j hj
    exact ⟨b, h0, h1, by rw [World.cell?_of_block (hb.block _ (by rw [block_of_add]; exact hlt))]; exact h2⟩⟩
def DrewQu (w : World) (e : Ending) (w' : World) : Prop := ∃ cs q, e = .returned (.agg cs.toArray) ∧ OwnQ w' w.heap.size cs q ∧ tinyQ q ∧ Below w.heap.size w w'
set_option maxHeartbeats 1600000 in
theorem DrawQuarantineValid_any (A : Option Addr) (n c : Nat) (w : World) (h : RBytes w w.heap.size A n) (hn : n ≤ maxLen) (hc : n ≤ c) :
    Calls Try.prog 22 #[.slice A n c] w (DrewQu w) := by
  have b0 := below_box w (.cells #[.slice none 0 0, .slice none 0 0] 26)
  have x0 := Blk.new w 26 [.slice none 0 0, .slice none 0 0]
  go_enter Try.func22, Try.ntmps22
  go_wp2_with fail
  refine (l6Open_any _ _ _ _ (rbytes_next h b0) hn hc).mono ?_
  rintro e w1 ⟨rfl, hrd, hb1⟩
  have hrd1 : Rd w1 (w.heap.size + 1) 0 := by simpa using hrd
  have x01 := x0.next hb1
  have bb1 := below_ext b0 hb1
  rw [show (w.alloc (.cells #[.slice none 0 0, .slice none 0 0] 26)).heap.size = w.heap.size + 1 by simp]
  go_wp2_with fail
  refine (l92Quarantine_any (w.heap.size + 1) 0 _ hrd1 (by omega)).mono ?_
  rintro e w2 ⟨_, q2, rfl, ⟨cs, q, rfl, hQ, hT⟩, -, -, hg2⟩
  have x02 := x01.grown hg2 (fun e => by injection e with e; omega)
  have hz := bb1.size
  obtain ⟨RA, rn, rc, RC, rm, rd, rfl, hqa, hqb⟩ := id hQ
  clear hqa hqb
  obtain ⟨r0, r1⟩ := x02.cells2
  have fr0 := x02.frozen 0
  have fr1 := x02.frozen 1
  have hRR := (x02.set_ 0 (.slice RA rn rc)).set_ 1 (.slice RC rm rd)
  simp only [List.set_cons_zero, List.set_cons_succ] at hRR
  obtain ⟨t0, t1⟩ := hRR.cells2
  have bb2 : Below w.heap.size w w2 := below_grown bb1 hg2 (Nat.le_succ _) hz
  go_wp2_with fail
  refine bodyPost_ret (v := .agg #[.slice RA rn rc, .slice RC rm rd]) (by simp [results, Try.results22, go_sem, t0, t1]) rfl ?_
  exact ⟨_, q, rfl, (hQ.base hz).res x02, hT, (bb2.setCell (p := ⟨w.heap.size, 0, none⟩) (Nat.le_refl _) _).setCell (p := ⟨w.heap.size, 1, none⟩) (Nat.le_refl _) _⟩
section
variable {cs ds : List Value} {ars brs : List Ar} {R : Value → List Ob → Prop}
theorem ElemsA.at2 (h : ElemsA cs ars R) : ∀ u ∈ cs, ∃ (i : Nat) (x : Ar) (v : Value), ars[i]? = some x ∧ R v x.os ∧ (u = .int .i64 x.t ∨ u = v) := fun u hu => by
  obtain ⟨j, hj⟩ := List.mem_iff_getElem?.1 hu
  have hjl := (List.getElem?_eq_some_iff.1 hj).1
  have hl := h.1
  have hi : j / 2 < ars.length := by omega
  obtain ⟨v, h0, h1, h2⟩ := h.2 (j / 2) _ (List.getElem?_eq_getElem hi)
  refine ⟨j / 2, _, v, List.getElem?_eq_getElem hi, h2, ?_⟩
  rcases Nat.mod_two_eq_zero_or_one j with hm | hm
  · rw [show j / 2 * 2 = j by omega, hj] at h0
    injection h0 with h0
    exact Or.inl h0
  · rw [show j / 2 * 2 + 1 = j by omega, hj] at h1
    injection h1 with h1
    exact Or.inr h1
theorem ElemsA.take (h : ElemsA cs ars R) (k : Nat) (hk : k ≤ ars.length) : ElemsA (cs.take (k * 2)) (ars.take k) R := by
  have hl := h.1
  refine ⟨by rw [List.length_take, List.length_take]; omega, fun i x hx => ?_⟩
  have hi : i < k := by have := (List.getElem?_eq_some_iff.1 hx).1; rw [List.length_take] at this; omega
  rw [List.getElem?_take, if_pos hi] at hx
  obtain ⟨v, h0, h1, h2⟩ := h.2 i x hx
  exact ⟨v, by rw [List.getElem?_take, if_pos (by omega)]; exact h0, by rw [List.getElem?_take, if_pos (by omega)]; exact h1, h2⟩
theorem ElemsA.drop (h : ElemsA cs ars R) (k : Nat) : ElemsA (cs.drop (k * 2)) (ars.drop k) R := by
  have hl := h.1
  refine ⟨by rw [List.length_drop, List.length_drop]; omega, fun i x hx => ?_⟩
  rw [List.getElem?_drop] at hx
  obtain ⟨v, h0, h1, h2⟩ := h.2 (k + i) x hx
  exact ⟨v, by rw [List.getElem?_drop, show k * 2 + i * 2 = (k + i) * 2 by omega]; exact h0, by rw [List.getElem?_drop, show k * 2 + (i * 2 + 1) = (k + i) * 2 + 1 by omega]; exact h1, h2⟩
theorem ElemsA.append (h : ElemsA cs ars R) (h' : ElemsA ds brs R) : ElemsA (cs ++ ds) (ars ++ brs) R := by
  have hl := h.1
  have hl' := h'.1
  refine ⟨by rw [List.length_append, List.length_append]; omega, fun i x hx => ?_⟩
  rcases Nat.lt_or_ge i ars.length with hi | hi
  · rw [List.getElem?_append_left hi] at hx
    obtain ⟨v, h0, h1, h2⟩ := h.2 i x hx
    exact ⟨v, by rw [List.getElem?_append_left (by omega)]; exact h0, by rw [List.getElem?_append_left (by omega)]; exact h1, h2⟩
  · rw [List.getElem?_append_right hi] at hx
    obtain ⟨v, h0, h1, h2⟩ := h'.2 _ x hx
    exact ⟨v, by rw [List.getElem?_append_right (by omega), show i * 2 - cs.length = (i - ars.length) * 2 by omega]; exact h0, by rw [List.getElem?_append_right (by omega), show i * 2 + 1 - cs.length = (i - ars.length) * 2 + 1 by omega]; exact h1, h2⟩
end
theorem ascA_iff : ∀ l : List Ar, ascA l = true ↔ (∀ a ∈ l, arOk a = true) ∧ l.Pairwise (fun a b => a.t < b.t)
  | [] => by simp [ascA, chainB]
  | [x] => by simp [ascA, chainB]
  | x :: y :: l => by
    have ih := ascA_iff (y :: l)
    unfold ascA at ih ⊢
    simp only [chainB, Bool.and_eq_true, decide_eq_true_eq] at ih ⊢
    constructor
    · rintro ⟨h1, h2⟩
      obtain ⟨a1, a2⟩ := ih.1 h2
      refine ⟨fun a ha => ?_, List.Pairwise.cons (fun z hz => ?_) a2⟩
      · rcases List.mem_cons.1 ha with rfl | ha
        · exact h1.1
        · exact a1 a ha
      · rcases List.mem_cons.1 hz with rfl | hz
        · exact h1.2
        · have := (List.pairwise_cons.1 a2).1 z hz
          have := h1.2
          omega
    · rintro ⟨h1, h2⟩
      exact ⟨⟨h1 x (by simp), (List.pairwise_cons.1 h2).1 y (by simp)⟩, ih.2 ⟨fun a ha => h1 a (List.mem_cons_of_mem _ ha), (List.pairwise_cons.1 h2).2⟩⟩
theorem quar_part {q : Qu} (h : quarB q = true) (k : Nat) : quarB ⟨q.main, q.ars.take k ++ q.ars.drop (k + 1)⟩ = true := by
  unfold quarB at h ⊢
  simp only [Bool.and_eq_true, decide_eq_true_eq] at h ⊢
  obtain ⟨h1, h2, h3⟩ := h
  have hs : (q.ars.take k ++ q.ars.drop (k + 1)).Sublist q.ars := by
    have h9 : (q.ars.take k ++ q.ars.drop (k + 1)).Sublist (q.ars.take k ++ q.ars.drop k) := List.Sublist.append (List.Sublist.refl _) (by
      rw [show q.ars.drop (k + 1) = (q.ars.drop k).drop 1 by rw [List.drop_drop]]
      exact List.drop_sublist _ _)
    rwa [List.take_append_drop] at h9
  obtain ⟨a1, a2⟩ := (ascA_iff _).1 h1
  exact ⟨(ascA_iff _).2 ⟨fun a ha => a1 a (hs.subset ha), a2.sublist hs⟩, h2, by have := hs.length_le; omega⟩
end Go.Proofs.Ytjofgbbofagoiaa
