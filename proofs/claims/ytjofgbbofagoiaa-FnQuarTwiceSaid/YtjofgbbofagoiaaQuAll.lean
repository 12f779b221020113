/- Walk: l13All: storing objects one after the other. -/
import Derived.Test.YtjofgbbofagoiaaQuOwn
namespace Go.Proofs.Ytjofgbbofagoiaa
open Go.RowKit Go.Sort

def allO : List Ob → List Ob → List Ob × Bool
  | out, [] => (out, true)
  | out, o :: l => if (putO out o).2 then allO (putO out o).1 l else ([], false)
theorem putO_max {os : List Ob} {o : Ob} {M : Nat} (h : os.length ≤ M) (hM : 16 ≤ M) : (putO os o).1.length ≤ M := by
  have h1 : ¬ 16 ≤ os.length → (os.take (posO os o.id) ++ [o] ++ os.drop (posO os o.id)).length ≤ M := by
    intro hl
    simp only [List.length_append, List.length_take, List.length_drop, List.length_singleton]; omega
  unfold putO
  split
  · split
    · exact h
    · split
      · exact h
      · exact h1 (by assumption)
  · split
    · exact h
    · exact h1 (by assumption)
theorem allO_step {out : List Ob} {ls : List Ob} {k : Nat} {o : Ob} (h : ls[k]? = some o) : allO out (ls.drop k) = if (putO out o).2 then allO (putO out o).1 (ls.drop (k + 1)) else ([], false) := by
  obtain ⟨h1, h2⟩ := List.getElem?_eq_some_iff.1 h
  rw [List.drop_eq_getElem_cons h1, h2]
  rfl
theorem ok_small {os : List Ob} (h : ∀ o ∈ os, o.ok = true) : smallOs os := fun o ho => by
  have := (ObjOk.of (h o ho)).len
  omega
theorem allO_facts : ∀ (ls out : List Ob), (∀ o ∈ out, o.ok = true) → (∀ o ∈ ls, o.ok = true) → out.length ≤ 100 → (∀ o ∈ (allO out ls).1, o.ok = true) ∧ (allO out ls).1.length ≤ 100
  | [], out, h, _, hl => ⟨h, hl⟩
  | o :: l, out, h, h2, hl => by
    unfold allO
    split
    · exact allO_facts l _ (putO_ok h (h2 o (by simp))) (fun x hx => h2 x (List.mem_cons_of_mem _ hx)) (putO_max hl (by omega))
    · exact ⟨fun o h => by simp at h, by simp⟩
set_option maxRecDepth 100000 in
set_option maxHeartbeats 3200000 in
theorem l13All_any (A : Option Addr) (n c : Nat) (os : List Ob) (B : Option Addr) (m d : Nat) (ls : List Ob) (w : World) (h : RObjs w A n os) (hn : n ≤ 100) (hos : ∀ x ∈ os, x.ok = true) (hl : RObjs w B m ls) (hm : m ≤ 1000) (hls : ∀ x ∈ ls, x.ok = true) :
    Calls Try.prog 68 #[.slice A n c, .slice B m d] w fun e w' => ∃ v, e = .returned (.tuple #[v, .bool (allO os ls).2]) ∧ OwnO w' w.heap.size v (allO os ls).1.length (allO os ls).1 ∧ Below w.heap.size w w' := by
  have hlen := h.1
  have hlm := hl.1
  have HN := Lib.hid (And.intro hlen hlm)
  clear hlen hlm
  go_enter Try.func68, Try.ntmps68
  go_wp2_with fail
  refine (l1Copy_any A n c os _ h (by omega) (ok_small hos)).mono ?_
  rintro e w1 ⟨v, rfl, hO1, hb1⟩
  go_wp2_with fail
  go_loopw [6, 7] (fun s i wr => ∃ (k j : Nat) (v : Value) (out : List Ob), k ≤ m ∧ i = .int .i64 k ∧ s = v ∧ j ≤ 100 ∧ OwnO wr w.heap.size v j out ∧ (∀ x ∈ out, x.ok = true) ∧ Hid (allO out (ls.drop k) = allO os ls) ∧ Below w.heap.size w wr) (fun _ i _ => m - (intOf i).toNat)
  case atStart => exact ⟨0, n, v, os, Nat.zero_le _, rfl, rfl, hn, hO1, hos, Lib.hid rfl, hb1⟩
  case round =>
    obtain ⟨k, j, v, out, hk, rfl, rfl, hj, hO, hok, HA, hbr⟩ := hrel
    obtain ⟨A2, c2, rfl, hjc⟩ := hO.form
    by_cases hlt : k < m
    · obtain ⟨b, off, o, rfl, hb, hx, hob⟩ := (hl.next hbr).at_ hlt
      obtain ⟨L, ml, dl, c0, c1, c2', hri, hml, ht⟩ := hob
      have hoo := hls o (List.mem_of_getElem? hx)
      have HS := Lib.hid (allO_step (out := out) hx)
      have hjl : out.length = j := OwnR.len hO
      have hmx := putO_max (o := o) (M := 100) (by omega : out.length ≤ 100) (by omega)
      have hok2 := putO_ok hok hoo
      have HJ := Lib.hid hjl
      clear hx hjl
      go_wp2_with fail
      refine (l1Put_any A2 j c2 out o L ml dl _ hO.reads (by omega) hjc hok hri hoo).mono ?_
      rintro e w2 ⟨v2, rfl, hO2, hb2⟩
      generalize hP : putO out o = P at *
      have HP := Lib.hid hP
      clear hP
      obtain ⟨out2, b2⟩ := P
      simp only at hO2 hok2 hmx
      generalize hM : out2.length = j2 at *
      have HM := Lib.hid hM
      clear hM
      obtain ⟨A3, c3, rfl, hjc3⟩ := hO2.form
      have hO2b := hO2.base hbr.size
      have hbn := below_ext hbr hb2
      cases b2
      · have HE := Lib.hid (show allO os ls = ([], false) by rw [← HA.out, HS.out]; rfl)
        have ee := below_box w2 (.cells #[] 33)
        have oe : OwnO (w2.alloc (.cells #[] 33)) w.heap.size (.slice (some ⟨w2.heap.size, 0, none⟩) 0 0) 0 [] := ⟨[], own_emp (Blk.new w2 33 []) hbn.size, Elems.nil⟩
        go_wp2_with fail
        refine bodyPost_ret (v := .tuple #[.slice (some ⟨w2.heap.size, 0, none⟩) 0 0, .bool false]) (by simp [results, Try.results68, go_sem]) rfl ?_
        rw [HE.out]
        exact ⟨_, rfl, oe, below_ext hbn ee⟩
      · have HE := Lib.hid (show allO out2 (ls.drop (k + 1)) = allO os ls by rw [← HA.out, HS.out]; rfl)
        go_wp2_with fail
        go_roundw
        case rel => exact ⟨k + 1, j2, _, out2, by omega, by go_num, rfl, hmx, hO2b, hok2, HE, hbn⟩
        case measure => simp [intOf]; omega
    · obtain rfl : k = m := by omega
      have HE := Lib.hid (show allO os ls = (out, true) by
        have h9 := HA.out
        rw [List.drop_of_length_le (by have := HN.out.2; omega)] at h9
        rw [← h9]; rfl)
      have hjl : out.length = j := OwnR.len hO
      have HJ := Lib.hid hjl
      clear hjl
      go_wp2_with fail
      refine bodyPost_ret (v := .tuple #[.slice A2 j c2, .bool true]) (by simp [results, Try.results68, go_sem]) rfl ?_
      rw [HE.out]
      exact ⟨_, rfl, by rw [HJ.out]; exact hO, hbr⟩
end Go.Proofs.Ytjofgbbofagoiaa
