/- Walk: the reference's QuarantineMissing. -/
import Derived.Test.YtjofgbbofagoiaaQuPut
import Derived.Test.YtjofgbbofagoiaaRchT
namespace Go.Proofs.Ytjofgbbofagoiaa
open Go.RowKit Go.Sort

def allQ (q : Qu) (t : Int) : List Ob := q.main ++ areaQ q t
/-- the ids that are reached, but are neither in the store nor in the area -/
def IsQM (q : Qu) (t : Int) (fs L : List Int) : Prop := if (quarB q && (txnB t && idsOkB fs)) = true then AscMem L (fun x => Rch (allQ q t) fs x ∧ isSt (allQ q t) x = false) else L = []
theorem IsQM.uniq {q : Qu} {t : Int} {fs L M : List Int} (h : IsQM q t fs L) (k : IsQM q t fs M) : L = M := by
  unfold IsQM at h k
  split at h
  · rename_i hv
    rw [if_pos hv] at k
    exact h.uniq k
  · rename_i hv
    rw [if_neg hv] at k
    rw [h, k]
def QMTo (w : World) (q : Qu) (t : Int) (fs : List Int) (e : Ending) (w' : World) : Prop := ∃ B d L, e = .returned (.slice B L.length d) ∧ IsQM q t fs L ∧ w'.ownsRow w.heap.size 3 1 (.slice B L.length d) L.length (ints L) ∧ Below w.heap.size w w'
theorem areaQ_facts {q : Qu} (hq : quarB q = true) (t : Int) : storeB (areaQ q t) = true := by
  unfold areaQ
  split
  · split
    · rename_i k _ a hk
      exact ((quarB_parts hq).2.1 a (List.mem_of_getElem? hk)).2.1
    · rfl
  · rfl
theorem allQ_ok {q : Qu} (hq : quarB q = true) (t : Int) : ∀ o ∈ allQ q t, o.ok = true := fun o ho => by
  rcases List.mem_append.1 ho with h | h
  · exact (storeB_all (quarB_parts hq).1).1 o h
  · exact (storeB_all (areaQ_facts hq t)).1 o h
set_option maxRecDepth 100000 in
set_option maxHeartbeats 1600000 in
theorem specQuarantineMissing_any (cs : List Value) (q : Qu) (t : Int) (F : Option Addr) (m d : Nat) (fs : List Int) (w : World) (hv : repQu.V 0 w cs q) (hf : RInts w F m fs) (hm : m ≤ maxLen) :
    Calls Try.prog 12 #[.agg cs.toArray, .int .i64 t, .slice F m d] w (QMTo w q t fs) := by
  obtain ⟨B0, m0, d0, B1, m1, d1, rfl, hr0, hm0, hr1, hm1⟩ := repQu_cells hv
  have b0 := below_box w (.cells #[.slice B0 m0 d0, .slice B1 m1 d1] 26)
  have x0 := Blk.new w 26 [.slice B0 m0 d0, .slice B1 m1 d1]
  obtain ⟨y0, y1⟩ := x0.cells2
  have HL := Lib.hid (And.intro hf.1 (And.intro hr0.1 hr1.1))
  have fin0 : ∀ w', Below w.heap.size w w' → (quarB q && (txnB t && idsOkB fs)) = false → QMTo w q t fs (.returned (.slice (some ⟨w'.heap.size, 0, none⟩) 0 0)) (w'.alloc (.cells #[] 3)) := fun w' hb hn =>
    ⟨_, 0, [], rfl, by unfold IsQM; rw [hn, if_neg (by simp)], own_emp (Blk.new w' 3 []) hb.size, below_ext hb (below_box _ _)⟩
  have F0 := Lib.hid fin0
  clear fin0
  go_enter Try.func12, Try.ntmps12
  go_wp2_with fail
  refine (specQuarantineValid_any _ q _ (repQu.next hv b0)).mono ?_
  rintro e w1 ⟨rfl, hb1⟩
  have bb1 := below_ext b0 hb1
  cases hq : quarB q
  · go_wp2_with fail
    go_ret
    exact F0.out _ bb1 (by rw [hq]; rfl)
  · go_wp2_with fail
    refine (l12Txn_any t w1).mono ?_
    rintro e w2 ⟨rfl, rfl⟩
    cases ht : txnB t
    · go_wp2_with fail
      go_ret
      exact F0.out _ bb1 (by rw [ht]; cases quarB q <;> rfl)
    · go_wp2_with fail
      refine (l1Ids_any F m d fs w1 (hf.below bb1 (Nat.le_refl _)) hm).mono ?_
      rintro e w3 ⟨rfl, hb3⟩
      have bb3 := below_ext bb1 hb3
      have x3 := (x0.next hb1).next hb3
      obtain ⟨z0, z1⟩ := x3.cells2
      clear y0 y1 hb1 hb3
      cases hi : ascB fs
      · go_wp2_with fail
        go_ret
        exact F0.out _ bb3 (by unfold idsOkB; rw [hi]; cases quarB q <;> cases txnB t <;> rfl)
      · by_cases hm4 : 4 < m
        · have hgt : decide ((m : Int) > 4) = true := decide_eq_true (by omega)
          have hgt2 : decide (4 < (m : Int)) = true := decide_eq_true (by omega)
          go_wp2_with fail
          go_ret
          exact F0.out _ bb3 (by unfold idsOkB; rw [hi, HL.out.1, decide_eq_false (by omega)]; cases quarB q <;> cases txnB t <;> rfl)
        · have hgt : decide ((m : Int) > 4) = false := decide_eq_false (by omega)
          have hgt2 : decide (4 < (m : Int)) = false := decide_eq_false (by omega)
          have hids : idsOkB fs = true := by unfold idsOkB; rw [hi, HL.out.1, decide_eq_true (by omega)]; rfl
          have HV := Lib.hid (show (quarB q && (txnB t && idsOkB fs)) = true by rw [hq, ht, hids]; rfl)
          obtain ⟨hfn, hfr, -, -⟩ := idsOk_facts hids
          have hn0 : m0 ≤ 16 := by have := (storeB_all (quarB_parts hq).1).2; have := HL.out.2.1; omega
          have hn1 : m1 ≤ 4 := by have := (quarB_parts hq).2.2; have := HL.out.2.2; omega
          have E1 := Blk.new w3 33 []
          have b4 := below_box w3 (.cells #[] 33)
          have bb4 := below_ext bb3 b4
          have hr3 := (hr0.next bb3).robjs
          have hq3 := repQu.next hv bb3
          have x4 := x3.next b4
          obtain ⟨u0, u1⟩ := x4.cells2
          obtain ⟨cc, hc1, hc2, hc3, hc4⟩ := hr3.cellsA
          clear z0 z1
          go_wp2_with (at_builtin; go_loud (refine wpList_appS rfl (.tmp 28) (.tmp 30) 23 rfl w3.heap.size 33 Try.underlying23 obj_info1 rfl (by omega) (by omega) _ 0 [] rfl (own_emp E1 (Nat.le_refl _)) _ m0 d0 cc rfl hc1 (fun hn => by obtain ⟨ad', e, hlt, hc⟩ := hc2 hn; exact ⟨ad', e, fun j u hu => (b4.cell (p := ad'.add j) (by rw [block_of_add]; exact hlt)).trans (hc j u hu)⟩) hc4 m0 (by omega) (by omega) b4.size ?_; intro A5 c5 w5 hown5 _ hb5 hg5; have x5 := x4.below hb5 x3.lt; obtain ⟨v0, v1⟩ := x5.cells2))
          have b35 : Below w3.heap.size w3 w5 := b4.trans hb5
          have bb5 := below_ext bb3 b35
          have hO5 : w5.ownsRow w3.heap.size 33 3 (.slice A5 m0 c5) m0 cc := by simpa using hown5
          have hq5 := repQu.next hv bb5
          clear u0 u1 x4 hc1 hc2 hc4 hown5
          go_wp2_with fail
          refine (l13Find_any _ q t w5 hq5).mono ?_
          rintro e w6 ⟨rfl, hb6⟩
          have b36 := below_ext b35 hb6
          have bb6 := below_ext bb3 b36
          have x6 := x5.next hb6
          obtain ⟨u0, u1⟩ := x6.cells2
          have hO6 := own_below hO5 hb6
          have hf6 := hf.below bb6 (Nat.le_refl _)
          clear v0 v1 hO5 hb6 b35 bb5
          cases hk : findA q.ars t with
          | none =>
            have hall : allQ q t = q.main := by unfold allQ areaQ; rw [hk]; simp
            have hr6 : RObjs w6 A5 m0 q.main := OwnR.reads (R := RInts w3) ⟨cc, hO6, hc3⟩ fun A m xs hx => hx.below b36 (Nat.le_refl _)
            have HA := Lib.hid hall
            have hneg : decide (idxA none ≥ 0) = false := by rfl
            go_wp2_with fail
            refine (l1Missing_any A5 m0 c5 q.main F m d fs w6 hr6 (by omega) (storeB_all (quarB_parts hq).1).1 hf6 (by omega) hfn hfr).mono ?_
            rintro e w7 ⟨B, d', L, rfl, hA7, hown7, hb7⟩
            go_wp2_with fail
            go_ret
            exact ⟨B, d', L, rfl, by unfold IsQM; rw [HV.out, if_pos rfl, HA.out]; exact hA7, own_base hown7 bb6.size, below_ext bb6 hb7⟩
          | some k =>
            obtain ⟨a, hka, hat⟩ := findA_lt hk
            have hall : allQ q t = q.main ++ a.os := by unfold allQ areaQ; rw [hk]; simp only [hka]
            have HA := Lib.hid hall
            have hkm : k < m1 := by have := (List.getElem?_eq_some_iff.1 hka).1; have := HL.out.2.2; omega
            obtain ⟨_, _, _, _, _, _, e9, -, -, hr13, -⟩ := repQu_cells hq3
            simp only [List.cons.injEq, Value.slice.injEq, and_true] at e9
            obtain ⟨⟨rfl, rfl, rfl⟩, rfl, rfl, rfl⟩ := e9
            obtain ⟨b, off, a', ca, rfl, hb, hka', hcc, hva⟩ := hr13.at_ hkm
            rw [hka] at hka'
            injection hka' with hka'
            subst hka'
            obtain ⟨D1, n1, f1, rfl, hro, hno⟩ := repAr_cells hva
            have a1 : w6.cell? ⟨b, off + k * 2 + 1, none⟩ = some (.slice D1 n1 f1) := (b36.cell (p := ⟨b, off + k * 2 + 1, none⟩) hb).trans (hcc 1 _ rfl)
            have hbs : b < w6.heap.size := Nat.lt_of_lt_of_le hb b36.size
            have hst : storeB a.os = true := ((quarB_parts hq).2.1 a (List.mem_of_getElem? hka)).2.1
            have hn1' : n1 ≤ 16 := by have h1 := (storeB_all hst).2; have h2 := hro.1; omega
            obtain ⟨ce, he1, he2, he3, he4⟩ := hro.robjs.cellsA
            have hki : (k : Int) < (m1 : Int) := by omega
            have hk0 : (0 : Int) ≤ (k : Int) := by omega
            have hidx : idxA (some k) = (k : Int) := rfl
            have hpos : decide ((k : Int) ≥ 0) = true := decide_eq_true hk0
            have hz36 := b36.size
            clear hcc hva hka hk
            rw [hidx]
            go_wp2_with (at_builtin; go_loud (refine wpList_appS rfl (.tmp 37) (.tmp 43) 23 rfl w3.heap.size 33 Try.underlying23 obj_info1 rfl (by omega) (by omega) _ m0 cc rfl hO6 _ n1 f1 ce rfl he1 (fun hn => by obtain ⟨ad', e, hlt, hc⟩ := he2 hn; exact ⟨ad', e, fun j u hu => (b36.cell (p := ad'.add j) (by rw [block_of_add]; exact hlt)).trans (hc j u hu)⟩) he4 (m0 + n1) rfl (by omega) hz36 ?_; intro A7 c7 w7 hown7 _ hb7 hg7))
            have b37 : Below w3.heap.size w3 w7 := b36.trans hb7
            have bb7 := below_ext bb3 b37
            have hr7 : RObjs w7 A7 (m0 + n1) (q.main ++ a.os) := OwnR.reads (R := RInts w3) ⟨_, hown7, hc3.append he3⟩ fun A m xs hx => hx.below b37 (Nat.le_refl _)
            have hf7 := hf.below bb7 (Nat.le_refl _)
            have hok := allQ_ok hq t
            rw [hall] at hok
            clear hall a1
            go_wp2_with fail
            refine (l1Missing_any A7 (m0 + n1) c7 (q.main ++ a.os) F m d fs w7 hr7 (by omega) hok hf7 (by omega) hfn hfr).mono ?_
            rintro e w8 ⟨B, d', L, rfl, hA8, hown8, hb8⟩
            go_wp2_with fail
            go_ret
            exact ⟨B, d', L, rfl, by unfold IsQM; rw [HV.out, if_pos rfl, HA.out]; exact hA8, own_base hown8 bb7.size, below_ext bb7 hb8⟩
end Go.Proofs.Ytjofgbbofagoiaa
