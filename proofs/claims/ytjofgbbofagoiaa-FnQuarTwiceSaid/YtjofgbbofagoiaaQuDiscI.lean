/- Walk: the program's QuarantineDiscard: its result lies in memory of its own, in blocks apart. -/
import Derived.Test.YtjofgbbofagoiaaQuOf
import Derived.Test.YtjofgbbofagoiaaQuAreas2
import Derived.Test.YtjofgbbofagoiaaQuDisc
namespace Go.Proofs.Ytjofgbbofagoiaa
open Go.RowKit Go.Sort Go.Maps

def dropT (ars : List Ar) (t : Int) : List Ar := ars.filter fun a => !decide (a.t = t)
theorem setA_drop (t : Int) : ∀ ars : List Ar, setA t [] true ars = dropT ars t
  | [] => rfl
  | a :: l => by
    unfold setA dropT
    rw [List.filter_cons]
    have ih := setA_drop t l
    unfold dropT at ih
    by_cases h : a.t = t
    · simp [h, ih]
    · simp [h, ih]
theorem findA_any (ars : List Ar) (t : Int) : ars.any (fun a => decide (a.t = t)) = (findA ars t).isSome := by
  unfold findA
  induction ars with
  | nil => rfl
  | cons a l ih =>
    rw [List.any_cons, List.findIdx?_cons, ih]
    by_cases h : a.t = t
    · simp [h]
    · simp [h]
theorem dropT_none {ars : List Ar} {t : Int} (h : (findA ars t).isSome = false) : dropT ars t = ars := by
  rw [← findA_any] at h
  unfold dropT
  rw [List.filter_eq_self]
  intro a ha
  have := List.any_eq_false.1 h a ha
  simpa using this
theorem qdisc_eq {q : Qu} {t : Int} (hq : quarB q = true) (ht : txnB t = true) : qdiscQ q t = (⟨q.main, dropT q.ars t⟩, (findA q.ars t).isSome) := by
  unfold qdiscQ
  rw [hq, ht]
  simp only [Bool.and_self, if_true]
  cases h : findA q.ars t with
  | none => simp [dropT_none (ars := q.ars) (t := t) (by rw [h]; rfl)]
  | some k =>
    simp only [Option.isNone_some, Bool.false_eq_true, if_false, Option.isSome_some]
    unfold setQ
    rw [show ((([] : List Ob).length : Int) == 0) = true from rfl, setA_drop]
/-- a quarantine and a Bool; the quarantine in memory of its own, in blocks apart -/
def QSep (w : World) (r : Qu × Bool) (e : Ending) (w' : World) : Prop := ∃ cs, e = .returned (.tuple #[.agg cs.toArray, .bool r.2]) ∧ sepQu.V w.heap.size (Iv w.heap.size w'.heap.size) w' cs r.1 ∧ Below w.heap.size w w'
theorem AV.any {w : World} {g lo : Nat} {S : Nat → Prop} {l : List (Int × Value)} {ars : List Ar} (h : AV w g lo S l ars) (t : Int) : l.any (fun p => decide (p.1 = t)) = ars.any (fun a => decide (a.t = t)) := by
  have e := congrArg (fun xs => xs.any fun x => decide (x = t)) (parts_keys h)
  simpa [List.any_map, Function.comp_def] using e
theorem AV.slices {w : World} {g lo : Nat} : ∀ {l : List (Int × Value)} {ars : List Ar} {S : Nat → Prop}, AV w g lo S l ars → ∀ p ∈ l, ∃ A n c, p.2 = .slice A n c
  | [], [], _, _, _, hp => by cases hp
  | p :: l, x :: ars, S, ⟨S1, S2, _, _, _, _, h4, h5⟩, q, hq => by
    rcases List.mem_cons.1 hq with rfl | hq
    · obtain ⟨A, n, c, e, _⟩ := sepAr_cells h4
      unfold arC at e
      simp only [List.cons.injEq, and_true] at e
      exact ⟨A, n, c, e.2⟩
    · exact AV.slices (l := l) h5 q hq
  | [], _ :: _, _, h, _, _ => h.elim
  | _ :: _, [], _, h, _, _ => h.elim
theorem AV.row {w : World} {gm lo lo0 B d : Nat} {S : Nat → Prop} {C : Option Addr} {l : List (Int × Value)} {ars : List Ar} (h : AV w gm lo S l ars) (hrow : w.ownsRow B 70 2 (.slice C l.length d) l.length (l.map arC).flatten) (hS : ∀ b, S b → b < B) (h1 : lo0 ≤ lo) (h2 : lo0 ≤ B) :
    SSl 70 sepAr lo0 (fun b => S b ∨ Iv B w.heap.size b) w C l.length d ars := by
  refine ⟨h.len.symm, ?_⟩
  rcases hrow.2 with ⟨h0, h3⟩ | ⟨g, cap, cur, hv, hb, hh, _⟩
  · injection h0 with e1 e2 e3
    exact Or.inl ⟨e1, e2, e3⟩
  · injection hv with e1
    have hg : g < w.heap.size := (Array.getElem?_eq_some_iff.1 hh).1
    exact Or.inr ⟨g, l.map arC, e1, Or.inr ⟨hb, hg⟩, own_base hrow h2, ((Parts.swap h (fun hs => by have := hS g hs; omega)).down h1).widen fun b hb => Or.inl hb⟩
theorem quar_pairs {q : Qu} (h : quarB q = true) : (q.ars.map (·.t)).Pairwise (· < ·) := by
  unfold quarB at h
  simp only [Bool.and_eq_true, decide_eq_true_eq] at h
  exact List.pairwise_map.2 ((ascB_iff _).1 h.1).2
set_option maxRecDepth 100000 in
set_option maxHeartbeats 3200000 in
theorem implQuarantineDiscard_any (cs : List Value) (q : Qu) (t : Int) (w : World) (hv : repQu.V 0 w cs q) :
    Calls Try.prog 33 #[.agg cs.toArray, .int .i64 t] w (QSep w (qdiscQ q t)) := by
  obtain ⟨B0, m0, d0, B1, m1, d1, rfl, hr0, hm0, hr1, hm1⟩ := repQu_cells hv
  have b1 := below_box2 w (.cells #[.slice B0 m0 d0, .slice B1 m1 d1] 26) (.cells #[.slice none 0 0, .slice none 0 0] 26)
  have x0 : Blk ((w.alloc (.cells #[.slice B0 m0 d0, .slice B1 m1 d1] 26)).alloc (.cells #[.slice none 0 0, .slice none 0 0] 26)) w.heap.size 26 [.slice B0 m0 d0, .slice B1 m1 d1] := (Blk.new w _ _).alloc _
  have x1 : Blk ((w.alloc (.cells #[.slice B0 m0 d0, .slice B1 m1 d1] 26)).alloc (.cells #[.slice none 0 0, .slice none 0 0] 26)) (w.heap.size + 1) 26 [.slice none 0 0, .slice none 0 0] := by simpa using Blk.new (w.alloc (.cells #[.slice B0 m0 d0, .slice B1 m1 d1] 26)) 26 [.slice none 0 0, .slice none 0 0]
  obtain ⟨y0, y1⟩ := x0.cells2
  clear hr1
  go_enter Try.func33, Try.ntmps33
  go_wp2_with fail
  refine (implQuarantineValid_any _ q _ (repQu.next hv b1)).mono ?_
  rintro e w1 ⟨rfl, hb1⟩
  have bb1 := below_ext b1 hb1
  have x01 := x0.next hb1
  have x11 := x1.next hb1
  have hz1 : w.heap.size + 2 ≤ w1.heap.size := by have := hb1.size; simpa using this
  obtain ⟨z0, z1⟩ := x01.cells2
  have f10 := x11.frozen 0
  have f11 := x11.frozen 1
  obtain ⟨u0, u1⟩ := x11.cells2
  clear y0 y1 x0 x1 hb1 b1
  by_cases hqt : (quarB q && txnB t) = true
  · skip
    simp only [Bool.and_eq_true] at hqt
    obtain ⟨hq, ht⟩ := hqt
    have HE := Lib.hid (qdisc_eq hq ht)
    have htn := txn_range ht
    have hkey := int_key htn
    rw [hq]
    go_wp2_with fail
    refine (isTxn_any t w1).mono ?_
    rintro e w2 ⟨rfl, rfl⟩
    rw [ht]
    go_wp2_with fail
    refine (areas_any _ q w1 (repQu.next hv bb1) hq).mono ?_
    rintro e w3 ⟨gm, l, rfl, hgm, hM3, hA3, hb3⟩
    have bb3 := below_ext bb1 hb3
    have hgm3 := hM3.lt
    obtain ⟨y0, y1⟩ := (x01.next hb3).cells2
    have x13 := x11.next hb3
    obtain ⟨v9, ps9, hlook, -⟩ := hM3.look_ok intK Try.underlying76 (z := .slice none 0 0) (zd := .held (.slice none 0 0)) (zp := []) (by kernel_rfl) rfl hkey
    rw [has_ars, hA3.any, findA_any] at hlook
    have E0 := Try.underlying76
    have n0 : some w.heap.size ≠ some gm := fun e => by injection e with e; omega
    have n1 : some (w.heap.size + 1) ≠ some gm := fun e => by injection e with e; omega
    have x03 := x01.next hb3
    go_wp2_with (at_delete; go_loud (refine wpList_delete_own _ rfl _ _ 76 3 rfl _ intK E0 _ gm _ _ rfl hM3 _ _ rfl hkey ?_; intro w4 hM4 hT4; have hg4 := hT4.grown; have x04 := x03.grown hg4 n0; obtain ⟨v0, v1⟩ := x04.cells2))
    rw [del_ars] at hM4
    have x14 := x13.grown hg4 n1
    have bb4 : Below w.heap.size w w4 := grownBelowQ bb3 hg4 (by omega)
    obtain ⟨hm, -, hq4⟩ := quarB_parts hq
    have hlm : q.main.length ≤ 16 := stB_len hm
    have hl0 := hr0.1
    refine (copyObjectsS_any B0 m0 d0 q.main w4 (hr0.next bb4).robjs (by omega) (ok_small (stB_ok hm))).mono ?_
    rintro e w5 ⟨v5, rfl, hO5, hb5⟩
    obtain ⟨A5, c5, rfl, hAc5⟩ := hO5.own.form
    have bb5 := below_ext bb4 hb5
    have x15 := x14.next hb5
    have hM5 := hM4.kept (row := none) (grown_noneQ hb5) (by simp)
    have hf := parts_filter t hA3
    have hkk := parts_keys hf
    have hfl := hf.len
    have hdl : (q.ars.filter fun a => !decide (a.t = t)).length ≤ q.ars.length := List.length_filter_le _ _
    have hpp : ((l.filter fun p => !decide (p.1 = t)).map (·.1)).Pairwise (· < ·) := by
      rw [hkk]
      exact (quar_pairs hq).sublist (List.filter_sublist.map _)
    have htt : ∀ p ∈ l.filter fun p => !decide (p.1 = t), 0 ≤ p.1 ∧ p.1 ≤ 11 := fun p hp => by
      obtain ⟨a, ha, e⟩ := hf.keys p hp
      rw [e]
      exact txn_range ((quarB_parts hq).2.1 a (List.mem_filter.1 ha).1).1
    have hll : (l.filter fun p => !decide (p.1 = t)).length ≤ 100 := by omega
    have hss := hf.slices
    have HL := Lib.hid hfl
    have HK := Lib.hid hkk
    clear hfl hkk hdl hl0 hlm hq4
    go_wp2_with fail
    refine (quarantineOf_any A5 m0 c5 gm 4 _ w5 hM5 hll hpp htt hss).mono ?_
    rintro e w6 ⟨C, d, rfl, hrow, hb6⟩
    have bb6 := below_ext bb5 hb6
    have x16 := x15.next hb6
    have g10 := x16.frozen 0
    have g11 := x16.frozen 1
    obtain ⟨u60, u61⟩ := x16.cells2
    have hRR := (x16.set_ 0 (.slice A5 m0 c5)).set_ 1 (.slice C (l.filter fun p => !decide (p.1 = t)).length d)
    simp only [List.set_cons_zero, List.set_cons_succ] at hRR
    obtain ⟨t0, t1⟩ := hRR.cells2
    have s4 := hg4.size
    have s4' : w4.heap.size = w3.heap.size := by
      obtain ⟨_, _, _, _, _, rfl⟩ := hT4
      simp [Go.ChangeMaps.setBlock]
    have s5 := hb5.size
    have s6 := hb6.size
    have hm6 := (hO5.ssl (Nat.le_refl _)).next hb6 (fun b hb => hb.2)
    have ha6 : AV w6 gm (gm + 1) (Iv (gm + 1) w3.heap.size) (l.filter fun p => !decide (p.1 = t)) (dropT q.ars t) := Parts.kept hf fun b hb hne => (hb6.block b (by have := hb.2; omega)).trans ((hb5.block b (by have := hb.2; omega)).trans (hg4.block b hb.2 (fun e => hne (by injection e))))
    have hr6 := ha6.row (lo0 := w.heap.size) hrow (fun b hb => by have := hb.2; omega) (by omega) (by omega)
    go_wp2_with fail
    refine bodyPost_ret (v := .tuple #[.agg #[.slice A5 m0 c5, .slice C (l.filter fun p => !decide (p.1 = t)).length d], .bool (findA q.ars t).isSome]) (by simp [results, Try.results33, go_sem, t0, t1]) rfl ?_
    rw [HE.out]
    have hfar : ∀ b, b ≠ w.heap.size + 1 → ((w6.setCell ⟨w.heap.size + 1, 0, none⟩ (.slice A5 m0 c5)).setCell ⟨w.heap.size + 1, 1, none⟩ (.slice C (l.filter fun p => !decide (p.1 = t)).length d)).heap[b]? = w6.heap[b]? := fun b hb => (Below.heap_setCell _ ⟨w.heap.size + 1, 1, none⟩ _ b hb).trans (Below.heap_setCell _ ⟨w.heap.size + 1, 0, none⟩ _ b hb)
    refine ⟨_, rfl, sepQu_mk (S1 := Iv w4.heap.size w5.heap.size) (S2 := fun b => Iv (gm + 1) w3.heap.size b ∨ Iv w5.heap.size w6.heap.size b) (x := ⟨q.main, dropT q.ars t⟩) ?_ ?_ ?_ ((hm6.kept fun b hb => hfar b ?_).down ?_) (hr6.kept fun b hb => hfar b ?_), (bb6.setCell (p := ⟨w.heap.size + 1, 0, none⟩) (Nat.le_succ _) _).setCell (p := ⟨w.heap.size + 1, 1, none⟩) (Nat.le_succ _) _⟩
    · intro b hb
      have h1 := hb.1
      have h2 := hb.2
      refine ⟨by omega, ?_⟩
      rw [size_setCell, size_setCell]
      omega
    · intro b hb
      unfold Iv at hb ⊢
      rw [size_setCell, size_setCell]
      omega
    · intro b hb hb2
      unfold Iv at hb hb2
      omega
    · unfold Iv at hb
      omega
    · omega
    · unfold Iv at hb
      omega
  · skip
    have HE := Lib.hid (show qdiscQ q t = (noQu, false) by unfold qdiscQ; rw [if_neg hqt])
    have hRR := (x11.set_ 0 (.slice none 0 0)).set_ 1 (.slice none 0 0)
    simp only [List.set_cons_zero, List.set_cons_succ] at hRR
    obtain ⟨t0, t1⟩ := hRR.cells2
    have hfin : QSep w (qdiscQ q t) (.returned (.tuple #[.agg #[.slice none 0 0, .slice none 0 0], .bool false])) ((w1.setCell ⟨w.heap.size + 1, 0, none⟩ (.slice none 0 0)).setCell ⟨w.heap.size + 1, 1, none⟩ (.slice none 0 0)) := by
      rw [HE.out]
      exact ⟨_, rfl, sepQu_mk (S1 := noQ) (S2 := noQ) (x := noQu) (fun _ h => h.elim) (fun _ h => h.elim) (fun _ h => h.elim) SSl.nil SSl.nil, (bb1.setCell (p := ⟨w.heap.size + 1, 0, none⟩) (Nat.le_succ _) _).setCell (p := ⟨w.heap.size + 1, 1, none⟩) (Nat.le_succ _) _⟩
    clear HE
    cases hq : quarB q
    · skip
      go_wp2_with fail
      refine bodyPost_ret (v := .tuple #[.agg #[.slice none 0 0, .slice none 0 0], .bool false]) (by simp [results, Try.results33, go_sem, t0, t1]) rfl hfin
    · have ht : txnB t = false := by
        rw [hq] at hqt
        simpa using hqt
      go_wp2_with fail
      refine (isTxn_any t w1).mono ?_
      rintro e w2 ⟨rfl, rfl⟩
      rw [ht]
      go_wp2_with fail
      refine bodyPost_ret (v := .tuple #[.agg #[.slice none 0 0, .slice none 0 0], .bool false]) (by simp [results, Try.results33, go_sem, t0, t1]) rfl hfin
end Go.Proofs.Ytjofgbbofagoiaa
