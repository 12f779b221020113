/- Walks: the reference's l1Put: an object put into a list of valid objects. -/
import Derived.Test.YtjofgbbofagoiaaPutLaw
import Derived.Deep.RegionHeld3
namespace Go.Proofs.Ytjofgbbofagoiaa
open Go.RowKit Go.Sort

/-- how many objects at the front have smaller ids -/
def posO : List Ob → Int → Nat
  | [], _ => 0
  | x :: os, i => if x.id < i then posO os i + 1 else 0
theorem posO_eq : ∀ (os : List Ob) (i : Int) (k : Nat), k ≤ os.length → (∀ j x, j < k → os[j]? = some x → x.id < i) → (∀ x, os[k]? = some x → ¬ x.id < i) → posO os i = k
  | [], i, k, hk, _, _ => by simp at hk; subst hk; rfl
  | x :: os, i, 0, _, _, h => by simp [posO, h x (by simp)]
  | x :: os, i, k+1, hk, h1, h2 => by
    have hx := h1 0 x (by omega) (by simp)
    simp only [posO, hx, if_true]
    rw [posO_eq os i k (by simpa using hk) (fun j y hj hy => h1 (j+1) y (by omega) (by simpa using hy)) (fun y hy => h2 y (by simpa using hy))]
/-- what putting does -/
def putO (os : List Ob) (o : Ob) : List Ob × Bool :=
  match os[posO os o.id]? with
  | some x => if x.id = o.id then (os, eqO x o) else if 16 ≤ os.length then (os, false) else (os.take (posO os o.id) ++ [o] ++ os.drop (posO os o.id), true)
  | none => if 16 ≤ os.length then (os, false) else (os.take (posO os o.id) ++ [o] ++ os.drop (posO os o.id), true)

theorem ne_ownBlock {g g' n c : Nat} (h : g ≠ g') : some g ≠ (Value.slice (some ⟨g', 0, none⟩) n c).ownBlock := fun e => h (Option.some.inj e)
theorem below_tr {B : Nat} {w0 w w' : World} (h : Below B w0 w) (h' : Below B w w') : Below B w0 w' := h.trans h'

def PutTo (w : World) (os : List Ob) (o : Ob) (e : Ending) (w' : World) : Prop := ∃ v, e = .returned (.tuple #[v, .bool (putO os o).2]) ∧ OwnO w' w.heap.size v (putO os o).1.length (putO os o).1 ∧ Below w.heap.size w w'

set_option maxRecDepth 100000 in
set_option maxHeartbeats 3200000 in
theorem l1Put_any (A : Option Addr) (n c : Nat) (os : List Ob) (o : Ob) (B : Option Addr) (m d : Nat) (w : World) (h : RObjs w A n os) (hn : n ≤ 1000) (hcap : n ≤ c) (hos : ∀ x ∈ os, x.ok = true) (hr : RInts w B m o.xs) (ho : o.ok = true) :
    Calls Try.prog 103 #[.slice A n c, .agg #[.int .i64 o.k, .slice B m d, .string o.t]] w (PutTo w os o) := by
  have hoo : ObjOk o.k o.xs o.t := ObjOk.of ho
  have bo := Blk.new w 33 [.int .i64 o.k, .slice B m d, .string o.t]
  have b1 := below_box w (.cells #[.int .i64 o.k, .slice B m d, .string o.t] 33)
  have h1 := h.next b1
  have hr1 := hr.next b1
  go_enter Try.func103, Try.ntmps103
  go_wp2_with fail
  generalize hW : w.alloc (.cells #[.int .i64 o.k, .slice B m d, .string o.t] 33) = wq at *
  have HW := Lib.hid hW
  clear hW
  refine (l1Of_any _ _ _ _ o.xs _ _ hr1 hoo).mono ?_
  rintro e w1 ⟨rfl, hb1⟩
  have h2 := h1.next hb1
  have bo2 := bo.next hb1
  have hr2 := hr1.next hb1
  go_wp2_with fail
  go_loopw [7] (fun i wr => ∃ j : Nat, j ≤ n ∧ i = .int .i64 j ∧ Hid (∀ (q : Nat) (x : Ob), q < j → os[q]? = some x → x.id < o.id) ∧ Below w1.heap.size w1 wr) (fun i _ => n - (intOf i).toNat)
  case atStart => exact ⟨0, Nat.zero_le _, rfl, (show ∀ (q : Nat) (x : Ob), q < 0 → os[q]? = some x → x.id < o.id from fun q x hq => absurd hq (by omega)), Below.refl _ _⟩
  case round =>
    obtain ⟨j, hj, rfl, hlow, hbr⟩ := hrel
    have h3 := h2.next hbr
    by_cases hlt : j < n
    · obtain ⟨b, off, x, rfl, hb, hx, hob⟩ := h3.at_ hlt
      obtain ⟨B', m', d', c0, c1, c2, hri, hm, ht⟩ := hob
      have hxo : ObjOk x.k x.xs x.t := ObjOk.of (hos x (List.mem_of_getElem? hx))
      have HX := Lib.hid hx
      clear hx
      by_cases hid : x.id < o.id
      · have hd : decide (idV x.k x.xs x.t < idV o.k o.xs o.t) = true := decide_eq_true hid
        go_wp2_with (go_at_call 79; refine (l1Of_any _ _ _ _ x.xs _ _ hri hxo).mono ?_; rintro e w2 ⟨rfl, hb2⟩)
        go_roundw
        case rel => exact ⟨j + 1, by omega, by go_num, (show ∀ (q : Nat) (y : Ob), q < j + 1 → os[q]? = some y → y.id < o.id from fun q y hq hy => by
          by_cases hqj : q < j
          · exact hlow.out q y hqj hy
          · obtain rfl : q = j := by omega
            rw [HX.out] at hy; injection hy with hy; subst hy; exact hid), below_ext hbr hb2⟩
        case measure => simp [intOf]; omega
      · have hd : decide (idV x.k x.xs x.t < idV o.k o.xs o.t) = false := decide_eq_false hid
        have hpos : posO os o.id = j := posO_eq os o.id j (by have := h.1; omega) hlow.out (fun y hy => by rw [HX.out] at hy; injection hy with hy; subst hy; exact hid)
        have HP := Lib.hid hpos
        clear hpos
        have hobx : RObj wr b (off + j * 3) x := ⟨B', m', d', c0, c1, c2, hri, hm, ht⟩
        go_wp2_with fail
        refine (l1Of_any _ _ _ _ x.xs _ _ hri hxo).mono ?_
        rintro e w2 ⟨rfl, hb2⟩
        have hb2lt := Nat.lt_of_lt_of_le hb hb2.size
        obtain ⟨d0, d1, d2, hri2⟩ : w2.cell? ⟨b, off + j * 3, none⟩ = some (.int .i64 x.k) ∧ w2.cell? ⟨b, off + j * 3 + 1, none⟩ = some (.slice B' m' d') ∧ w2.cell? ⟨b, off + j * 3 + 1 + 1, none⟩ = some (.string x.t) ∧ RInts w2 B' m' x.xs :=
          ⟨(hb2.cell (p := ⟨b, off + j * 3, none⟩) hb).trans c0, (hb2.cell (p := ⟨b, off + j * 3 + 1, none⟩) hb).trans c1, (hb2.cell (p := ⟨b, off + j * 3 + 1 + 1, none⟩) hb).trans c2, hri.next hb2⟩
        clear c0 c1 c2
        go_wp2_with fail
        refine (l1Of_any _ _ _ _ x.xs _ _ hri2 hxo).mono ?_
        rintro e w3 ⟨rfl, hb3⟩
        obtain ⟨e0, e1, e2, hri3⟩ : w3.cell? ⟨b, off + j * 3, none⟩ = some (.int .i64 x.k) ∧ w3.cell? ⟨b, off + j * 3 + 1, none⟩ = some (.slice B' m' d') ∧ w3.cell? ⟨b, off + j * 3 + 1 + 1, none⟩ = some (.string x.t) ∧ RInts w3 B' m' x.xs :=
          ⟨(hb3.cell (p := ⟨b, off + j * 3, none⟩) hb2lt).trans d0, (hb3.cell (p := ⟨b, off + j * 3 + 1, none⟩) hb2lt).trans d1, (hb3.cell (p := ⟨b, off + j * 3 + 1 + 1, none⟩) hb2lt).trans d2, hri2.next hb3⟩
        clear d0 d1 d2
        have hb3lt := Nat.lt_of_lt_of_le hb2lt hb3.size
        have h5 := (h3.next hb2).next hb3
        have bo5 := ((bo2.next hbr).next hb2).next hb3
        have hr5 := ((hr2.next hbr).next hb2).next hb3
        have b5 := below_ext (below_ext (below_ext (below_ext b1 hb1) hbr) hb2) hb3
        obtain ⟨p0, p1, p2⟩ := bo5.cells3
        have HK := Lib.hid (fun (w' : World) (hb' : Below w3.heap.size w3 w') => (⟨⟨(hb'.cell (p := ⟨b, off + j * 3, none⟩) hb3lt).trans e0, (hb'.cell (p := ⟨b, off + j * 3 + 1, none⟩) hb3lt).trans e1, (hb'.cell (p := ⟨b, off + j * 3 + 1 + 1, none⟩) hb3lt).trans e2, (bo5.next hb').cells3⟩, hb'⟩ :
          (w'.cell? ⟨b, off + j * 3, none⟩ = some (.int .i64 x.k) ∧ w'.cell? ⟨b, off + j * 3 + 1, none⟩ = some (.slice B' m' d') ∧ w'.cell? ⟨b, off + j * 3 + 1 + 1, none⟩ = some (.string x.t) ∧
            w'.cell? ⟨w.heap.size, 0, none⟩ = some (.int .i64 o.k) ∧ w'.cell? ⟨w.heap.size, 1, none⟩ = some (.slice B m d) ∧ w'.cell? ⟨w.heap.size, 2, none⟩ = some (.string o.t)) ∧ Below w3.heap.size w3 w'))
        cases hq : (idV x.k x.xs x.t == idV o.k o.xs o.t)
        · have hne : ¬ x.id = o.id := by have := hq; simp at this; exact this
          have HPut : putO os o = if 16 ≤ n then (os, false) else (os.take j ++ [o] ++ os.drop j, true) := by
            unfold putO
            rw [HP.out, HX.out, h.1]
            simp [hne]
          by_cases h16 : 16 ≤ n
          · rw [if_pos h16] at HPut
            have HQ := Lib.hid HPut
            clear HPut
            go_wp2_with fail
            refine (l1Copy_any _ _ _ os _ h5 (by omega) (fun y hy => by have := (ObjOk.of (hos y hy)).len; omega)).mono ?_
            rintro e w6 ⟨v6, rfl, hO6, hb6⟩
            go_wp2
            refine bodyPost_ret (v := .tuple #[v6, .bool false]) (by simp [results, Try.results103, go_sem]) rfl ?_
            refine ⟨v6, ?_, ?_, below_ext b5 hb6⟩
            · rw [HQ.out]
            · rw [HQ.out]
              show OwnO w6 w.heap.size v6 os.length os
              rw [h.1]
              exact hO6.base b5.size
          · rw [if_neg h16] at HPut
            have HQ := Lib.hid HPut
            clear HPut
            go_wp2_with fail
            --REGION w3 part
            have HK2 := Lib.hid (fun (w' : World) (hb' : Below w3.heap.size w3 w') => (⟨(bo5.next hb').cells3, hb'⟩ : (w'.cell? ⟨w.heap.size, 0, none⟩ = some (.int .i64 o.k) ∧ w'.cell? ⟨w.heap.size, 1, none⟩ = some (.slice B m d) ∧ w'.cell? ⟨w.heap.size, 2, none⟩ = some (.string o.t)) ∧ Below w3.heap.size w3 w'))
            have E1 : Blk (w3.alloc (.cells #[] 33)).drew w3.heap.size 33 [] := Blk.new w3 33 []
            have E2 : Blk ((w3.alloc (.cells #[] 33)).alloc (.cells #[.int .i64 o.k, .slice B m d, .string o.t] 33)).drew w3.heap.size 33 [] := (Blk.new w3 33 []).alloc (.cells #[.int .i64 o.k, .slice B m d, .string o.t] 33)
            have O2 : Blk ((w3.alloc (.cells #[] 33)).alloc (.cells #[.int .i64 o.k, .slice B m d, .string o.t] 33)).drew (w3.heap.size + 1) 33 [.int .i64 o.k, .slice B m d, .string o.t] := by
              have := Blk.new (w3.alloc (.cells #[] 33)) 33 [.int .i64 o.k, .slice B m d, .string o.t]
              rwa [show (w3.alloc (.cells #[] 33)).heap.size = w3.heap.size + 1 from by simp] at this
            have E3 : Blk ((w3.alloc (.cells #[.int .i64 o.k, .slice B m d, .string o.t] 33)).alloc (.cells #[] 33)).drew (w3.heap.size + 1) 33 [] := by
              have := Blk.new (w3.alloc (.cells #[.int .i64 o.k, .slice B m d, .string o.t] 33)) 33 []
              rwa [show (w3.alloc (.cells #[.int .i64 o.k, .slice B m d, .string o.t] 33)).heap.size = w3.heap.size + 1 from by simp] at this
            have O3 : Blk ((w3.alloc (.cells #[.int .i64 o.k, .slice B m d, .string o.t] 33)).alloc (.cells #[] 33)).drew w3.heap.size 33 [.int .i64 o.k, .slice B m d, .string o.t] := (Blk.new w3 33 [.int .i64 o.k, .slice B m d, .string o.t]).alloc (.cells #[] 33)
            have hmem : ∀ y : Ob, (y ∈ os.take j ∨ y = o ∨ y ∈ os.drop j) → y.ok = true := by
              rintro y (hy | rfl | hy)
              · exact hos y (List.mem_of_mem_take hy)
              · exact ho
              · exact hos y (List.mem_of_mem_drop hy)
            by_cases hj0 : j = 0
            · subst hj0
              obtain ⟨cs, hcl, hclt, hcell, hel, hone⟩ := h5.cellsL
              have hblt := hclt (by omega)
              go_region_held3 (fun w' => (w'.cell? ⟨w.heap.size, 0, none⟩ = some (.int .i64 o.k) ∧ w'.cell? ⟨w.heap.size, 1, none⟩ = some (.slice B m d) ∧ w'.cell? ⟨w.heap.size, 2, none⟩ = some (.string o.t)) ∧ Below w3.heap.size w3 w')
                (first
                  | exact HK2.out _ (Below.refl _ _).drew
                  | exact HK2.out _ (below_ext (And.right (by assumption)) (below_box _ _))
                  | exact HK2.out _ (below_tr (And.right (by assumption)) hb8)
                  | exact HK2.out _ (below_tr (And.right (by assumption)) hb6)
                  | exact HK2.out _ (below_tr (And.right (by assumption)) hb5')
                  | exact HK2.out _ (below_ext (And.right (by assumption)) hb7)
                  | exact And.intro (And.left (by assumption)) (And.right (by assumption)))
                (first
                  | (refine step_app0 rfl (.tmp 51) (.tmp 54) 23 rfl w3.heap.size 33 Try.underlying23 obj_info1 _ 0 [] rfl (own_emp (by first | with_reducible exact E1 | with_reducible exact E2 | with_reducible exact E3) (by simp)) _ _ rfl ?_)
                  | ((refine step_app rfl (.tmp 55) (.tmp 57) 23 rfl w3.heap.size 33 Try.underlying23 obj_info1 rfl (by omega) (by omega) _ 0 [] rfl (own_emp (by first | with_reducible exact E1 | with_reducible exact E2 | with_reducible exact E3) (by simp)) _ 1 1 [.int .i64 o.k, .slice B m d, .string o.t] rfl rfl (Blk.cellsAt (t := 33) (by first | with_reducible exact O2 | with_reducible exact O3)) (by simp [Value.oneCell']) (by omega) (by simp <;> omega) ?_)
                     intro A6 c6 w6 hown6a _ hb6 hg6 _
                     have hown6 : w6.ownsRow w3.heap.size 33 3 (.slice A6 1 c6) 1 [.int .i64 o.k, .slice B m d, .string o.t] := by simpa using hown6a
                     clear hown6a)
                  | (refine step_app rfl (.tmp 58) (.tmp 61) 23 rfl w3.heap.size 33 Try.underlying23 obj_info1 rfl (by omega) (by omega) _ (1) [.int .i64 o.k, .slice B m d, .string o.t] rfl hown6 ⟨b, off, none⟩ n c cs rfl hcl (fun q u hu => by
                        rw [add_at]
                        exact ((And.right (by assumption) : Below w3.heap.size w3 _).cell (p := ⟨b, off + q, none⟩) hblt).trans (hcell _ u hu)) hone (by omega) (Below.size (And.right (by assumption) : Below w3.heap.size w3 _)) ?_
                     intro A8 c8 w8 hown8 _ hb8 hg8 _)
                  | (go_at_call 107; refine (l1Copy_any _ _ _ ([o] ++ os) _ (OwnR.reads (R := RInts w8) ⟨_, hown8, Elems.append (Elems.one (hr5.next (And.right (by assumption))) (by have := hr.1; have := hoo.len; simp only [maxLen]; omega) (by have := hoo.txt; simp only [maxLen]; omega)) (hel.mono fun A m xs hx => hx.next (And.right (by assumption)))⟩ (fun _ _ _ hx => hx)) (by omega) (fun y hy => by have := (ObjOk.of (show y.ok = true from hmem y (by simp at hy ⊢; first | exact hy | exact Or.inl hy | (rcases hy with hy | hy; (exact Or.inl hy); (exact Or.inr (Or.inl hy)))))).len; omega)).mono ?_
                     rintro e w7 ⟨v7, rfl, hO7, hb7⟩))
              all_goals
                have b7 : Below w3.heap.size w3 w7 := And.right (by assumption)
                go_wp2
                refine bodyPost_ret (v := .tuple #[v7, .bool true]) (by simp [results, Try.results103, go_sem]) rfl ?_
                have hz : w3.heap.size ≤ w8.heap.size := by obtain ⟨g, _, h1, h2⟩ := own_addr hown8 (by omega); omega
                have hO8 := hO7.base (Nat.le_trans b5.size hz)
                have hl8 := OwnR.len hO8
                refine ⟨v7, by rw [HQ.out], ?_, below_ext b5 b7⟩
                rw [HQ.out]
                show OwnO w7 w.heap.size v7 (os.take 0 ++ [o] ++ os.drop 0).length (os.take 0 ++ [o] ++ os.drop 0)
                rw [← hl8] at hO8
                simpa using hO8
            · obtain ⟨cs, hcl, hclt, hcell, hel, hone⟩ := h5.cellsL
              have hblt := hclt (by omega)
              have i1 : (0 : Int) ≤ (j : Int) := by omega
              have i2 : (j : Int) ≤ (c : Int) := by omega
              have i3 : (j : Int) ≤ (n : Int) := by omega
              have i4 : ¬ (c = j) := by omega
              go_region_held3 (fun w' => (w'.cell? ⟨w.heap.size, 0, none⟩ = some (.int .i64 o.k) ∧ w'.cell? ⟨w.heap.size, 1, none⟩ = some (.slice B m d) ∧ w'.cell? ⟨w.heap.size, 2, none⟩ = some (.string o.t)) ∧ Below w3.heap.size w3 w')
                (first
                  | exact HK2.out _ (Below.refl _ _).drew
                  | exact HK2.out _ (below_ext (And.right (by assumption)) (below_box _ _))
                  | exact HK2.out _ (below_tr (And.right (by assumption)) hb8)
                  | exact HK2.out _ (below_tr (And.right (by assumption)) hb6)
                  | exact HK2.out _ (below_tr (And.right (by assumption)) hb5')
                  | exact HK2.out _ (below_ext (And.right (by assumption)) hb7)
                  | exact And.intro (And.left (by assumption)) (And.right (by assumption)))
                (first
                  | (refine step_app rfl (.tmp 51) (.tmp 54) 23 rfl w3.heap.size 33 Try.underlying23 obj_info1 rfl (by omega) (by omega) _ 0 [] rfl (own_emp (by first | with_reducible exact E1 | with_reducible exact E2 | with_reducible exact E3) (by simp)) ⟨b, off, none⟩ j c (cs.take (j * 3)) rfl (by rw [List.length_take]; omega) (fun q u hu => by
                        rw [add_at]
                        rw [List.getElem?_take] at hu
                        split at hu
                        · exact ((And.right (by assumption) : Below w3.heap.size w3 _).cell (p := ⟨b, off + q, none⟩) hblt).trans (hcell q u hu)
                        · cases hu) (fun u hu => hone u (List.mem_of_mem_take hu)) (by omega) (by simp <;> omega) ?_
                     intro A5 c5 w5 hown5a _ hb5' hg5 _
                     have hown5 : w5.ownsRow w3.heap.size 33 3 (.slice A5 j c5) j (cs.take (j * 3)) := by simpa using hown5a
                     clear hown5a
                     try simp only [Nat.zero_add]
                     try (have O5 := O2.grown hg5 (ne_ownBlock (by omega)))
                     try (have O5 := O3.grown hg5 (ne_ownBlock (by omega)))
                     have M5 := own_below hown5 (below_box w5 (.cells #[.int .i64 o.k, .slice B m d, .string o.t] 33))
                     have N5 : Blk (w5.alloc (.cells #[.int .i64 o.k, .slice B m d, .string o.t] 33)) w5.heap.size 33 [.int .i64 o.k, .slice B m d, .string o.t] := Blk.new w5 33 [.int .i64 o.k, .slice B m d, .string o.t])
                  | ((refine step_app rfl (.tmp 55) (.tmp 57) 23 rfl w3.heap.size 33 Try.underlying23 obj_info1 rfl (by omega) (by omega) (.slice A5 j c5) j (cs.take (j * 3)) rfl (by first | with_reducible exact hown5 | with_reducible exact M5) _ 1 1 [.int .i64 o.k, .slice B m d, .string o.t] rfl rfl (Blk.cellsAt (t := 33) (by first | with_reducible exact N5 | with_reducible exact O5)) (by simp [Value.oneCell']) (by omega) (by have := hb5'.size; first | (simp at this ⊢; omega) | (simp at this; omega)) ?_)
                     intro A6 c6 w6 hown6a _ hb6 hg6 _
                     have hown6 : w6.ownsRow w3.heap.size 33 3 (.slice A6 (j + 1) c6) (j + 1) (cs.take (j * 3) ++ [.int .i64 o.k, .slice B m d, .string o.t]) := by simpa using hown6a
                     clear hown6a)
                  | ((refine step_app rfl (.tmp 58) (.tmp 61) 23 rfl w3.heap.size 33 Try.underlying23 obj_info1 rfl (by omega) (by omega) (.slice A6 (j + 1) c6) ((j + 1)) (cs.take (j * 3) ++ [.int .i64 o.k, .slice B m d, .string o.t]) rfl hown6 ⟨b, off + j * 3, none⟩ (n - j) (c - j) (cs.drop (j * 3)) rfl (by rw [List.length_drop]; omega) (fun q u hu => by
                        rw [add_at]
                        rw [List.getElem?_drop] at hu
                        rw [Nat.add_assoc]
                        exact ((And.right (by assumption) : Below w3.heap.size w3 _).cell (p := ⟨b, off + (j * 3 + q), none⟩) hblt).trans (hcell _ u hu)) (fun u hu => hone u (List.mem_of_mem_drop hu)) (by omega) (Below.size (And.right (by assumption) : Below w3.heap.size w3 _)) ?_)
                     intro A8 c8 w8 hown8 _ hb8 hg8 _)
                  | (go_at_call 107; refine (l1Copy_any _ _ _ ((os.take j ++ [o]) ++ os.drop j) _ (OwnR.reads (R := RInts w8) ⟨_, hown8, Elems.append (Elems.append (((hel.take j (by have := h.1; omega)).mono fun A m xs hx => hx.next (And.right (by assumption)))) (Elems.one (hr5.next (And.right (by assumption))) (by have := hr.1; have := hoo.len; simp only [maxLen]; omega) (by have := hoo.txt; simp only [maxLen]; omega))) ((hel.drop j).mono fun A m xs hx => hx.next (And.right (by assumption)))⟩ (fun _ _ _ hx => hx)) (by omega) (fun y hy => by have := (ObjOk.of (show y.ok = true from hmem y (by simp at hy ⊢; first | exact hy | exact Or.inl hy | (rcases hy with hy | hy; (exact Or.inl hy); (exact Or.inr (Or.inl hy)))))).len; omega)).mono ?_
                     rintro e w7 ⟨v7, rfl, hO7, hb7⟩))
              all_goals
                have b7 : Below w3.heap.size w3 w7 := And.right (by assumption)
                go_wp2
                refine bodyPost_ret (v := .tuple #[v7, .bool true]) (by simp [results, Try.results103, go_sem]) rfl ?_
                have hz : w3.heap.size ≤ w8.heap.size := by obtain ⟨g, _, h1, h2⟩ := own_addr hown8 (by omega); omega
                have hO8 := hO7.base (Nat.le_trans b5.size hz)
                have hl8 := OwnR.len hO8
                refine ⟨v7, by rw [HQ.out], ?_, below_ext b5 b7⟩
                rw [HQ.out]
                show OwnO w7 w.heap.size v7 (os.take j ++ [o] ++ os.drop j).length (os.take j ++ [o] ++ os.drop j)
                rw [← hl8] at hO8
                simpa using hO8
            --END
        · go_wp2_with fail
          go_region_held3 (fun w' => (w'.cell? ⟨b, off + j * 3, none⟩ = some (.int .i64 x.k) ∧ w'.cell? ⟨b, off + j * 3 + 1, none⟩ = some (.slice B' m' d') ∧ w'.cell? ⟨b, off + j * 3 + 1 + 1, none⟩ = some (.string x.t) ∧
            w'.cell? ⟨w.heap.size, 0, none⟩ = some (.int .i64 o.k) ∧ w'.cell? ⟨w.heap.size, 1, none⟩ = some (.slice B m d) ∧ w'.cell? ⟨w.heap.size, 2, none⟩ = some (.string o.t)) ∧ Below w3.heap.size w3 w')
            (first
              | exact HK.out _ (Below.refl _ _).drew
              | exact HK.out _ (below_ext (And.right (by assumption)) hb6)
              | exact HK.out _ (below_ext (And.right (by assumption)) hb7))
            (first
              | (go_at_call 107; refine (l1Copy_any _ _ _ os _ (h5.next (And.right (by assumption))) (by omega) (fun y hy => by have := (ObjOk.of (hos y hy)).len; omega)).mono ?_
                 rintro e w6 ⟨v6, rfl, hO6, hb6⟩)
              | (go_at_call 115; refine (l1Same_any x o _ _ _ _ _ _ _ (hri3.next (And.right (by assumption))) (hr5.next (And.right (by assumption))) hm (by have := hr.1; have := hoo.len; simp only [maxLen]; omega)).mono ?_
                 rintro e w7 ⟨rfl, hb7⟩))
          have b7 : Below w3.heap.size w3 w7 := And.right (by assumption)
          have HPut : putO os o = (os, eqO x o) := by
            have hxe : x.id = o.id := by have := hq; simp at this; exact this
            unfold putO
            rw [HP.out, HX.out]
            simp [hxe]
          go_wp2
          refine bodyPost_ret (v := .tuple #[v6, .bool (eqO x o)]) (by simp [results, Try.results103, go_sem]) rfl ?_
          refine ⟨v6, ?_, ?_, below_ext b5 b7⟩
          · rw [HPut]
          · rw [HPut]
            show OwnO w7 w.heap.size v6 os.length os
            rw [h.1]
            exact (hO6.next hb7).base b5.size
    · obtain rfl : j = n := by omega
      have hpos : posO os o.id = j := posO_eq os o.id j (by have := h.1; omega) hlow.out (fun y hy => by have := (List.getElem?_eq_some_iff.1 hy).1; have := h.1; omega)
      have HPut : putO os o = if 16 ≤ j then (os, false) else (os.take j ++ [o] ++ os.drop j, true) := by
        unfold putO
        rw [hpos, List.getElem?_eq_none (by have := h.1; omega), h.1]
      clear hpos
      have b5 := below_ext (below_ext b1 hb1) hbr
      have h5 := h3
      have hr5 := hr2.next hbr
      have bo5 := bo2.next hbr
      obtain ⟨p0, p1, p2⟩ := bo5.cells3
      by_cases h16 : 16 ≤ j
      · rw [if_pos h16] at HPut
        have HQ := Lib.hid HPut
        clear HPut
        go_wp2_with fail
        refine (l1Copy_any _ _ _ os _ h5 (by omega) (fun y hy => by have := (ObjOk.of (hos y hy)).len; omega)).mono ?_
        rintro e w6 ⟨v6, rfl, hO6, hb6⟩
        go_wp2
        refine bodyPost_ret (v := .tuple #[v6, .bool false]) (by simp [results, Try.results103, go_sem]) rfl ?_
        refine ⟨v6, ?_, ?_, below_ext b5 hb6⟩
        · rw [HQ.out]
        · rw [HQ.out]
          show OwnO w6 w.heap.size v6 os.length os
          rw [h.1]
          exact hO6.base b5.size
      · rw [if_neg h16] at HPut
        have HQ := Lib.hid HPut
        clear HPut
        go_wp2_with fail
        --REGION wr full
        have HK2 := Lib.hid (fun (w' : World) (hb' : Below wr.heap.size wr w') => (⟨(bo5.next hb').cells3, hb'⟩ : (w'.cell? ⟨w.heap.size, 0, none⟩ = some (.int .i64 o.k) ∧ w'.cell? ⟨w.heap.size, 1, none⟩ = some (.slice B m d) ∧ w'.cell? ⟨w.heap.size, 2, none⟩ = some (.string o.t)) ∧ Below wr.heap.size wr w'))
        have E1 : Blk (wr.alloc (.cells #[] 33)).drew wr.heap.size 33 [] := Blk.new wr 33 []
        have E2 : Blk ((wr.alloc (.cells #[] 33)).alloc (.cells #[.int .i64 o.k, .slice B m d, .string o.t] 33)).drew wr.heap.size 33 [] := (Blk.new wr 33 []).alloc (.cells #[.int .i64 o.k, .slice B m d, .string o.t] 33)
        have O2 : Blk ((wr.alloc (.cells #[] 33)).alloc (.cells #[.int .i64 o.k, .slice B m d, .string o.t] 33)).drew (wr.heap.size + 1) 33 [.int .i64 o.k, .slice B m d, .string o.t] := by
          have := Blk.new (wr.alloc (.cells #[] 33)) 33 [.int .i64 o.k, .slice B m d, .string o.t]
          rwa [show (wr.alloc (.cells #[] 33)).heap.size = wr.heap.size + 1 from by simp] at this
        have E3 : Blk ((wr.alloc (.cells #[.int .i64 o.k, .slice B m d, .string o.t] 33)).alloc (.cells #[] 33)).drew (wr.heap.size + 1) 33 [] := by
          have := Blk.new (wr.alloc (.cells #[.int .i64 o.k, .slice B m d, .string o.t] 33)) 33 []
          rwa [show (wr.alloc (.cells #[.int .i64 o.k, .slice B m d, .string o.t] 33)).heap.size = wr.heap.size + 1 from by simp] at this
        have O3 : Blk ((wr.alloc (.cells #[.int .i64 o.k, .slice B m d, .string o.t] 33)).alloc (.cells #[] 33)).drew wr.heap.size 33 [.int .i64 o.k, .slice B m d, .string o.t] := (Blk.new wr 33 [.int .i64 o.k, .slice B m d, .string o.t]).alloc (.cells #[] 33)
        have hmem : ∀ y : Ob, (y ∈ os.take j ∨ y = o ∨ y ∈ os.drop j) → y.ok = true := by
          rintro y (hy | rfl | hy)
          · exact hos y (List.mem_of_mem_take hy)
          · exact ho
          · exact hos y (List.mem_of_mem_drop hy)
        by_cases hj0 : j = 0
        · subst hj0
          go_region_held3 (fun w' => (w'.cell? ⟨w.heap.size, 0, none⟩ = some (.int .i64 o.k) ∧ w'.cell? ⟨w.heap.size, 1, none⟩ = some (.slice B m d) ∧ w'.cell? ⟨w.heap.size, 2, none⟩ = some (.string o.t)) ∧ Below wr.heap.size wr w')
            (first
              | exact HK2.out _ (Below.refl _ _).drew
              | exact HK2.out _ (below_ext (And.right (by assumption)) (below_box _ _))
              | exact HK2.out _ (below_tr (And.right (by assumption)) hb8)
              | exact HK2.out _ (below_tr (And.right (by assumption)) hb6)
              | exact HK2.out _ (below_tr (And.right (by assumption)) hb5')
              | exact HK2.out _ (below_ext (And.right (by assumption)) hb7)
              | exact And.intro (And.left (by assumption)) (And.right (by assumption)))
            (first
              | (refine step_app0 rfl (.tmp 51) (.tmp 54) 23 rfl wr.heap.size 33 Try.underlying23 obj_info1 _ 0 [] rfl (own_emp (by first | with_reducible exact E1 | with_reducible exact E2 | with_reducible exact E3) (by simp)) _ _ rfl ?_)
              | ((refine step_app rfl (.tmp 55) (.tmp 57) 23 rfl wr.heap.size 33 Try.underlying23 obj_info1 rfl (by omega) (by omega) _ 0 [] rfl (own_emp (by first | with_reducible exact E1 | with_reducible exact E2 | with_reducible exact E3) (by simp)) _ 1 1 [.int .i64 o.k, .slice B m d, .string o.t] rfl rfl (Blk.cellsAt (t := 33) (by first | with_reducible exact O2 | with_reducible exact O3)) (by simp [Value.oneCell']) (by omega) (by simp <;> omega) ?_)
                 intro A6 c6 w6 hown6a _ hb6 hg6 _
                 have hown6 : w6.ownsRow wr.heap.size 33 3 (.slice A6 1 c6) 1 [.int .i64 o.k, .slice B m d, .string o.t] := by simpa using hown6a
                 clear hown6a)
              | ((refine step_app0 rfl (.tmp 58) (.tmp 61) 23 rfl wr.heap.size 33 Try.underlying23 obj_info1 (.slice A6 1 c6) _ _ rfl hown6 _ _ rfl ?_); (try (generalize (if c = j then some (⟨b, off, none⟩ : Addr) else some (⟨b, off + j * 3, none⟩ : Addr)) = q61)))
              | ((go_at_call 107; refine (l1Copy_any _ _ _ [o] _ (OwnR.reads (R := RInts w6) ⟨_, hown6, (Elems.one (hr5.next (And.right (by assumption))) (by have := hr.1; have := hoo.len; simp only [maxLen]; omega) (by have := hoo.txt; simp only [maxLen]; omega))⟩ (fun _ _ _ hx => hx)) (by omega) (fun y hy => by have := (ObjOk.of (show y.ok = true from hmem y (by simp at hy ⊢; first | exact hy | exact Or.inl hy | (rcases hy with hy | hy; (exact Or.inl hy); (exact Or.inr (Or.inl hy)))))).len; omega)).mono ?_; rintro e w7 ⟨v7, rfl, hO7, hb7⟩)))
          all_goals
            have b7 : Below wr.heap.size wr w7 := And.right (by assumption)
            go_wp2
            refine bodyPost_ret (v := .tuple #[v7, .bool true]) (by simp [results, Try.results103, go_sem]) rfl ?_
            have hz : wr.heap.size ≤ w6.heap.size := by obtain ⟨g, _, h1, h2⟩ := own_addr hown6 (by omega); omega
            have hO8 := hO7.base (Nat.le_trans b5.size hz)
            have hl8 := OwnR.len hO8
            refine ⟨v7, by rw [HQ.out], ?_, below_ext b5 b7⟩
            rw [HQ.out]
            show OwnO w7 w.heap.size v7 (os.take 0 ++ [o] ++ os.drop 0).length (os.take 0 ++ [o] ++ os.drop 0)
            have hd0 : os.drop 0 = [] := List.drop_eq_nil_of_le (by have := h.1; omega)
            rw [hd0]
            rw [← hl8] at hO8
            simpa using hO8
        · obtain ⟨b, off, o0, hA0, -, -, -⟩ := h5.at_ (k := 0) (by omega)
          subst hA0
          obtain ⟨cs, hcl, hclt, hcell, hel, hone⟩ := h5.cellsL
          have hblt := hclt (by omega)
          have i1 : (0 : Int) ≤ (j : Int) := by omega
          have i2 : (j : Int) ≤ (c : Int) := by omega
          go_region_held3 (fun w' => (w'.cell? ⟨w.heap.size, 0, none⟩ = some (.int .i64 o.k) ∧ w'.cell? ⟨w.heap.size, 1, none⟩ = some (.slice B m d) ∧ w'.cell? ⟨w.heap.size, 2, none⟩ = some (.string o.t)) ∧ Below wr.heap.size wr w')
            (first
              | exact HK2.out _ (Below.refl _ _).drew
              | exact HK2.out _ (below_ext (And.right (by assumption)) (below_box _ _))
              | exact HK2.out _ (below_tr (And.right (by assumption)) hb8)
              | exact HK2.out _ (below_tr (And.right (by assumption)) hb6)
              | exact HK2.out _ (below_tr (And.right (by assumption)) hb5')
              | exact HK2.out _ (below_ext (And.right (by assumption)) hb7)
              | exact And.intro (And.left (by assumption)) (And.right (by assumption)))
            (first
              | (refine step_app rfl (.tmp 51) (.tmp 54) 23 rfl wr.heap.size 33 Try.underlying23 obj_info1 rfl (by omega) (by omega) _ 0 [] rfl (own_emp (by first | with_reducible exact E1 | with_reducible exact E2 | with_reducible exact E3) (by simp)) ⟨b, off, none⟩ j c (cs.take (j * 3)) rfl (by rw [List.length_take]; omega) (fun q u hu => by
                    rw [add_at]
                    rw [List.getElem?_take] at hu
                    split at hu
                    · exact ((And.right (by assumption) : Below wr.heap.size wr _).cell (p := ⟨b, off + q, none⟩) hblt).trans (hcell q u hu)
                    · cases hu) (fun u hu => hone u (List.mem_of_mem_take hu)) (by omega) (by simp <;> omega) ?_
                 intro A5 c5 w5 hown5a _ hb5' hg5 _
                 have hown5 : w5.ownsRow wr.heap.size 33 3 (.slice A5 j c5) j (cs.take (j * 3)) := by simpa using hown5a
                 clear hown5a
                 try simp only [Nat.zero_add]
                 try (have O5 := O2.grown hg5 (ne_ownBlock (by omega)))
                 try (have O5 := O3.grown hg5 (ne_ownBlock (by omega)))
                 have M5 := own_below hown5 (below_box w5 (.cells #[.int .i64 o.k, .slice B m d, .string o.t] 33))
                 have N5 : Blk (w5.alloc (.cells #[.int .i64 o.k, .slice B m d, .string o.t] 33)) w5.heap.size 33 [.int .i64 o.k, .slice B m d, .string o.t] := Blk.new w5 33 [.int .i64 o.k, .slice B m d, .string o.t])
              | ((refine step_app rfl (.tmp 55) (.tmp 57) 23 rfl wr.heap.size 33 Try.underlying23 obj_info1 rfl (by omega) (by omega) (.slice A5 j c5) j (cs.take (j * 3)) rfl (by first | with_reducible exact hown5 | with_reducible exact M5) _ 1 1 [.int .i64 o.k, .slice B m d, .string o.t] rfl rfl (Blk.cellsAt (t := 33) (by first | with_reducible exact N5 | with_reducible exact O5)) (by simp [Value.oneCell']) (by omega) (by have := hb5'.size; first | (simp at this ⊢; omega) | (simp at this; omega)) ?_)
                 intro A6 c6 w6 hown6a _ hb6 hg6 _
                 have hown6 : w6.ownsRow wr.heap.size 33 3 (.slice A6 (j + 1) c6) (j + 1) (cs.take (j * 3) ++ [.int .i64 o.k, .slice B m d, .string o.t]) := by simpa using hown6a
                 clear hown6a)
              | ((refine step_app0 rfl (.tmp 58) (.tmp 61) 23 rfl wr.heap.size 33 Try.underlying23 obj_info1 (.slice A6 (j + 1) c6) _ _ rfl hown6 _ _ rfl ?_); (try (generalize (if c = j then some (⟨b, off, none⟩ : Addr) else some (⟨b, off + j * 3, none⟩ : Addr)) = q61)))
              | ((go_at_call 107; refine (l1Copy_any _ _ _ (os.take j ++ [o]) _ (OwnR.reads (R := RInts w6) ⟨_, hown6, (Elems.append (((hel.take j (by have := h.1; omega)).mono fun A m xs hx => hx.next (And.right (by assumption)))) (Elems.one (hr5.next (And.right (by assumption))) (by have := hr.1; have := hoo.len; simp only [maxLen]; omega) (by have := hoo.txt; simp only [maxLen]; omega)))⟩ (fun _ _ _ hx => hx)) (by omega) (fun y hy => by have := (ObjOk.of (show y.ok = true from hmem y (by simp at hy ⊢; first | exact hy | exact Or.inl hy | (rcases hy with hy | hy; (exact Or.inl hy); (exact Or.inr (Or.inl hy)))))).len; omega)).mono ?_; rintro e w7 ⟨v7, rfl, hO7, hb7⟩)))
          all_goals
            have b7 : Below wr.heap.size wr w7 := And.right (by assumption)
            go_wp2
            refine bodyPost_ret (v := .tuple #[v7, .bool true]) (by simp [results, Try.results103, go_sem]) rfl ?_
            have hz : wr.heap.size ≤ w6.heap.size := by obtain ⟨g, _, h1, h2⟩ := own_addr hown6 (by omega); omega
            have hO8 := hO7.base (Nat.le_trans b5.size hz)
            have hl8 := OwnR.len hO8
            refine ⟨v7, by rw [HQ.out], ?_, below_ext b5 b7⟩
            rw [HQ.out]
            show OwnO w7 w.heap.size v7 (os.take j ++ [o] ++ os.drop j).length (os.take j ++ [o] ++ os.drop j)
            have hd0 : os.drop j = [] := List.drop_eq_nil_of_le (by have := h.1; omega)
            rw [hd0]
            rw [← hl8] at hO8
            simpa using hO8
        --END
end Go.Proofs.Ytjofgbbofagoiaa
