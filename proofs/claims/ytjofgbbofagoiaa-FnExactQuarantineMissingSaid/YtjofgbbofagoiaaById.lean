/- Walk: byId: the objects of some lists by their ids. -/
import Derived.Test.YtjofgbbofagoiaaBack
import Derived.Test.YtjofgbbofagoiaaReach
import Derived.Test.YtjofgbbofagoiaaObjs
import Derived.Maps.OwnIn
namespace Go.Proofs.Ytjofgbbofagoiaa
open Go.RowKit Go.Sort Go.Shelf Go.Maps

attribute [local go_sem] Oper.semAt_some

def obV (o : Ob) (B : Option Addr) (m d : Nat) : Value := .agg #[.int .i64 o.k, .slice B m d, .string o.t]
theorem getO_mid {p r : List Ob} {o : Ob} {x : Int} (h : getO p o.id = none) : getO (p ++ [o] ++ r) x = if x = o.id then some o else getO (p ++ r) x := by
  unfold getO at h ⊢
  by_cases e : x = o.id
  · subst e
    rw [if_pos rfl, List.find?_append, List.find?_append, h]
    simp
  · rw [if_neg e, List.find?_append, List.find?_append, List.find?_append]
    have : [o].find? (fun o => decide (o.id = x)) = none := by
      rw [List.find?_cons, decide_eq_false (fun h => e h.symm)]
      rfl
    rw [this, Option.or_none]
theorem OMap.put {w : World} {D : DataW Value} {p r : List Ob} {o : Ob} {B : Option Addr} {m d : Nat} (h : OMap w D (p ++ r)) (hD : IsMap D) (hn : getO p o.id = none) (hr : RInts w B m o.xs) (hm : m ≤ maxLen) :
    OMap w (D.put (.int .i64 o.id) (.held (obV o B m d))) (p ++ [o] ++ r) := fun x hx => by
  have hx0 := h x hx
  rw [getO_mid hn]
  by_cases e : x = o.id
  · subst e
    rw [if_pos rfl]
    exact ⟨has_put_same hD (by trivial) _, B, m, d, atKey_put_same hD (by trivial) _ _, hr, hm⟩
  · rw [if_neg e]
    have hne : Lit.int .i64 x ≠ .int .i64 o.id := fun h => e (by injection h)
    cases hg : getO (p ++ r) x with
    | none =>
      rw [hg] at hx0
      exact ⟨by rw [has_put_other hne]; exact hx0.1, by rw [atKey_put_other hne]; exact hx0.2⟩
    | some y =>
      rw [hg] at hx0
      obtain ⟨h1, B', m', d', h2, h3⟩ := hx0
      exact ⟨by rw [has_put_other hne]; exact h1, B', m', d', by rw [atKey_put_other hne]; exact h2, h3⟩
theorem grown_noneR {a b : World} (h : Below a.heap.size a b) : a.grownBy b none := ⟨h.os, h.tape, h.output, h.size, fun i hi _ => h.block i hi⟩
theorem grownBelowR {a b c : World} {B g : Nat} (h : Below B a b) (hg : b.grownBy c (some g)) (hB : B ≤ g) (hs : B ≤ a.heap.size := by omega) : Below B a c :=
  ⟨hg.os.trans h.os, hg.tape.trans h.tape, hg.output.trans h.output, Nat.le_trans h.size hg.size, fun i hi => (hg.block i (Nat.lt_of_lt_of_le (Nat.lt_of_lt_of_le hi hs) h.size) (fun e => by injection e with e; omega)).trans (h.block i hi)⟩
theorem OMap.start (w : World) : OMap w (.map []) [] := fun x _ => by
  show Maps.has _ _ = false ∧ _
  exact ⟨by simp [Maps.has], by simp [DataW.atKey]⟩
/-- the lists that have come, the last one first -/
def osOf (L : Nat → List Ob) (pre : List Nat) : List Ob := (pre.reverse.map L).flatten
theorem osOf_snoc (L : Nat → List Ob) (pre : List Nat) (x : Nat) : osOf L (pre ++ [x]) = L x ++ osOf L pre := by simp [osOf]
theorem osOf_dn (L : Nat → List Ob) (k : Nat) : osOf L (dn k k) = ((List.range k).map L).flatten := by
  unfold osOf dn
  congr 2
  apply List.ext_getElem
  · simp
  · intro i h1 h2
    simp at h1 h2 ⊢
    omega
theorem store_none {os : List Ob} (h : storeB os = true) {j : Nat} {o : Ob} (ho : os[j]? = some o) : getO (os.take j) o.id = none := by
  unfold getO
  rw [List.find?_eq_none]
  intro p hp e
  have hpw := ((storeB_iff os).1 h).2.1
  obtain ⟨i, hi⟩ := List.mem_iff_getElem?.1 hp
  have hij : i < j := by have := (List.getElem?_eq_some_iff.1 hi).1; rw [List.length_take] at this; omega
  rw [List.getElem?_take_of_lt hij] at hi
  obtain ⟨a1, a2⟩ := List.getElem?_eq_some_iff.1 hi
  obtain ⟨b1, b2⟩ := List.getElem?_eq_some_iff.1 ho
  have := List.pairwise_iff_getElem.1 hpw i j a1 b1 hij
  rw [a2, b2] at this
  have := of_decide_eq_true e
  omega
set_option maxRecDepth 100000 in
set_option maxHeartbeats 4000000 in
theorem byId_any (b cap k : Nat) (V : Nat → Value) (L : Nat → List Ob) (w : World) (hk : k ≤ 100) (hb : b < w.heap.size) (hc : ∀ j, j < k → w.cell? ⟨b, j, none⟩ = some (V j)) (hV : ∀ j, ∃ A n c, V j = .slice A n c ∧ RObjs w A n (L j) ∧ storeB (L j) = true) :
    Calls Try.prog 46 #[.slice (some ⟨b, 0, none⟩) k cap] w fun e w' => e = .returned (.map (some w.heap.size)) ∧ ∃ D nn, w'.ownsMap Try.prog 3 RV w.heap.size nn D ∧ OMap w D ((List.range k).map L).flatten ∧ Below w.heap.size w w' := by
  refine (callsIn_wide (n := 8)).1 ?_
  have hmm := @run_makeMap Try.prog
  refine callsIn_of_wp_marks Try.func46 rfl trivial ?_ rfl
  simp only [Try.ntmps46, List.size_toArray, List.length_cons, List.length_nil, Nat.reduceAdd, Nat.reduceSub, Array.replicate_succ, Array.replicate_zero, List.push_toArray, List.append_toArray, List.nil_append, List.cons_append]
  have hfB : Fence.wide.fn 85 := trivial
  gi_wp2_with (gi_at_call 85; refine (back_in Fence.wide _ trivial rfl _ _ _ _).mono ?_; rintro e w' ⟨rfl, rfl⟩)
  have hM0 := World.ownsMap_made w Try.prog 3 RV
  have hz : (((w.alloc (.map #[] 0)).alloc (.cells #[.map (some w.heap.size)] 74)).alloc (.cells #[.slice (some ⟨b, 0, none⟩) k cap] 105)).heap.size = w.heap.size + 1 + 1 + 1 := by simp
  have cS := (Blk.new (w.alloc (.map #[] 0)) 74 [.map (some w.heap.size)]).alloc (.cells #[.slice (some ⟨b, 0, none⟩) k cap] 105)
  have cN := Blk.new ((w.alloc (.map #[] 0)).alloc (.cells #[.map (some w.heap.size)] 74)) 105 [.slice (some ⟨b, 0, none⟩) k cap]
  have hB0 : Below w.heap.size w (((w.alloc (.map #[] 0)).alloc (.cells #[.map (some w.heap.size)] 74)).alloc (.cells #[.slice (some ⟨b, 0, none⟩) k cap] 105)) := below_box3 _ _ _ _
  have hM1 := (hM0.alloc (.cells #[.map (some w.heap.size)] 74)).alloc (.cells #[.slice (some ⟨b, 0, none⟩) k cap] 105)
  simp only [World.size_alloc] at cS cN
  generalize ((w.alloc (.map #[] 0)).alloc (.cells #[.map (some w.heap.size)] 74)).alloc (.cells #[.slice (some ⟨b, 0, none⟩) k cap] 105) = w0 at *
  refine wpIn_rangeFunc_ownG rfl (by omega) (gf := 112) (lb := #[.pointer (some ⟨w.heap.size + 1 + 1, 0, none⟩)]) rfl trivial (enters_of Try.func112 (by kernel_rfl) rfl)
    (back_stops Fence.wide _ trivial rfl (by omega) (w.heap.size + 1 + 1) w.heap.size b cap k V hk hb w0 (by omega) (by omega) (cN.cell 0) (fun j hj => (hB0.cell (p := ⟨b, j, none⟩) hb).trans (hc j hj))) KpB.trans
    (fun W l o o' h1 h2 h3 h4 => ⟨belowK_b (w := w0) (by omega) W l o o' h1 h2 h3 h4, (grownBy_putObj' W l o').block _ (by have := (Array.getElem?_eq_some_iff.1 h2).1; omega) (fun e => by injection e with e; omega)⟩) (Below.refl _ _) (fun _ => rfl)
    (fun pre W => (Blk W (w.heap.size + 1) 74 [.map (some w.heap.size)] ∧ w0.heap.size ≤ W.heap.size ∧ ∃ D nn, nn ≤ 16 * pre.length ∧ W.ownsMap Try.prog 3 RV w.heap.size nn D ∧ OMap w D (osOf L pre)) ∧ Below w.heap.size w W)
    (fun _ _ _ => False)
    (OwnFrom.and (fun s A B row hs hg hr => ⟨hs.1.grown hg (fun e => by obtain ⟨h1, h2⟩ := hr _ e.symm; omega), by
      obtain ⟨h0, D, nn, h1, h2, h3⟩ := hs.2
      exact ⟨Nat.le_trans h0 hg.size, D, nn, h1, h2.kept hg (fun e => by obtain ⟨h1, h2⟩ := hr _ e.symm; omega), h3⟩⟩) (ownFrom_below (Nat.le_refl _) (by omega)))
    (fun _ _ _ _ _ hs _ _ => hs)
    ⟨⟨cS, Nat.le_refl _, _, 0, by simp, hM1, OMap.start w⟩, hB0⟩
    (fun x => { tmps := #[.slice (some ⟨b, 0, none⟩) k cap, undef, .map none, .pointer (some ⟨w.heap.size + 1, 0, none⟩), undef, V x, undef, undef, .map (some w.heap.size), .slice (some ⟨b, 0, none⟩) k cap, .func (.func 112) #[] #[.pointer (some ⟨w.heap.size + 1 + 1, 0, none⟩)], .int .i64 (x : Int), V x, undef, undef, undef, undef, undef, undef, undef, undef, undef, undef, undef, undef], defers := [] }) ?assign ?body ?done ?stop
  case assign =>
    intro l x W K hK
    gi_wp2
    exact hK
  case body =>
    rintro l pre x W ⟨⟨hc3, hWz, D, nn, hnn, hown, hOM⟩, hB⟩ hlt
    obtain ⟨Ax, nx, cx, hVx, hrx, hsx⟩ := hV x
    have hlx := hrx.1
    have hnx : nx ≤ 16 := by have := ((storeB_iff _).1 hsx).2.2; omega
    have hokx := ((storeB_iff _).1 hsx).1
    have HL := Lib.hid hlx
    have HPL := Lib.hid hlt
    clear hlx hlt
    rw [hVx]
    gi_wp2
    gi_loopw [15] (fun i wr => ∃ (j : Nat) (D : DataW Value) (nn : Nat), j ≤ nx ∧ i = .int .i64 (j : Int) ∧ Blk wr (w.heap.size + 1) 74 [.map (some w.heap.size)] ∧ nn ≤ 16 * pre.length + j ∧ wr.ownsMap Try.prog 3 RV w.heap.size nn D ∧ OMap w D ((L x).take j ++ osOf L pre) ∧ Below w.heap.size w wr ∧ KpB w.heap.size (w.heap.size + 1 + 1) W wr ∧ KeepsFrom w0.heap.size W wr) (fun i _ => nx - (intOf i).toNat)
    case atStart => exact ⟨0, D, nn, Nat.zero_le _, rfl, hc3, by omega, hown, by simpa using hOM, hB, KpB.refl _ _ _, KeepsFrom.refl _ _⟩
    case round =>
      obtain ⟨j, D2, n2, hj, rfl, hbx, hn2, hM2, hO2, hB2, hK2, hF2⟩ := hrel
      by_cases hlt : j < nx
      · have hpre : pre.length ≤ 100 := by have := HPL.out; omega
        obtain ⟨b2, off, o, rfl, hb2, ho, OB, om, od, d0, d1, d2, hri, hom, hot⟩ := hrx.at_ hlt
        have a0 : wr.cell? ⟨b2, off + j * 3, none⟩ = some (.int .i64 o.k) := (hB2.cell (p := ⟨b2, off + j * 3, none⟩) hb2).trans d0
        have a1 : wr.cell? ⟨b2, off + j * 3 + 1, none⟩ = some (.slice OB om od) := (hB2.cell (p := ⟨b2, off + j * 3 + 1, none⟩) hb2).trans d1
        have a2 : wr.cell? ⟨b2, off + j * 3 + 1 + 1, none⟩ = some (.string o.t) := (hB2.cell (p := ⟨b2, off + j * 3 + 1 + 1, none⟩) hb2).trans d2
        have hoko : ObjOk o.k o.xs o.t := ObjOk.of (hokx o (List.mem_of_getElem? ho))
        have hidr : inR o.id := idV_bd hoko
        have HNO := Lib.hid (store_none hsx ho)
        have HTK := Lib.hid (show (L x).take (j + 1) = (L x).take j ++ [o] by
          obtain ⟨q1, q2⟩ := List.getElem?_eq_some_iff.1 ho
          rw [List.take_succ_eq_append_getElem q1, q2])
        have hb22 : b2 < wr.heap.size := Nat.lt_of_lt_of_le hb2 hB2.size
        have hji : (j : Int) < (nx : Int) := by omega
        have bo := below_box wr (.cells #[.int .i64 o.k, .slice OB om od, .string o.t] 33)
        have xo := Blk.new wr 33 [.int .i64 o.k, .slice OB om od, .string o.t]
        have xb := hbx.next bo
        have hM3 := hM2.alloc (.cells #[.int .i64 o.k, .slice OB om od, .string o.t] 33)
        have hB3 := below_ext hB2 bo
        have hW0 : w0.heap.size ≤ wr.heap.size := Nat.le_trans hWz hF2.size
        have hKF : KeepsFrom w0.heap.size wr (wr.alloc (.cells #[.int .i64 o.k, .slice OB om od, .string o.t] 33)) := (KeepsOthers.alloc _ _).from _
        have hKP : KpB w.heap.size (w.heap.size + 1 + 1) wr (wr.alloc (.cells #[.int .i64 o.k, .slice OB om od, .string o.t] 33)) := ⟨bo.mono (by omega), bo.block _ (by omega)⟩
        clear d0 d1 d2 ho
        gi_wp2
        have hfI : Fence.wide.fn 86 := trivial
        have hmix : Try.prog.follows Departure.mixedOrders = true := by kernel_rfl
        generalize hWd : wr.alloc (.cells #[.int .i64 o.k, .slice OB om od, .string o.t] 33) = w4 at *
        clear hWd
        have hsz4 : wr.heap.size < w4.heap.size := xo.lt
        obtain ⟨y0, y1, y2⟩ := xo.cells3
        have yb := xb.cell 0
        have hBd : Below w4.heap.size w4 w4.drew := (Below.refl _ _).drew
        have hriD := hri.below hB3.drew (Nat.le_refl _)
        gi_region_with_o (gi_at_call 86; refine (CallsIn.inRound l (callsIn_wide.2 (id_any o.k OB om od o.xs o.t _ hriD hoko))).mono ?_; rintro e w5 ⟨rfl, hb5⟩; have bz5 := below_ext hBd hb5; obtain ⟨z0, z1, z2⟩ := (xo.next bz5).cells3; have xb5 := xb.next bz5; have zb := xb5.cell 0; have hM5 := hM3.kept (row := none) (grown_noneR bz5) (by simp); obtain ⟨w6, hrun6, hM6, hg6⟩ := hM5.update intKr Try.underlying74 (by simp only [maxLen]; omega) (int_keyr hidr) (show RV (obV o OB om od) = some (.held (obV o OB om od), []) from rfl); have hrun7 := hrun6; simp only [obV, Ob.id] at hrun7)
        all_goals (
          have hb56 : Below w.heap.size w4 w6 := grownBelowR (bz5.mono (by omega)) hg6 (Nat.le_refl _)
          have hk56 : KpB w.heap.size (w.heap.size + 1 + 1) w4 w6 := ⟨hb56, (hg6.block _ (by have := bz5.size; omega) (fun e => by injection e with e; omega)).trans (bz5.block _ (by omega))⟩
          have hf56 : KeepsFrom w0.heap.size w4 w6 := (KeepsFrom.of_grownBy (grown_noneR bz5) (fun j e => by cases e)).trans (KeepsFrom.of_grownBy hg6 (fun j e => by injection e with e; omega))
          have hxb6 := xb5.grown hg6 (fun e => by injection e with e; omega)
          gi_wp2
          go_roundw
          case rel => exact ⟨j + 1, _, n2 + 1, by omega, by go_num, hxb6, by omega, hM6, by rw [HTK.out]; exact hO2.put hM2.isMap HNO.out hri hom, hB3.trans hb56, hK2.trans (hKP.trans hk56), hF2.trans (hKF.trans hf56)⟩
          case measure => simp [intOf]; omega)
      · obtain rfl : j = nx := by omega
        rw [List.take_of_length_le (by rw [HL.out]; exact Nat.le_refl _)] at hO2
        gi_wp2
        exact ⟨hF2, hK2, ⟨hbx, Nat.le_trans hWz hF2.size, D2, n2, by rw [List.length_append]; simp only [List.length_cons, List.length_nil]; omega, hM2, by rw [osOf_snoc]; exact hO2⟩, hB2⟩
  case done =>
    rintro D ys W hD rfl ⟨⟨hc3, _, D1, nn, hnn, hown, hOM⟩, hB⟩ hK
    have hc30 := hc3.cell 0
    gi_wp2
    refine ⟨by simp, .inl ⟨_, _, rfl, run_takeDeferred hK, ?_⟩⟩
    rw [osOf_dn] at hOM
    exact ⟨_, results_tmp rfl _ _ _, rfl, D1, nn, hown.kept (grownBy_putObj' _ D _) (fun e => by injection e with e; omega), hOM, hB.trans (belowK_b (w := w) (Nat.le_refl _) W D _ _ (by omega) hK rfl rfl)⟩
  case stop =>
    rintro D c pre W _ _ h _
    exact h.elim
end Go.Proofs.Ytjofgbbofagoiaa
