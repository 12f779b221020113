/- Walks: the reference's PackMake. -/
import Derived.Test.YtkekcgamhhmjnaaPkBest
import Derived.Test.YtkekcgamhhmjnaaCopy
import Derived.Deep.RegionHeld3
namespace Go.Proofs.Ytkekcgamhhmjnaa
open Go.RowKit Go.Sort

/-- a pack, as it is handed back -/
def PackTo (w : World) (os : List Ob) (e : Ending) (w' : World) : Prop := ∃ A n c, e = .returned (.tuple #[.slice A n c, .bool (packP os).2]) ∧ SSl 32 sepPe w.heap.size (Iv w.heap.size w'.heap.size) w' A n c (packP os).1 ∧ Below w.heap.size w w'
theorem pe_info1 : (Try.prog.info? 32).map (fun i => (i.zero, i.size, i.bytes)) = some (some (.agg #[.int .i64 0, .slice none 0 0, .int .i64 0, .slice none 0 0]), 4, 64) := by kernel_rfl
theorem packP_no {os : List Ob} (h : packable os = false) : packP os = ([], false) := by unfold packP; rw [h]; rfl
theorem packP_yes {os : List Ob} (h : packable os = true) : packP os = (packTo os os.length, true) := by unfold packP; rw [if_pos h]
theorem packable_bad {os : List Ob} {k : Nat} {o : Ob} (h : os[k]? = some o) (hb : o.ok = false) : packable os = false := by
  unfold packable
  have : os.all Ob.ok = false := by
    rw [List.all_eq_false]
    exact ⟨o, List.mem_of_getElem? h, by simp [hb]⟩
  rw [this, Bool.and_false]
theorem packable_big {os : List Ob} (h : 16 < os.length) : packable os = false := by
  unfold packable
  rw [decide_eq_false (by omega), Bool.false_and]
theorem packable_good {os : List Ob} (h : os.length ≤ 16) (ha : ∀ (j : Nat) (o : Ob), os[j]? = some o → o.ok = true) : packable os = true := by
  unfold packable
  rw [decide_eq_true h, Bool.true_and, List.all_eq_true]
  intro o ho
  obtain ⟨j, hj⟩ := List.mem_iff_getElem?.1 ho
  exact ha j o hj
theorem packTo_snoc {os : List Ob} {k : Nat} {o : Ob} (h : os[k]? = some o) : packTo os (k + 1) = packTo os k ++ [⟨o.k, o.xs, (bestTo o.t (os.map Ob.t) ((packTo os k).map Pe.b) k).1, (bestTo o.t (os.map Ob.t) ((packTo os k).map Pe.b) k).2⟩] := by
  rw [packTo, show os.getD k ⟨0, [], ⟨#[]⟩⟩ = o by simp [List.getD, h]]
theorem below_tr {B : Nat} {w0 w w' : World} (h : Below B w0 w) (h' : Below B w w') : Below B w0 w' := h.trans h'
theorem own_apart {w : World} {B B' n n' s s' : Nat} {e e' : TypeId} {v v' : Value} {xs xs' : List Value} (h : w.ownsRow B e s v n xs) (h' : w.ownsRow B' e' s' v' n' xs') (hne : e ≠ e') (b : Nat) (h1 : v.ownBlock = some b) (h2 : v'.ownBlock = some b) : False := by
  rcases h'.2 with ⟨rfl, _⟩ | ⟨g, cap, cur, rfl, _, hh, _⟩
  · cases h2
  · have hB : Blk w g e' cur.toList := by unfold Blk; simpa using hh
    exact own_ne_blk h hB hne (h1.trans h2.symm)
/-- an entry whose links and operations are the call's own -/
theorem pe_made {W : World} {lo m c5 n7 c7 : Nat} {A5 A7 : Option Addr} {x : Pe} (h5 : W.ownsRow lo 3 1 (.slice A5 m c5) m (ints x.xs)) (h7 : OwnD W lo A7 n7 c7 x.ops) (ht : ∀ o ∈ x.ops, o.tx.size ≤ maxLen) :
    sepPe.V lo (Iv lo W.heap.size) W [.int .i64 x.k, .slice A5 m c5, .int .i64 x.b, .slice A7 n7 c7] x :=
  sepPe_mk (S1 := fun b => Iv lo W.heap.size b ∧ (Value.slice A5 m c5).ownBlock = some b) (S2 := fun b => Iv lo W.heap.size b ∧ (Value.slice A7 n7 c7).ownBlock = some b) (fun _ h => h.1) (fun _ h => h.1)
    (fun b h h' => own_apart h5 h7 (by decide) b h.2 h'.2) (SSl.of_ints h5 fun b h1 h2 h3 => ⟨⟨h1, h2⟩, h3⟩) (h7.ssl ht fun b h1 h2 h3 => ⟨⟨h1, h2⟩, h3⟩)
theorem pe_push {w2 Wl : World} {lo F k c2 m c5 n7 c7 : Nat} {A2 A5 A7 : Option Addr} {ps : List Pe} (x : Pe) (hS : SSl 32 sepPe lo (Iv lo F) w2 A2 k c2 ps) (hF : F ≤ w2.heap.size) (hlo : lo ≤ w2.heap.size) (hb : Below w2.heap.size w2 Wl)
    (h5 : Wl.ownsRow w2.heap.size 3 1 (.slice A5 m c5) m (ints x.xs)) (h7 : OwnD Wl w2.heap.size A7 n7 c7 x.ops) (ht : ∀ o ∈ x.ops, o.tx.size ≤ maxLen) :
    ∃ cs0, (Wl.alloc (.cells #[.int .i64 x.k, .slice A5 m c5, .int .i64 x.b, .slice A7 n7 c7] 32)).ownsRow lo 32 4 (.slice A2 k c2) k cs0 ∧
      (∀ (j : Nat) (u : Value), [.int .i64 x.k, .slice A5 m c5, .int .i64 x.b, .slice A7 n7 c7][j]? = some u → (Wl.alloc (.cells #[.int .i64 x.k, .slice A5 m c5, .int .i64 x.b, .slice A7 n7 c7] 32)).cell? ((⟨Wl.heap.size, 0, none⟩ : Addr).add j) = some u) ∧
      lo ≤ (Wl.alloc (.cells #[.int .i64 x.k, .slice A5 m c5, .int .i64 x.b, .slice A7 n7 c7] 32)).heap.size ∧
      ∀ (A' : Option Addr) (c' : Nat) (w' : World), w'.ownsRow lo 32 4 (.slice A' (k + 1) c') (k + 1) (cs0 ++ [.int .i64 x.k, .slice A5 m c5, .int .i64 x.b, .slice A7 n7 c7]) →
        (Wl.alloc (.cells #[.int .i64 x.k, .slice A5 m c5, .int .i64 x.b, .slice A7 n7 c7] 32)).grownBy w' (Value.slice A2 k c2).ownBlock →
        ((Value.slice A' (k + 1) c').ownBlock = (Value.slice A2 k c2).ownBlock ∨ (Value.slice A' (k + 1) c').ownBlock = some (Wl.alloc (.cells #[.int .i64 x.k, .slice A5 m c5, .int .i64 x.b, .slice A7 n7 c7] 32)).heap.size) →
        SSl 32 sepPe lo (Iv lo w'.heap.size) w' A' (k + 1) c' (ps ++ [x]) := by
  obtain ⟨cs0, hown, hgrow⟩ := hS.grow
  have ba := below_box Wl (.cells #[.int .i64 x.k, .slice A5 m c5, .int .i64 x.b, .slice A7 n7 c7] 32)
  have bW := below_ext hb ba
  have hv := pe_made h5 h7 ht
  have hv2 := sepPe.down (sepPe.kept hv fun b hb => ba.block b hb.2) hlo
  have hz1 := hb.size
  have hz2 := bW.size
  have hz3 := ba.size
  refine ⟨cs0, own_below hown bW, (Blk.new Wl _ [.int .i64 x.k, .slice A5 m c5, .int .i64 x.b, .slice A7 n7 c7]).cellsAt, Nat.le_trans hlo hz2, fun A' c' w' ho hg hloc => ?_⟩
  have hz4 := hg.size
  refine hgrow _ w' _ x _ (Iv lo w'.heap.size) A' c' (fun b hb => bW.block b (Nat.lt_of_lt_of_le hb.2 hF)) (fun b hb => Nat.lt_of_lt_of_le hb.2 (Nat.le_trans hF hz2)) (fun b hb hh => ?_) (fun b hb => Nat.lt_of_lt_of_le hb.2 hz3) (fun b hb => ⟨hb.1, Nat.lt_of_lt_of_le hb.2 (by omega)⟩) (fun b hb => ⟨Nat.le_trans hlo hb.1, Nat.lt_of_lt_of_le hb.2 (by omega)⟩) (fun hh => ⟨Nat.le_trans hlo hz2, hh⟩) hv2 ho hg hloc
  have h1 := hb.1
  have h2 := hh.2
  omega
set_option maxRecDepth 100000 in
set_option maxHeartbeats 1600000 in
theorem specPackMake_any (A : Option Addr) (n c : Nat) (os : List Ob) (w : World) (h : RObjs w A n os) (hn : n ≤ maxLen) :
    Calls Try.prog 12 #[.slice A n c] w (PackTo w os) := by
  have hl := h.1
  have hn0 := hn
  unfold maxLen at hn0
  have E0 := Blk.new w 32 []
  have b0 := below_box w (.cells #[] 32)
  have bad : ∀ w1, packable os = false → Below w.heap.size w w1 → PackTo w os (.returned (.tuple #[.slice (some ⟨w1.heap.size, 0, none⟩) 0 0, .bool false])) (w1.alloc (.cells #[] 32)) := fun w1 hp hb => by
    unfold PackTo
    rw [packP_no hp]
    exact ⟨_, 0, 0, rfl, SSl.emp (Blk.new w1 _ []) hb.size ⟨hb.size, by simp⟩, below_ext hb (below_box w1 _)⟩
  have BAD := Lib.hid bad
  clear bad
  go_enter Try.func12, Try.ntmps12
  go_wp2_with fail
  go_loopw [4, 5] (fun v i wr => ∃ (k : Nat) (A2 : Option Addr) (c2 : Nat), k ≤ n ∧ v = .slice A2 k c2 ∧ i = .int .i64 k ∧ SSl 32 sepPe w.heap.size (Iv w.heap.size wr.heap.size) wr A2 k c2 (packTo os k) ∧ Hid (∀ (j : Nat) (o : Ob), j < k → os[j]? = some o → o.ok = true) ∧ (0 < k → n ≤ 16) ∧ Below w.heap.size w wr) (fun _ i _ => n - (intOf i).toNat)
  case atStart => exact ⟨0, _, 0, Nat.zero_le _, rfl, rfl, SSl.emp E0 (Nat.le_refl _) ⟨Nat.le_refl _, by simp⟩, Lib.hid fun j o hj => absurd hj (by omega), fun hh => absurd hh (by omega), b0⟩
  case round =>
    obtain ⟨k, A2, c2, hk, rfl, rfl, hSS, HG, h16, hbr⟩ := hrel
    by_cases hlt : k < n
    · obtain ⟨b, off, o, rfl, hb0w, hx, hob⟩ := h.at_ hlt
      obtain ⟨B', m', d', c0w, c1w, c2w, hriw, hm', ht⟩ := hob
      have hb : b < wr.heap.size := Nat.lt_of_lt_of_le hb0w hbr.size
      have c0 : wr.cell? ⟨b, off + k * 3, none⟩ = some (.int .i64 o.k) := (hbr.cell (p := ⟨b, off + k * 3, none⟩) hb0w).trans c0w
      have c1 : wr.cell? ⟨b, off + k * 3 + 1, none⟩ = some (.slice B' m' d') := (hbr.cell (p := ⟨b, off + k * 3 + 1, none⟩) hb0w).trans c1w
      have c2' : wr.cell? ⟨b, off + k * 3 + 1 + 1, none⟩ = some (.string o.t) := (hbr.cell (p := ⟨b, off + k * 3 + 1 + 1, none⟩) hb0w).trans c2w
      have hri : RInts wr B' m' o.xs := hriw.below hbr (Nat.le_refl _)
      have HX := Lib.hid hx
      clear hx
      cases hok : o.ok
      · have hp := Lib.hid (packable_bad HX.out hok)
        have hok' : objOkB o.k o.xs o.t = false := hok
        go_wp2_with fail
        refine (specValid_any o.k B' m' d' o.xs o.t wr hri hm').mono ?_
        rw [hok']
        rintro e w1 ⟨rfl, hb1⟩
        go_wp2_with fail
        refine bodyPost_ret (v := .tuple #[.slice (some ⟨w1.heap.size, 0, none⟩) 0 0, .bool false]) (by simp [results, Try.results12, go_sem]) rfl ?_
        exact BAD.out w1 hp.out (below_ext hbr hb1)
      · have hok' : objOkB o.k o.xs o.t = true := hok
        go_wp2_with fail
        refine (specValid_any o.k B' m' d' o.xs o.t wr hri hm').mono ?_
        rw [hok']
        rintro e w1 ⟨rfl, hb1⟩
        have b1 := below_ext hbr hb1
        by_cases hn16 : n ≤ 16
        · have hd16 : decide ((n : Int) > 16) = false := decide_eq_false (by omega)
          have hd16' : decide (16 < (n : Int)) = false := decide_eq_false (by omega)
          have hS1 := hSS.next hb1 (fun b hb => hb.2)
          have hcell1 : w1.cell? ⟨b, off + k * 3, none⟩ = some (.int .i64 o.k) := (hb1.cell (p := ⟨b, off + k * 3, none⟩) hb).trans c0
          have hcell2 : w1.cell? ⟨b, off + k * 3 + 1, none⟩ = some (.slice B' m' d') := (hb1.cell (p := ⟨b, off + k * 3 + 1, none⟩) hb).trans c1
          have hcell3 : w1.cell? ⟨b, off + k * 3 + 2, none⟩ = some (.string o.t) := (hb1.cell (p := ⟨b, off + k * 3 + 2, none⟩) hb).trans c2'
          have hcell3' : w1.cell? ⟨b, off + k * 3 + 1 + 1, none⟩ = some (.string o.t) := hcell3
          have hri1 := hri.next hb1
          have hbw1 : b < w1.heap.size := Nat.lt_of_lt_of_le hb hb1.size
          clear hok'
          go_wp2_with fail
          refine (l3Best_any A2 (some ⟨b, off, none⟩) k c2 n c (packTo os k) os o.t w1 (hS1.reads.down (Nat.zero_le _)) (by omega) (h.next b1) hn hk (packTo_okB os k)).mono ?_
          rintro e w2 ⟨rfl, hb2⟩
          have hrg := bestTo_range (t := o.t) (ts := os.map Ob.t) (bs := (packTo os k).map Pe.b) k
          have HPS := packTo_snoc HX.out
          have HOPS := bestTo_ops (t := o.t) (ts := os.map Ob.t) (bs := (packTo os k).map Pe.b) k
          generalize hG : bestTo o.t (os.map Ob.t) ((packTo os k).map Pe.b) k = G at *
          obtain ⟨bi, bo⟩ := G
          simp only at hrg HPS HOPS ⊢
          clear hG
          have b2 := below_ext b1 hb2
          have hS2 := hS1.next hb2 (fun b hb => Nat.lt_of_lt_of_le hb.2 hb1.size)
          have h2c1 : w2.cell? ⟨b, off + k * 3, none⟩ = some (.int .i64 o.k) := (hb2.cell (p := ⟨b, off + k * 3, none⟩) hbw1).trans hcell1
          have h2c2 : w2.cell? ⟨b, off + k * 3 + 1, none⟩ = some (.slice B' m' d') := (hb2.cell (p := ⟨b, off + k * 3 + 1, none⟩) hbw1).trans hcell2
          have h2c3 : w2.cell? ⟨b, off + k * 3 + 2, none⟩ = some (.string o.t) := (hb2.cell (p := ⟨b, off + k * 3 + 2, none⟩) hbw1).trans hcell3
          have hri2 := hri1.next hb2
          have HP2 := Lib.hid HPS
          clear HPS
          by_cases hbi : 0 ≤ bi
          · obtain ⟨q, rfl⟩ : ∃ q : Nat, bi = q := ⟨bi.toNat, by omega⟩
            have hqk : q < k := by omega
            rw [if_pos hbi, Int.toNat_natCast] at HOPS
            have hbd : decide ((q : Int) ≥ 0) = true := decide_eq_true hbi
            have hbd2 : decide (0 ≤ (q : Int)) = true := decide_eq_true hbi
            obtain ⟨b', off', o', e9, hb', hx', hob'⟩ := (h.next b2).at_ (k := q) (by omega)
            injection e9 with e9
            injection e9 with e91 e92
            subst e91 e92
            obtain ⟨_, _, _, _, _, c23, _, _, _⟩ := hob'
            have c24 : w2.cell? ⟨b, off + q * 3 + 2, none⟩ = some (.string o'.t) := c23
            rw [show (os.map Ob.t).getD q ⟨#[]⟩ = o'.t by simp [List.getD, hx']] at HOPS
            subst HOPS
            have hqi : (q : Int) < (n : Int) := by omega
            have hq0 : (0 : Int) ≤ (q : Int) := by omega
            clear hx' c23
            go_wp2_with fail
            have h5x : ∀ W, Below w.heap.size w W → 0 < m' → ∃ ad, B' = some ad ∧ ∀ (j : Nat) (u : Value), (ints o.xs)[j]? = some u → W.cell? (ad.add j) = some u := fun W hW hm0 => by
              obtain ⟨ad, e, _, hc⟩ := (hriw.below hW (Nat.le_refl _)).2 hm0
              refine ⟨ad, e, fun j u hu => ?_⟩
              rw [ints, List.getElem?_map] at hu
              cases hxx : o.xs[j]? with
              | none => rw [hxx] at hu; cases hu
              | some x => rw [hxx] at hu; rw [hc j x hxx]; exact hu
            have H5X := Lib.hid h5x
            clear h5x
            have hm4 : m' ≤ 4 := by have := (ObjOk.of hok).len; have := hriw.1; omega
            have HML := Lib.hid hriw.1
            have E1 : Blk (w2.alloc (.cells #[] 3)).drew w2.heap.size 3 [] := Blk.new w2 3 []
            have D0 : Below w2.heap.size w2 w2.drew := (Below.refl _ _).drew
            have D1 : Below w2.heap.size w2 (w2.alloc (.cells #[] 3)).drew := (below_box w2 _).drew
            have hF2 : wr.heap.size ≤ w2.heap.size := Nat.le_trans hb1.size hb2.size
            have HT := Lib.hid (fun (y : Dp) (hy : y ∈ dmake o'.t o.t) => (show y.tx.size ≤ maxLen by have := (dmake_small o'.t o.t).2 y hy; simp only [maxLen]; omega))
            have HK2 := Lib.hid (fun (w' : World) (hb' : Below w.heap.size w w') => (⟨⟨(hb'.cell (p := ⟨b, off + k * 3, none⟩) hb0w).trans c0w, (hb'.cell (p := ⟨b, off + k * 3 + 1, none⟩) hb0w).trans c1w, (hb'.cell (p := ⟨b, off + k * 3 + 2, none⟩) hb0w).trans c2w⟩, hb'⟩ : (w'.cell? ⟨b, off + k * 3, none⟩ = some (.int .i64 o.k) ∧ w'.cell? ⟨b, off + k * 3 + 1, none⟩ = some (.slice B' m' d') ∧ w'.cell? ⟨b, off + k * 3 + 2, none⟩ = some (.string o.t)) ∧ Below w.heap.size w w'))
            go_region_held3 (fun w' => (w'.cell? ⟨b, off + k * 3, none⟩ = some (.int .i64 o.k) ∧ w'.cell? ⟨b, off + k * 3 + 1, none⟩ = some (.slice B' m' d') ∧ w'.cell? ⟨b, off + k * 3 + 2, none⟩ = some (.string o.t)) ∧ Below w.heap.size w w')
              (first
                | exact HK2.out _ b2.drew
                | exact HK2.out _ (below_ext (And.right (by assumption)) (below_box _ _))
                | exact HK2.out _ (below_ext b2 bb5)
                | exact HK2.out _ (below_ext b2 bb7)
                | exact HK2.out _ (below_tr (And.right (by assumption)) hb9)
                | exact And.intro (And.left (by assumption)) (And.right (by assumption)))
              (first
                | (refine step_appS rfl (.tmp 48) (.tmp 53) 29 rfl w2.heap.size 3 Try.underlying29 int_info1 rfl (by omega) (by omega) _ 0 [] rfl (own_emp (by first | with_reducible exact E1 | with_reducible exact E2 | with_reducible exact E3) (by first | with_reducible exact Nat.le_refl _ | exact hz7)) _ m' d' (ints o.xs) (by rfl) (by rw [length_ints, HML.out, Nat.mul_one]) (H5X.out _ (And.right (by assumption))) (by simp [ints, Value.oneCell']) m' (by omega) (by omega) (by first | with_reducible exact D1.size | with_reducible exact D2.size | with_reducible exact D3.size) ?_
                   intro A5 c5 w5 hown5a _ hb5 hg5
                   have hown5 : w5.ownsRow w2.heap.size 3 1 (.slice A5 m' c5) m' (ints o.xs) := (by simpa using hown5a)
                   clear hown5a
                   have bb5 : Below w2.heap.size w2 w5 := (by first | with_reducible exact D1.trans hb5 | with_reducible exact D2.trans hb5 | with_reducible exact D3.trans hb5)
                   try (have O5 : OwnD w5 w2.heap.size A7 n7 c7 (dmake o'.t o.t) := World.ownsRow.kept hO7b hg5 (Or.inr (own_ne_blk hO7b E2 (by decide))))
                   try (have O5 : OwnD w5 w2.heap.size A7 n7 c7 (dmake o'.t o.t) := World.ownsRow.kept hO7x hg5 (Or.inr (own_ne_blk hO7x E3 (by decide))))
                   try (have PU := pe_push ⟨o.k, o.xs, (q : Int), dmake o'.t o.t⟩ hS2 hF2 b2.size bb5 hown5 O5 HT.out; obtain ⟨cs0, U1, U2, U3, U4⟩ := PU; have HU4 := Lib.hid U4; clear U4))
                | (go_at_call 35; refine (specDeltaMake_any _ _ _).mono ?_
                   rintro e w7 ⟨A7, n7, c7, rfl, hO7, hb7⟩
                   have bb7 : Below w2.heap.size w2 w7 := (by first | with_reducible exact below_ext D0 hb7 | with_reducible exact below_ext D1 hb7 | with_reducible exact below_ext bb5 hb7)
                   have hO7b : OwnD w7 w2.heap.size A7 n7 c7 (dmake o'.t o.t) := own_base hO7 (by first | with_reducible exact D0.size | with_reducible exact D1.size | with_reducible exact bb5.size)
                   have hz7 := bb7.size
                   have D2 : Below w2.heap.size w2 w7 := bb7
                   have D3 : Below w2.heap.size w2 (w7.alloc (.cells #[] 3)) := below_ext bb7 (below_box w7 _)
                   have E3 : Blk (w7.alloc (.cells #[] 3)) w7.heap.size 3 [] := Blk.new w7 3 []
                   have hO7x : OwnD (w7.alloc (.cells #[] 3)) w2.heap.size A7 n7 c7 (dmake o'.t o.t) := own_below hO7b (below_box w7 _)
                   try (have E2 : Blk w7 w2.heap.size 3 [] := E1.next hb7)
                   try (have M7 : w7.ownsRow w2.heap.size 3 1 (.slice A5 m' c5) m' (ints o.xs) := own_below hown5 hb7)
                   try (have PU := pe_push ⟨o.k, o.xs, (q : Int), dmake o'.t o.t⟩ hS2 hF2 b2.size bb7 M7 hO7b HT.out; obtain ⟨cs0, U1, U2, U3, U4⟩ := PU; have HU4 := Lib.hid U4; clear U4))
                | (refine step_app rfl (.tmp 42) (.tmp 64) 25 rfl w.heap.size 32 Try.underlying25 pe_info1 rfl (by omega) (by omega) _ k cs0 rfl U1 _ 1 1 [.int .i64 o.k, .slice A5 m' c5, .int .i64 (q : Int), .slice A7 n7 c7] (by rfl) rfl U2 (by simp [Value.oneCell']) (by omega) U3 ?_
                   intro A9 c9 w9 hown9 hc9 hb9 hg9 hloc9))
            all_goals
              go_wp2
              go_roundw
              case rel => exact ⟨k + 1, A9, c9, by omega, rfl, by go_num, by rw [HP2.out]; exact HU4.out _ _ _ hown9 hg9 hloc9, Lib.hid (fun j o2 hj ho2 => by
                by_cases hjk : j < k
                · exact HG.out j o2 hjk ho2
                · obtain rfl : j = k := by omega
                  rw [HX.out] at ho2
                  injection ho2 with ho2
                  rw [← ho2]
                  exact hok), fun _ => hn16, And.right (by assumption)⟩
              case measure => simp [intOf]; omega
          · have hbd : decide (bi ≥ 0) = false := decide_eq_false hbi
            have hbd2 : decide (0 ≤ bi) = false := decide_eq_false hbi
            rw [if_neg hbi] at HOPS
            subst HOPS
            go_wp2_with fail
            have h5x : ∀ W, Below w.heap.size w W → 0 < m' → ∃ ad, B' = some ad ∧ ∀ (j : Nat) (u : Value), (ints o.xs)[j]? = some u → W.cell? (ad.add j) = some u := fun W hW hm0 => by
              obtain ⟨ad, e, _, hc⟩ := (hriw.below hW (Nat.le_refl _)).2 hm0
              refine ⟨ad, e, fun j u hu => ?_⟩
              rw [ints, List.getElem?_map] at hu
              cases hxx : o.xs[j]? with
              | none => rw [hxx] at hu; cases hu
              | some x => rw [hxx] at hu; rw [hc j x hxx]; exact hu
            have H5X := Lib.hid h5x
            clear h5x
            have hm4 : m' ≤ 4 := by have := (ObjOk.of hok).len; have := hriw.1; omega
            have HML := Lib.hid hriw.1
            have E1 : Blk (w2.alloc (.cells #[] 3)).drew w2.heap.size 3 [] := Blk.new w2 3 []
            have D0 : Below w2.heap.size w2 w2.drew := (Below.refl _ _).drew
            have D1 : Below w2.heap.size w2 (w2.alloc (.cells #[] 3)).drew := (below_box w2 _).drew
            have hF2 : wr.heap.size ≤ w2.heap.size := Nat.le_trans hb1.size hb2.size
            have HT := Lib.hid (fun (y : Dp) (hy : y ∈ dmake ⟨#[]⟩ o.t) => (show y.tx.size ≤ maxLen by have := (dmake_small ⟨#[]⟩ o.t).2 y hy; simp only [maxLen]; omega))
            have HK2 := Lib.hid (fun (w' : World) (hb' : Below w.heap.size w w') => (⟨⟨(hb'.cell (p := ⟨b, off + k * 3, none⟩) hb0w).trans c0w, (hb'.cell (p := ⟨b, off + k * 3 + 1, none⟩) hb0w).trans c1w, (hb'.cell (p := ⟨b, off + k * 3 + 2, none⟩) hb0w).trans c2w⟩, hb'⟩ : (w'.cell? ⟨b, off + k * 3, none⟩ = some (.int .i64 o.k) ∧ w'.cell? ⟨b, off + k * 3 + 1, none⟩ = some (.slice B' m' d') ∧ w'.cell? ⟨b, off + k * 3 + 2, none⟩ = some (.string o.t)) ∧ Below w.heap.size w w'))
            go_region_held3 (fun w' => (w'.cell? ⟨b, off + k * 3, none⟩ = some (.int .i64 o.k) ∧ w'.cell? ⟨b, off + k * 3 + 1, none⟩ = some (.slice B' m' d') ∧ w'.cell? ⟨b, off + k * 3 + 2, none⟩ = some (.string o.t)) ∧ Below w.heap.size w w')
              (first
                | exact HK2.out _ b2.drew
                | exact HK2.out _ (below_ext (And.right (by assumption)) (below_box _ _))
                | exact HK2.out _ (below_ext b2 bb5)
                | exact HK2.out _ (below_ext b2 bb7)
                | exact HK2.out _ (below_tr (And.right (by assumption)) hb9)
                | exact And.intro (And.left (by assumption)) (And.right (by assumption)))
              (first
                | (refine step_appS rfl (.tmp 48) (.tmp 53) 29 rfl w2.heap.size 3 Try.underlying29 int_info1 rfl (by omega) (by omega) _ 0 [] rfl (own_emp (by first | with_reducible exact E1 | with_reducible exact E2 | with_reducible exact E3) (by first | with_reducible exact Nat.le_refl _ | exact hz7)) _ m' d' (ints o.xs) (by rfl) (by rw [length_ints, HML.out, Nat.mul_one]) (H5X.out _ (And.right (by assumption))) (by simp [ints, Value.oneCell']) m' (by omega) (by omega) (by first | with_reducible exact D1.size | with_reducible exact D2.size | with_reducible exact D3.size) ?_
                   intro A5 c5 w5 hown5a _ hb5 hg5
                   have hown5 : w5.ownsRow w2.heap.size 3 1 (.slice A5 m' c5) m' (ints o.xs) := (by simpa using hown5a)
                   clear hown5a
                   have bb5 : Below w2.heap.size w2 w5 := (by first | with_reducible exact D1.trans hb5 | with_reducible exact D2.trans hb5 | with_reducible exact D3.trans hb5)
                   try (have O5 : OwnD w5 w2.heap.size A7 n7 c7 (dmake ⟨#[]⟩ o.t) := World.ownsRow.kept hO7b hg5 (Or.inr (own_ne_blk hO7b E2 (by decide))))
                   try (have O5 : OwnD w5 w2.heap.size A7 n7 c7 (dmake ⟨#[]⟩ o.t) := World.ownsRow.kept hO7x hg5 (Or.inr (own_ne_blk hO7x E3 (by decide))))
                   try (have PU := pe_push ⟨o.k, o.xs, bi, dmake ⟨#[]⟩ o.t⟩ hS2 hF2 b2.size bb5 hown5 O5 HT.out; obtain ⟨cs0, U1, U2, U3, U4⟩ := PU; have HU4 := Lib.hid U4; clear U4))
                | (go_at_call 35; refine (specDeltaMake_any _ _ _).mono ?_
                   rintro e w7 ⟨A7, n7, c7, rfl, hO7, hb7⟩
                   have bb7 : Below w2.heap.size w2 w7 := (by first | with_reducible exact below_ext D0 hb7 | with_reducible exact below_ext D1 hb7 | with_reducible exact below_ext bb5 hb7)
                   have hO7b : OwnD w7 w2.heap.size A7 n7 c7 (dmake ⟨#[]⟩ o.t) := own_base hO7 (by first | with_reducible exact D0.size | with_reducible exact D1.size | with_reducible exact bb5.size)
                   have hz7 := bb7.size
                   have D2 : Below w2.heap.size w2 w7 := bb7
                   have D3 : Below w2.heap.size w2 (w7.alloc (.cells #[] 3)) := below_ext bb7 (below_box w7 _)
                   have E3 : Blk (w7.alloc (.cells #[] 3)) w7.heap.size 3 [] := Blk.new w7 3 []
                   have hO7x : OwnD (w7.alloc (.cells #[] 3)) w2.heap.size A7 n7 c7 (dmake ⟨#[]⟩ o.t) := own_below hO7b (below_box w7 _)
                   try (have E2 : Blk w7 w2.heap.size 3 [] := E1.next hb7)
                   try (have M7 : w7.ownsRow w2.heap.size 3 1 (.slice A5 m' c5) m' (ints o.xs) := own_below hown5 hb7)
                   try (have PU := pe_push ⟨o.k, o.xs, bi, dmake ⟨#[]⟩ o.t⟩ hS2 hF2 b2.size bb7 M7 hO7b HT.out; obtain ⟨cs0, U1, U2, U3, U4⟩ := PU; have HU4 := Lib.hid U4; clear U4))
                | (refine step_app rfl (.tmp 42) (.tmp 64) 25 rfl w.heap.size 32 Try.underlying25 pe_info1 rfl (by omega) (by omega) _ k cs0 rfl U1 _ 1 1 [.int .i64 o.k, .slice A5 m' c5, .int .i64 bi, .slice A7 n7 c7] (by rfl) rfl U2 (by simp [Value.oneCell']) (by omega) U3 ?_
                   intro A9 c9 w9 hown9 hc9 hb9 hg9 hloc9))
            all_goals
              go_wp2
              go_roundw
              case rel => exact ⟨k + 1, A9, c9, by omega, rfl, by go_num, by rw [HP2.out]; exact HU4.out _ _ _ hown9 hg9 hloc9, Lib.hid (fun j o2 hj ho2 => by
                by_cases hjk : j < k
                · exact HG.out j o2 hjk ho2
                · obtain rfl : j = k := by omega
                  rw [HX.out] at ho2
                  injection ho2 with ho2
                  rw [← ho2]
                  exact hok), fun _ => hn16, And.right (by assumption)⟩
              case measure => simp [intOf]; omega
        · have hd16 : decide ((n : Int) > 16) = true := decide_eq_true (by omega)
          have hd16' : decide (16 < (n : Int)) = true := decide_eq_true (by omega)
          have hp := Lib.hid (packable_big (os := os) (by omega))
          go_wp2_with fail
          refine bodyPost_ret (v := .tuple #[.slice (some ⟨w1.heap.size, 0, none⟩) 0 0, .bool false]) (by simp [results, Try.results12, go_sem]) rfl ?_
          exact BAD.out w1 hp.out b1
    · obtain rfl : k = n := by omega
      go_wp2_with fail
      refine bodyPost_ret (v := .tuple #[.slice A2 k c2, .bool true]) (by simp [results, Try.results12, go_sem]) rfl ?_
      have hp : packable os = true := packable_good (by
        rcases Nat.eq_zero_or_pos k with h0 | h0
        · omega
        · have := h16 h0; omega) (fun j o hj => HG.out j o (by have := (List.getElem?_eq_some_iff.1 hj).1; omega) hj)
      unfold PackTo
      rw [packP_yes hp, hl]
      exact ⟨A2, k, c2, rfl, hSS, hbr⟩
end Go.Proofs.Ytkekcgamhhmjnaa
