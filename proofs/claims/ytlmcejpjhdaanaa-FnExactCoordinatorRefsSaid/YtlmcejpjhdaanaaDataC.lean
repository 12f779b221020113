/- Walks: the laws' helpers on the program's struct types: sizes, copies, comparisons. -/
import Derived.Test.YtlmcejpjhdaanaaGen
import Derived.Test.YtlmcejpjhdaanaaUps
namespace Go.Proofs.Ytlmcejpjhdaanaa
open Go.RowKit Go.Sort

def smallI (xs : List Int) : Prop := xs.length ≤ 1048576
def smallL {α : Type} (S : α → Prop) (xs : List α) : Prop := xs.length ≤ 1048576 ∧ ∀ x ∈ xs, S x
theorem eqI_self (xs : List Int) : eqI xs xs = true := by simp [eqI]
theorem size_setCell (w : World) (p : Addr) (u : Value) : (w.setCell p u).heap.size = w.heap.size := by simp [World.setCell]
theorem size_alloc (w : World) (o : Obj) : (w.alloc o).heap.size = w.heap.size + 1 := by simp
theorem bcell_lt {W w1 : World} (hb : Below W.heap.size W w1) {m : Nat} (hm : m ≤ W.heap.size) : (∀ b o, b < m → w1.cell? ⟨b, o, none⟩ = W.cell? ⟨b, o, none⟩) ∧ (∀ b o, b < m → w1.frozen? ⟨b, o, none⟩ = W.frozen? ⟨b, o, none⟩) :=
  ⟨fun b o h => (bcell hb).1 b o (Nat.lt_of_lt_of_le h hm), fun b o h => (bcell hb).2 b o (Nat.lt_of_lt_of_le h hm)⟩
theorem szIntS_g (A : Option Addr) (n c : Nat) (xs : List Int) (l : Int) (w : World) (h : RSl repInt 0 w A n xs) (hn : n ≤ maxLen) (h0 : 0 ≤ l) (h1 : l ≤ 1048576) :
    Calls Try.prog 44 #[.slice A n c, .int .i64 l] w fun e w' => (∃ v, e = .returned v ∧ IsLeft l (smallI xs) v) ∧ Below w.heap.size w w' :=
  (szIntS_any A n c l w h0 h1 hn).mono fun e w' ⟨he, hw⟩ => ⟨⟨_, he, _, rfl, by
    have := h.1
    unfold szI smallI
    split
    · exact Or.inl (by omega)
    · exact Or.inr ⟨by omega, by omega, by omega⟩⟩, hw ▸ Below.refl _ _⟩
theorem toIntS_g (A : Option Addr) (n c : Nat) (xs : List Int) (w : World) (h : RSl repInt 0 w A n xs) (hs : smallI xs) :
    Calls Try.prog 46 #[.slice A n c] w fun e w' => ∃ B, e = .returned (.slice B n n) ∧ RSl repInt w.heap.size w' B n xs ∧ Below w.heap.size w w' :=
  (toIntS_any A n c xs w h.rints (by have := h.1; unfold smallI at hs; omega)).mono fun e w' ⟨he, hb, hw⟩ => ⟨_, he, RSl.of_blk hb (Nat.le_refl _) h.1.symm, hw⟩
theorem eqIntS_g (A B : Option Addr) (n c m d : Nat) (xs ys : List Int) (w : World) (hx : RSl repInt 0 w A n xs) (hy : RSl repInt 0 w B m ys) (hn : n ≤ maxLen) (hm : m ≤ maxLen) :
    Calls Try.prog 26 #[.slice A n c, .slice B m d] w fun e w' => e = .returned (.bool (eqI xs ys)) ∧ Below w.heap.size w w' := eqIntS_any A B n c m d xs ys w hx.rints hy.rints hn hm
theorem szIntWS_g (A : Option Addr) (n c : Nat) (xs : List Int) (l : Int) (w : World) (h : RSl repIntW 0 w A n xs) (hn : n ≤ maxLen) (h0 : 0 ≤ l) (h1 : l ≤ 1048576) :
    Calls Try.prog 44 #[.slice A n c, .int .i64 l] w fun e w' => (∃ v, e = .returned v ∧ IsLeft l (smallI xs) v) ∧ Below w.heap.size w w' := szIntS_g A n c xs l w h.plain hn h0 h1
theorem toIntWS_g (A : Option Addr) (n c : Nat) (xs : List Int) (w : World) (h : RSl repIntW 0 w A n xs) (hs : smallI xs) :
    Calls Try.prog 46 #[.slice A n c] w fun e w' => ∃ B, e = .returned (.slice B n n) ∧ RSl repIntW w.heap.size w' B n xs ∧ Below w.heap.size w w' :=
  (toIntS_g A n c xs w h.plain hs).mono fun _ _ ⟨B, he, hb, hw⟩ => ⟨B, he, hb.toW h.wf, hw⟩
theorem eqIntWS_g (A B : Option Addr) (n c m d : Nat) (xs ys : List Int) (w : World) (hx : RSl repIntW 0 w A n xs) (hy : RSl repIntW 0 w B m ys) (hn : n ≤ maxLen) (hm : m ≤ maxLen) :
    Calls Try.prog 26 #[.slice A n c, .slice B m d] w fun e w' => e = .returned (.bool (eqI xs ys)) ∧ Below w.heap.size w w' := eqIntS_g A B n c m d xs ys w hx.plain hy.plain hn hm

instance : Inhabited Up := ⟨⟨0, 0, 0⟩⟩
def repUp : Rep Up := repAs (rep2 repInt (rep2 repInt repInt)) fun x => (x.ref, x.old, x.new)
theorem repUp_cells {lo : Nat} {w : World} {cs : List Value} {x : Up} (h : repUp.V lo w cs x) : cs = [.int .i64 x.ref, .int .i64 x.old, .int .i64 x.new] := by
  obtain ⟨c0, e0, rfl, p0, q0⟩ := h
  obtain ⟨c1, e1, rfl, p1, q1⟩ := q0
  have z0 : c0 = [.int .i64 x.ref] := p0
  subst z0
  have z1 : c1 = [.int .i64 x.old] := p1
  subst z1
  have z2 : e1 = [.int .i64 x.new] := q1
  subst z2
  rfl
theorem repUp_mk {lo : Nat} {w : World} {x : Up}  : repUp.V lo w [.int .i64 x.ref, .int .i64 x.old, .int .i64 x.new] x :=
  ⟨[.int .i64 x.ref], [.int .i64 x.old, .int .i64 x.new], rfl, rfl, ⟨[.int .i64 x.old], [.int .i64 x.new], rfl, rfl, rfl⟩⟩
def smallUp (x : Up) : Prop := (x = x)
def eqUp (x y : Up) : Bool := (x.ref == y.ref) && (x.old == y.old) && (x.new == y.new)
theorem eqUp_refl (x : Up) : eqUp x x = true := by simp [eqUp]

theorem RSl.rups {lo n : Nat} {w : World} {A : Option Addr} {us : List Up} (h : RSl repUp lo w A n us) : RUps w A n us :=
  ⟨h.1, fun hn => by
    obtain ⟨b, off, e, hlt, _, hc⟩ := h.2 hn
    refine ⟨b, off, e, hlt, fun i u hu => ?_⟩
    obtain ⟨cs, h1, h2⟩ := hc i u hu
    obtain rfl := repUp_cells h2
    exact ⟨h1 0 _ rfl, h1 1 _ rfl, h1 2 _ rfl⟩⟩

set_option maxHeartbeats 400000 in
theorem szUpdateS_g (A : Option Addr) (n c : Nat) (xs : List Up) (l : Int) (w : World) (h : RSl repUp 0 w A n xs) (hn : n ≤ maxLen) (h0 : 0 ≤ l) (h1 : l ≤ 1048576) :
    Calls Try.prog 115 #[.slice A n c, .int .i64 l] w fun e w' => (∃ v, e = .returned v ∧ IsLeft l (smallL smallUp xs) v) ∧ Below w.heap.size w w' := by
  have hl := h.1
  unfold maxLen at hn
  go_enter Try.func115, Try.ntmps115
  go_wp2
  all_goals go_ret
  · exact ⟨⟨_, rfl, _, rfl, Or.inl (by omega)⟩, Below.refl _ _⟩
  · exact ⟨⟨_, rfl, _, rfl, Or.inr ⟨by omega, by omega, ⟨by omega, fun _ _ => rfl⟩⟩⟩, Below.refl _ _⟩
set_option maxRecDepth 100000 in
set_option maxHeartbeats 3200000 in
theorem toUpdate_g (cs : List Value) (x : Up) (w : World) (hv : repUp.V 0 w cs x) (_hs : smallUp x) :
    Calls Try.prog 118 #[.agg cs.toArray] w fun e w' => ∃ cs', e = .returned (.agg cs'.toArray) ∧ repUp.V w.heap.size w' cs' x ∧ Below w.heap.size w w' := by
  obtain rfl := repUp_cells hv
  have hbx := below_box3 w (.cells #[.int .i64 x.ref, .int .i64 x.old, .int .i64 x.new] 150) (.cells #[.int .i64 0, .int .i64 0, .int .i64 0] 53) (.cells #[.int .i64 0, .int .i64 0, .int .i64 0] 53)
  clear hv
  go_enter Try.func118, Try.ntmps118
  go_wp2_with fail
  refine bodyPost_ret (v := .agg #[.int .i64 x.ref, .int .i64 x.old, .int .i64 x.new]) (by simp [results, Try.results118, go_sem]) rfl ⟨_, rfl, repUp_mk , ?_⟩
  · (repeat (refine Below.setCell ?_ (by first | omega | (simp; omega) | simp) _)); exact below_box3 _ _ _ _
theorem Update_info : (Try.prog.info? 53).map (fun i => (i.zero, i.size, i.bytes)) = some (some (.agg #[.int .i64 0, .int .i64 0, .int .i64 0]), 3, 24) := by kernel_rfl
set_option maxHeartbeats 1600000 in
theorem toUpdateS_g (A : Option Addr) (n c : Nat) (xs : List Up) (w : World) (h : RSl repUp 0 w A n xs) (hs : smallL smallUp xs) :
    Calls Try.prog 116 #[.slice A n c] w fun e w' => ∃ B, e = .returned (.slice B n n) ∧ RSl repUp w.heap.size w' B n xs ∧ Below w.heap.size w w' := by
  have hn : n ≤ 1048576 := by have := hs.1; have := h.1; omega
  have hmk := run_make_rep (P := Try.prog) Try.underlying49 Update_info rfl n (by omega) (by omega)
  go_enter Try.func116, Try.ntmps116
  go_wp2
  go_loopw [4] (fun i wr => ∃ (k : Nat) (css : List (List Value)), k ≤ n ∧ i = .int .i64 k ∧ Laid repUp wr w.heap.size 53 [.int .i64 0, .int .i64 0, .int .i64 0] xs n k css ∧ w.heap.size < wr.heap.size ∧ Below w.heap.size w wr) (fun i _ => n - (intOf i).toNat)
  case atStart => exact ⟨0, [], Nat.zero_le _, rfl, Laid.start w _ _ xs n, by simp, below_box _ _⟩
  case round =>
    obtain ⟨k, css, hk, rfl, hto, hgz, hbr⟩ := hrel
    have hr := h.next hbr
    by_cases hlt : k < n
    · obtain ⟨b, off, x, cs, rfl, hb, hx, hc, hv⟩ := hr.at_ hlt
      have hsm := hs.2 x (List.mem_of_getElem? hx)
      have HX := Lib.hid hx
      have hcall := toUpdate_g cs x wr hv hsm
      clear hx
      obtain rfl := repUp_cells hv
      have c0 : wr.cell? ⟨b, off + k * 3, none⟩ = some (.int .i64 x.ref) := hc 0 _ rfl
      have c1 : wr.cell? ⟨b, off + k * 3 + 1, none⟩ = some (.int .i64 x.old) := hc 1 _ rfl
      have c2 : wr.cell? ⟨b, off + k * 3 + 1 + 1, none⟩ = some (.int .i64 x.new) := hc 2 _ rfl
      clear hc hv
      go_wp2_with fail
      refine hcall.mono ?_
      rintro e w1 ⟨csq, rfl, hv1, hb1⟩
      have hv2 := repUp.down hv1 (Nat.succ_le_of_lt hgz)
      obtain rfl := repUp_cells hv1
      have hto1 := hto.next hb1
      have hsz := hb1.size
      obtain ⟨e0, f0⟩ : w1.cell? ⟨w.heap.size, k * 3, none⟩ = some (.int .i64 0) ∧ w1.frozen? ⟨w.heap.size, k * 3, none⟩ = false := hto1.cell rfl hlt (j := 0) rfl
      obtain ⟨e1, f1⟩ : w1.cell? ⟨w.heap.size, k * 3 + 1, none⟩ = some (.int .i64 0) ∧ w1.frozen? ⟨w.heap.size, k * 3 + 1, none⟩ = false := hto1.cell rfl hlt (j := 1) rfl
      obtain ⟨e2, f2⟩ : w1.cell? ⟨w.heap.size, k * 3 + 2, none⟩ = some (.int .i64 0) ∧ w1.frozen? ⟨w.heap.size, k * 3 + 2, none⟩ = false := hto1.cell rfl hlt (j := 2) rfl
      go_wp2
      go_roundw
      case rel => exact ⟨k + 1, _, by omega, by go_num, hto1.step3 rfl rfl hlt HX.out hv2, by simp; omega, (((below_ext hbr hb1).setCell (p := ⟨w.heap.size, _, none⟩) (Nat.le_refl _) _).setCell (p := ⟨w.heap.size, _, none⟩) (Nat.le_refl _) _).setCell (p := ⟨w.heap.size, _, none⟩) (Nat.le_refl _) _⟩
      case measure => simp [intOf]; omega
    · obtain rfl : k = n := by omega
      go_wp2
      go_ret
      exact ⟨_, rfl, hto.done h.1, hbr⟩
set_option maxHeartbeats 1600000 in
theorem eqUpdate_g (cs cs' : List Value) (x y : Up) (w : World) (hv : repUp.V 0 w cs x) (hv' : repUp.V 0 w cs' y) :
    Calls Try.prog 119 #[.agg cs.toArray, .agg cs'.toArray] w fun e w' => e = .returned (.bool (eqUp x y)) ∧ Below w.heap.size w w' := by
  obtain rfl := repUp_cells hv
  obtain rfl := repUp_cells hv'
  have hbx := below_box2 w (.cells #[.int .i64 x.ref, .int .i64 x.old, .int .i64 x.new] 53) (.cells #[.int .i64 y.ref, .int .i64 y.old, .int .i64 y.new] 53)
  clear hv hv'
  go_enter Try.func119, Try.ntmps119
  cases hk0 : (x.ref != y.ref)
  · have hj0 : (x.ref == y.ref) = true := by simpa using hk0
    cases hk1 : (x.old != y.old)
    · have hj1 : (x.old == y.old) = true := by simpa using hk1
      cases hk2 : (x.new != y.new)
      · have hj2 : (x.new == y.new) = true := by simpa using hk2
        go_wp2_with fail
        go_ret
        exact ⟨ret_bool (by simp [eqUp, hj0, hj1, hj2]), hbx⟩
      · have hj2 : (x.new == y.new) = false := by simpa using hk2
        go_wp2_with fail
        go_ret
        exact ⟨ret_bool (by simp [eqUp, hj2]), hbx⟩
    · have hj1 : (x.old == y.old) = false := by simpa using hk1
      go_wp2_with fail
      go_ret
      exact ⟨ret_bool (by simp [eqUp, hj1]), hbx⟩
  · have hj0 : (x.ref == y.ref) = false := by simpa using hk0
    go_wp2_with fail
    go_ret
    exact ⟨ret_bool (by simp [eqUp, hj0]), hbx⟩
set_option maxHeartbeats 1600000 in
theorem eqUpdateS_g (A B : Option Addr) (n c m d : Nat) (xs ys : List Up) (w : World) (hx : RSl repUp 0 w A n xs) (hy : RSl repUp 0 w B m ys) (hn : n ≤ maxLen) (hm : m ≤ maxLen) :
    Calls Try.prog 117 #[.slice A n c, .slice B m d] w fun e w' => e = .returned (.bool (eqL eqUp xs ys)) ∧ Below w.heap.size w w' := by
  unfold maxLen at hn hm
  by_cases hnm : n = m
  · subst hnm
    go_enter Try.func117, Try.ntmps117
    go_wp2
    go_loopw [5] (fun i wr => ∃ k : Nat, k ≤ n ∧ i = .int .i64 k ∧ Hid (eqL eqUp (xs.take k) (ys.take k) = true) ∧ Below w.heap.size w wr) (fun i _ => n - (intOf i).toNat)
    case atStart => exact ⟨0, Nat.zero_le _, rfl, by show _ = _; simp [eqL], Below.refl _ _⟩
    case round =>
      obtain ⟨k, hk, rfl, hasc, hbr⟩ := hrel
      by_cases hlt : k < n
      · obtain ⟨b, off, x, cs, rfl, hb, hxk, hcx, hvx⟩ := (hx.next hbr).at_ hlt
        obtain ⟨b', off', y, cs', rfl, hb', hyk, hcy, hvy⟩ := (hy.next hbr).at_ hlt
        have HT := Lib.hid (eqL_take (f := eqUp) xs ys k x y hxk hyk)
        have HF := Lib.hid (fun hh => eqL_of_take (f := eqUp) xs ys (k+1) hh)
        have hcall := fun W (q : Below wr.heap.size wr W) => eqUpdate_g cs cs' x y W (repUp.next hvx q) (repUp.next hvy q)
        clear hxk hyk
        obtain rfl := repUp_cells hvx
        obtain rfl := repUp_cells hvy
        have c0 : wr.cell? ⟨b, off + k * 3, none⟩ = some (.int .i64 x.ref) := hcx 0 _ rfl
        have c1 : wr.cell? ⟨b, off + k * 3 + 1, none⟩ = some (.int .i64 x.old) := hcx 1 _ rfl
        have c2 : wr.cell? ⟨b, off + k * 3 + 1 + 1, none⟩ = some (.int .i64 x.new) := hcx 2 _ rfl
        have e0 : wr.cell? ⟨b', off' + k * 3, none⟩ = some (.int .i64 y.ref) := hcy 0 _ rfl
        have e1 : wr.cell? ⟨b', off' + k * 3 + 1, none⟩ = some (.int .i64 y.old) := hcy 1 _ rfl
        have e2 : wr.cell? ⟨b', off' + k * 3 + 1 + 1, none⟩ = some (.int .i64 y.new) := hcy 2 _ rfl
        clear hcx hcy hvx hvy
        cases he : eqUp x y
        · rw [he] at hcall
          go_wp2
          have g0 := cell_regrown c0
          have j0 := cell_regrown e0
          have g1 := cell_regrown c1
          have j1 := cell_regrown e1
          have g2 := cell_regrown c2
          have j2 := cell_regrown e2
          clear c0 e0 c1 e1 c2 e2
          refine wp_region_ext (by kernel_rfl) (by kernel_rfl) ?_
          repeat (go_big_quiet_step ((go_at_call 119; exact rg_below (hcall _ (below_regrown _ _ _)))))
          refine wpQuiet_nil ?_
          intro w1 hb1
          go_wp2
          go_ret
          exact ⟨ret_bool (by
            cases hh : eqL eqUp xs ys
            · rfl
            · have h1 := HF.out hh
              rw [HT.out, he] at h1
              simp at h1), below_ext hbr hb1⟩
        · rw [he] at hcall
          go_wp2
          have g0 := cell_regrown c0
          have j0 := cell_regrown e0
          have g1 := cell_regrown c1
          have j1 := cell_regrown e1
          have g2 := cell_regrown c2
          have j2 := cell_regrown e2
          clear c0 e0 c1 e1 c2 e2
          refine wp_region_ext (by kernel_rfl) (by kernel_rfl) ?_
          repeat (go_big_quiet_step ((go_at_call 119; exact rg_below (hcall _ (below_regrown _ _ _)))))
          refine wpQuiet_nil ?_
          intro w1 hb1
          go_wp2
          go_roundw
          case rel => exact ⟨k + 1, by omega, by go_num, by show _ = _; rw [HT.out, hasc.out]; exact he, below_ext hbr hb1⟩
          case measure => simp [intOf]; omega
      · obtain rfl : k = n := by omega
        rw [List.take_of_length_le (by rw [hx.1]; exact Nat.le_refl _), List.take_of_length_le (by rw [hy.1]; exact Nat.le_refl _)] at hasc
        go_wp2
        go_ret
        exact ⟨ret_bool hasc.out.symm, hbr⟩
  · have hne : ((n : Int) != (m : Int)) = true := by simp; omega
    have : eqL eqUp xs ys = false := by
      cases hh : eqL eqUp xs ys
      · rfl
      · exact absurd (eqL_len _ _ hh) (by rw [hx.1, hy.1]; exact hnm)
    go_enter Try.func117, Try.ntmps117
    go_wp2
    go_ret
    exact ⟨ret_bool this.symm, Below.refl _ _⟩
structure Pt where
  shard : Int
  us : List Up
instance : Inhabited Pt := ⟨⟨0, []⟩⟩
def repPt : Rep Pt := repAs (rep2 repInt (repSl repUp)) fun x => (x.shard, x.us)
theorem repPt_cells {lo : Nat} {w : World} {cs : List Value} {x : Pt} (h : repPt.V lo w cs x) : ∃ B1 m1 d1, cs = [.int .i64 x.shard, .slice B1 m1 d1] ∧ RSl repUp lo w B1 m1 x.us ∧ m1 ≤ maxLen := by
  obtain ⟨c0, e0, rfl, p0, q0⟩ := h
  have z0 : c0 = [.int .i64 x.shard] := p0
  subst z0
  obtain ⟨B1, m1, d1, rfl, r1, s1⟩ := q0
  exact ⟨B1, m1, d1, rfl, r1, s1⟩
theorem repPt_mk {lo : Nat} {w : World} {x : Pt} {B1 : Option Addr} {m1 d1 : Nat} (r1 : RSl repUp lo w B1 m1 x.us) (s1 : m1 ≤ maxLen) : repPt.V lo w [.int .i64 x.shard, .slice B1 m1 d1] x :=
  ⟨[.int .i64 x.shard], [.slice B1 m1 d1], rfl, rfl, ⟨B1, m1, d1, rfl, r1, s1⟩⟩
def smallPt (x : Pt) : Prop := (smallL smallUp) x.us
def eqPt (x y : Pt) : Bool := (x.shard == y.shard) && (eqL eqUp) x.us y.us
theorem eqPt_refl (x : Pt) : eqPt x x = true := by simp [eqPt, eqL_refl eqUp_refl]

set_option maxHeartbeats 1600000 in
theorem szPart_g (cs : List Value) (x : Pt) (l : Int) (w : World) (hv : repPt.V 0 w cs x) (h0 : 0 ≤ l) (h1 : l ≤ 1048576) :
    Calls Try.prog 111 #[.agg cs.toArray, .int .i64 l] w fun e w' => (∃ v, e = .returned v ∧ IsLeft l (smallPt x) v) ∧ Below w.heap.size w w' := by
  obtain ⟨B1, m1, d1, rfl, hr1, hm1⟩ := repPt_cells hv
  have hbx := below_box w (.cells #[.int .i64 x.shard, .slice B1 m1 d1] 141)
  have k1 := hr1.next hbx
  go_enter Try.func111, Try.ntmps111
  clear hv
  go_wp2_with fail
  refine (szUpdateS_g B1 m1 d1 x.us l _ k1 hm1 h0 h1).mono ?_
  rintro e w0 ⟨⟨v0, rfl, r0, rfl, hs0⟩, hb0⟩
  obtain ⟨hc0, hf0⟩ := bcell hb0
  have hbb0 := below_ext hbx hb0
  rcases hs0 with hs0 | ⟨hp0, hl0, hsm0⟩
  · go_wp2_with fail
    go_ret
    exact ⟨⟨_, rfl, _, rfl, Or.inl (by omega)⟩, hbb0⟩
  · skip
    go_wp2_with fail
    go_ret
    exact ⟨⟨_, rfl, _, rfl, Or.inr ⟨by omega, by omega, hsm0⟩⟩, hbb0⟩
set_option maxHeartbeats 1600000 in
theorem szPartS_g (A : Option Addr) (n c : Nat) (xs : List Pt) (l : Int) (w : World) (h : RSl repPt 0 w A n xs) (hn : n ≤ maxLen) (h0 : 0 ≤ l) (h1 : l ≤ 1048576) :
    Calls Try.prog 96 #[.slice A n c, .int .i64 l] w fun e w' => (∃ v, e = .returned v ∧ IsLeft l (smallL smallPt xs) v) ∧ Below w.heap.size w w' := by
  have hn0 := hn
  unfold maxLen at hn0
  by_cases hs : l - n < 0
  · go_enter Try.func96, Try.ntmps96
    go_wp2
    go_ret
    exact ⟨⟨_, rfl, _, rfl, Or.inl (by omega)⟩, Below.refl _ _⟩
  · have hn2 : n ≤ 1048576 := by omega
    go_enter Try.func96, Try.ntmps96
    go_wp2
    go_loopw [1, 5] (fun s i wr => ∃ (k : Nat) (r : Int), k ≤ n ∧ i = .int .i64 k ∧ s = .int .i64 r ∧ 0 ≤ r ∧ r ≤ l ∧ Hid (∀ (j : Nat) (o : Pt), j < k → xs[j]? = some o → smallPt o) ∧ Below w.heap.size w wr) (fun _ i _ => n - (intOf i).toNat)
    case atStart => exact ⟨0, _, Nat.zero_le _, rfl, rfl, by omega, by omega, fun j o hj => absurd hj (by omega), Below.refl _ _⟩
    case round =>
      obtain ⟨k, r, hk, rfl, rfl, hr0, hrl, hsm, hbr⟩ := hrel
      have hr := h.next hbr
      by_cases hlt : k < n
      · obtain ⟨b, off, x, cs, rfl, hb, hx, hc, hv⟩ := hr.at_ hlt
        have HX := Lib.hid hx
        have hcall := szPart_g cs x r wr hv hr0 (by omega)
        clear hx
        obtain ⟨B1, m1, d1, rfl, hr1, hm1⟩ := repPt_cells hv
        have c0 : wr.cell? ⟨b, off + k * 2, none⟩ = some (.int .i64 x.shard) := hc 0 _ rfl
        have c1 : wr.cell? ⟨b, off + k * 2 + 1, none⟩ = some (.slice B1 m1 d1) := hc 1 _ rfl
        clear hc hv
        go_wp2_with fail
        refine hcall.mono ?_
        rintro e w1 ⟨⟨v1, rfl, r1, rfl, hs1⟩, hb1⟩
        rcases hs1 with hs1 | ⟨hp1, hl1, hsm1⟩
        · go_wp2_with fail
          go_ret
          exact ⟨⟨_, rfl, _, rfl, Or.inl (by omega)⟩, below_ext hbr hb1⟩
        · have HS := Lib.hid hsm1
          clear hsm1
          go_wp2_with fail
          go_roundw
          case rel => exact ⟨k + 1, _, by omega, by go_num, rfl, by omega, by omega, fun j o' hj ho' => by
            by_cases hjk : j < k
            · exact hsm.out j o' hjk ho'
            · obtain rfl : j = k := by omega
              rw [HX.out] at ho'; injection ho' with ho'; subst ho'
              exact HS.out, below_ext hbr hb1⟩
          case measure => simp [intOf]; omega
      · obtain rfl : k = n := by omega
        go_wp2
        go_ret
        exact ⟨⟨_, rfl, r, rfl, Or.inr ⟨hr0, hrl, ⟨by rw [h.1]; omega, fun o ho => by
          obtain ⟨j, hj⟩ := List.mem_iff_getElem?.1 ho
          exact hsm.out j o (by have := (List.getElem?_eq_some_iff.1 hj).1; have := h.1; omega) hj⟩⟩⟩, hbr⟩
set_option maxRecDepth 100000 in
set_option maxHeartbeats 3200000 in
theorem toPart_g (cs : List Value) (x : Pt) (w : World) (hv : repPt.V 0 w cs x) (hs : smallPt x) :
    Calls Try.prog 112 #[.agg cs.toArray] w fun e w' => ∃ cs', e = .returned (.agg cs'.toArray) ∧ repPt.V w.heap.size w' cs' x ∧ Below w.heap.size w w' := by
  obtain ⟨B1, m1, d1, rfl, hr1, hm1⟩ := repPt_cells hv
  have hbx := below_box3 w (.cells #[.int .i64 x.shard, .slice B1 m1 d1] 141) (.cells #[.int .i64 0, .slice none 0 0] 51) (.cells #[.int .i64 0, .slice none 0 0] 51)
  have k1 := hr1.next hbx
  have hs1 := hs
  clear hv
  go_enter Try.func112, Try.ntmps112
  go_wp2_with fail
  refine (toUpdateS_g B1 m1 d1 x.us _ (hr1.next (by (repeat (refine Below.setCell ?_ (by first | omega | (simp; omega) | simp) _)); exact below_box3 _ _ _ _)) hs1).mono ?_
  rintro e w0 ⟨B1q, rfl, q1, hb0⟩
  have hz0 := hb0.size
  simp only [size_alloc] at hz0
  obtain ⟨hc0, hf0⟩ := bcell_lt hb0 (m := w.heap.size + 1 + 1 + 1) (by simp only [size_alloc]; omega)
  have q1b := q1.down (lo' := w.heap.size + 3) (by simp only [size_alloc]; omega)
  have hbb0 : Below w.heap.size w w0 := below_ext (by (repeat (refine Below.setCell ?_ (by first | omega | (simp; omega) | simp) _)); exact below_box3 _ _ _ _) hb0
  go_wp2_with fail
  refine bodyPost_ret (v := .agg #[.int .i64 x.shard, .slice B1q m1 m1]) (by simp [results, Try.results112, go_sem, hc0]) rfl ⟨_, rfl, repPt_mk ?_ hm1, ?_⟩
  · refine RSl.down (lo := w.heap.size + 3) ?_ (by omega)
    (repeat (refine RSl.far ?_ (by first | omega | (simp; omega) | simp)))
    exact q1b
  · (repeat (refine Below.setCell ?_ (by first | omega | (simp; omega) | simp) _)); exact hbb0
theorem Part_info : (Try.prog.info? 51).map (fun i => (i.zero, i.size, i.bytes)) = some (some (.agg #[.int .i64 0, .slice none 0 0]), 2, 32) := by kernel_rfl
set_option maxHeartbeats 1600000 in
theorem toPartS_g (A : Option Addr) (n c : Nat) (xs : List Pt) (w : World) (h : RSl repPt 0 w A n xs) (hs : smallL smallPt xs) :
    Calls Try.prog 97 #[.slice A n c] w fun e w' => ∃ B, e = .returned (.slice B n n) ∧ RSl repPt w.heap.size w' B n xs ∧ Below w.heap.size w w' := by
  have hn : n ≤ 1048576 := by have := hs.1; have := h.1; omega
  have hmk := run_make_rep (P := Try.prog) Try.underlying33 Part_info rfl n (by omega) (by omega)
  go_enter Try.func97, Try.ntmps97
  go_wp2
  go_loopw [4] (fun i wr => ∃ (k : Nat) (css : List (List Value)), k ≤ n ∧ i = .int .i64 k ∧ Laid repPt wr w.heap.size 51 [.int .i64 0, .slice none 0 0] xs n k css ∧ w.heap.size < wr.heap.size ∧ Below w.heap.size w wr) (fun i _ => n - (intOf i).toNat)
  case atStart => exact ⟨0, [], Nat.zero_le _, rfl, Laid.start w _ _ xs n, by simp, below_box _ _⟩
  case round =>
    obtain ⟨k, css, hk, rfl, hto, hgz, hbr⟩ := hrel
    have hr := h.next hbr
    by_cases hlt : k < n
    · obtain ⟨b, off, x, cs, rfl, hb, hx, hc, hv⟩ := hr.at_ hlt
      have hsm := hs.2 x (List.mem_of_getElem? hx)
      have HX := Lib.hid hx
      have hcall := toPart_g cs x wr hv hsm
      clear hx
      obtain ⟨B1, m1, d1, rfl, hr1, hm1⟩ := repPt_cells hv
      have c0 : wr.cell? ⟨b, off + k * 2, none⟩ = some (.int .i64 x.shard) := hc 0 _ rfl
      have c1 : wr.cell? ⟨b, off + k * 2 + 1, none⟩ = some (.slice B1 m1 d1) := hc 1 _ rfl
      clear hc hv
      go_wp2_with fail
      refine hcall.mono ?_
      rintro e w1 ⟨csq, rfl, hv1, hb1⟩
      have hv2 := repPt.down hv1 (Nat.succ_le_of_lt hgz)
      obtain ⟨B1q, m1q, d1q, rfl, hr1q, hm1q⟩ := repPt_cells hv1
      have hto1 := hto.next hb1
      have hsz := hb1.size
      obtain ⟨e0, f0⟩ : w1.cell? ⟨w.heap.size, k * 2, none⟩ = some (.int .i64 0) ∧ w1.frozen? ⟨w.heap.size, k * 2, none⟩ = false := hto1.cell rfl hlt (j := 0) rfl
      obtain ⟨e1, f1⟩ : w1.cell? ⟨w.heap.size, k * 2 + 1, none⟩ = some (.slice none 0 0) ∧ w1.frozen? ⟨w.heap.size, k * 2 + 1, none⟩ = false := hto1.cell rfl hlt (j := 1) rfl
      go_wp2
      go_roundw
      case rel => exact ⟨k + 1, _, by omega, by go_num, hto1.step2 rfl rfl hlt HX.out hv2, by simp; omega, ((below_ext hbr hb1).setCell (p := ⟨w.heap.size, _, none⟩) (Nat.le_refl _) _).setCell (p := ⟨w.heap.size, _, none⟩) (Nat.le_refl _) _⟩
      case measure => simp [intOf]; omega
    · obtain rfl : k = n := by omega
      go_wp2
      go_ret
      exact ⟨_, rfl, hto.done h.1, hbr⟩
set_option maxHeartbeats 1600000 in
theorem eqPart_g (cs cs' : List Value) (x y : Pt) (w : World) (hv : repPt.V 0 w cs x) (hv' : repPt.V 0 w cs' y) :
    Calls Try.prog 113 #[.agg cs.toArray, .agg cs'.toArray] w fun e w' => e = .returned (.bool (eqPt x y)) ∧ Below w.heap.size w w' := by
  obtain ⟨B1, m1, d1, rfl, hr1, hm1⟩ := repPt_cells hv
  obtain ⟨B1q, m1q, d1q, rfl, hr1q, hm1q⟩ := repPt_cells hv'
  have hbx := below_box2 w (.cells #[.int .i64 x.shard, .slice B1 m1 d1] 51) (.cells #[.int .i64 y.shard, .slice B1q m1q d1q] 51)
  have k1 := hr1.next hbx
  have k1q := hr1q.next hbx
  clear hv hv'
  go_enter Try.func113, Try.ntmps113
  cases hk0 : (x.shard != y.shard)
  · have hj0 : (x.shard == y.shard) = true := by simpa using hk0
    go_wp2_with fail
    refine (eqUpdateS_g B1 B1q m1 d1 m1q d1q x.us y.us _ k1 k1q hm1 hm1q).mono ?_
    rintro e w0 ⟨rfl, hb0⟩
    have hz0 := hb0.size
    simp only [size_alloc] at hz0
    obtain ⟨hc0, hf0⟩ := bcell_lt hb0 (m := w.heap.size + 1 + 1) (by simp only [size_alloc]; omega)
    have hbb0 := below_ext hbx hb0
    cases hk1 : (eqL eqUp) x.us y.us
    · go_wp2_with fail
      go_ret
      exact ⟨ret_bool (by simp [eqPt, hk1]), hbb0⟩
    · skip
      go_wp2_with fail
      go_ret
      exact ⟨ret_bool (by simp [eqPt, hj0, hk1]), hbb0⟩
  · have hj0 : (x.shard == y.shard) = false := by simpa using hk0
    go_wp2_with fail
    go_ret
    exact ⟨ret_bool (by simp [eqPt, hj0]), hbx⟩
set_option maxHeartbeats 1600000 in
theorem eqPartS_g (A B : Option Addr) (n c m d : Nat) (xs ys : List Pt) (w : World) (hx : RSl repPt 0 w A n xs) (hy : RSl repPt 0 w B m ys) (hn : n ≤ maxLen) (hm : m ≤ maxLen) :
    Calls Try.prog 98 #[.slice A n c, .slice B m d] w fun e w' => e = .returned (.bool (eqL eqPt xs ys)) ∧ Below w.heap.size w w' := by
  unfold maxLen at hn hm
  by_cases hnm : n = m
  · subst hnm
    go_enter Try.func98, Try.ntmps98
    go_wp2
    go_loopw [5] (fun i wr => ∃ k : Nat, k ≤ n ∧ i = .int .i64 k ∧ Hid (eqL eqPt (xs.take k) (ys.take k) = true) ∧ Below w.heap.size w wr) (fun i _ => n - (intOf i).toNat)
    case atStart => exact ⟨0, Nat.zero_le _, rfl, by show _ = _; simp [eqL], Below.refl _ _⟩
    case round =>
      obtain ⟨k, hk, rfl, hasc, hbr⟩ := hrel
      by_cases hlt : k < n
      · obtain ⟨b, off, x, cs, rfl, hb, hxk, hcx, hvx⟩ := (hx.next hbr).at_ hlt
        obtain ⟨b', off', y, cs', rfl, hb', hyk, hcy, hvy⟩ := (hy.next hbr).at_ hlt
        have HT := Lib.hid (eqL_take (f := eqPt) xs ys k x y hxk hyk)
        have HF := Lib.hid (fun hh => eqL_of_take (f := eqPt) xs ys (k+1) hh)
        have hcall := fun W (q : Below wr.heap.size wr W) => eqPart_g cs cs' x y W (repPt.next hvx q) (repPt.next hvy q)
        clear hxk hyk
        obtain ⟨B1, m1, d1, rfl, hr1, hm1⟩ := repPt_cells hvx
        obtain ⟨B1q, m1q, d1q, rfl, hr1q, hm1q⟩ := repPt_cells hvy
        have c0 : wr.cell? ⟨b, off + k * 2, none⟩ = some (.int .i64 x.shard) := hcx 0 _ rfl
        have c1 : wr.cell? ⟨b, off + k * 2 + 1, none⟩ = some (.slice B1 m1 d1) := hcx 1 _ rfl
        have e0 : wr.cell? ⟨b', off' + k * 2, none⟩ = some (.int .i64 y.shard) := hcy 0 _ rfl
        have e1 : wr.cell? ⟨b', off' + k * 2 + 1, none⟩ = some (.slice B1q m1q d1q) := hcy 1 _ rfl
        clear hcx hcy hvx hvy
        cases he : eqPt x y
        · rw [he] at hcall
          go_wp2
          have g0 := cell_regrown c0
          have j0 := cell_regrown e0
          have g1 := cell_regrown c1
          have j1 := cell_regrown e1
          clear c0 e0 c1 e1
          refine wp_region_ext (by kernel_rfl) (by kernel_rfl) ?_
          repeat (go_big_quiet_step ((go_at_call 113; exact rg_below (hcall _ (below_regrown _ _ _)))))
          refine wpQuiet_nil ?_
          intro w1 hb1
          go_wp2
          go_ret
          exact ⟨ret_bool (by
            cases hh : eqL eqPt xs ys
            · rfl
            · have h1 := HF.out hh
              rw [HT.out, he] at h1
              simp at h1), below_ext hbr hb1⟩
        · rw [he] at hcall
          go_wp2
          have g0 := cell_regrown c0
          have j0 := cell_regrown e0
          have g1 := cell_regrown c1
          have j1 := cell_regrown e1
          clear c0 e0 c1 e1
          refine wp_region_ext (by kernel_rfl) (by kernel_rfl) ?_
          repeat (go_big_quiet_step ((go_at_call 113; exact rg_below (hcall _ (below_regrown _ _ _)))))
          refine wpQuiet_nil ?_
          intro w1 hb1
          go_wp2
          go_roundw
          case rel => exact ⟨k + 1, by omega, by go_num, by show _ = _; rw [HT.out, hasc.out]; exact he, below_ext hbr hb1⟩
          case measure => simp [intOf]; omega
      · obtain rfl : k = n := by omega
        rw [List.take_of_length_le (by rw [hx.1]; exact Nat.le_refl _), List.take_of_length_le (by rw [hy.1]; exact Nat.le_refl _)] at hasc
        go_wp2
        go_ret
        exact ⟨ret_bool hasc.out.symm, hbr⟩
  · have hne : ((n : Int) != (m : Int)) = true := by simp; omega
    have : eqL eqPt xs ys = false := by
      cases hh : eqL eqPt xs ys
      · rfl
      · exact absurd (eqL_len _ _ hh) (by rw [hx.1, hy.1]; exact hnm)
    go_enter Try.func98, Try.ntmps98
    go_wp2
    go_ret
    exact ⟨ret_bool this.symm, Below.refl _ _⟩
structure Tx where
  ps : List Pt
  vs : List Int
  dec : Int
instance : Inhabited Tx := ⟨⟨[], [], 0⟩⟩
def repTx : Rep Tx := repAs (rep2 (repSl repPt) (rep2 (repSl repIntW) repInt)) fun x => (x.ps, x.vs, x.dec)
theorem repTx_cells {lo : Nat} {w : World} {cs : List Value} {x : Tx} (h : repTx.V lo w cs x) : ∃ B0 m0 d0 B1 m1 d1, cs = [.slice B0 m0 d0, .slice B1 m1 d1, .int .i64 x.dec] ∧ RSl repPt lo w B0 m0 x.ps ∧ m0 ≤ maxLen ∧ RSl repIntW lo w B1 m1 x.vs ∧ m1 ≤ maxLen := by
  obtain ⟨c0, e0, rfl, p0, q0⟩ := h
  obtain ⟨c1, e1, rfl, p1, q1⟩ := q0
  obtain ⟨B0, m0, d0, rfl, r0, s0⟩ := p0
  obtain ⟨B1, m1, d1, rfl, r1, s1⟩ := p1
  have z2 : e1 = [.int .i64 x.dec] := q1
  subst z2
  exact ⟨B0, m0, d0, B1, m1, d1, rfl, r0, s0, r1, s1⟩
theorem repTx_mk {lo : Nat} {w : World} {x : Tx} {B0 B1 : Option Addr} {m0 d0 m1 d1 : Nat} (r0 : RSl repPt lo w B0 m0 x.ps) (s0 : m0 ≤ maxLen) (r1 : RSl repIntW lo w B1 m1 x.vs) (s1 : m1 ≤ maxLen) : repTx.V lo w [.slice B0 m0 d0, .slice B1 m1 d1, .int .i64 x.dec] x :=
  ⟨[.slice B0 m0 d0], [.slice B1 m1 d1, .int .i64 x.dec], rfl, ⟨B0, m0, d0, rfl, r0, s0⟩, ⟨[.slice B1 m1 d1], [.int .i64 x.dec], rfl, ⟨B1, m1, d1, rfl, r1, s1⟩, rfl⟩⟩
def smallTx (x : Tx) : Prop := (smallL smallPt) x.ps ∧ smallI x.vs
def eqTx (x y : Tx) : Bool := (eqL eqPt) x.ps y.ps && eqI x.vs y.vs && (x.dec == y.dec)
theorem eqTx_refl (x : Tx) : eqTx x x = true := by simp [eqTx, eqL_refl eqPt_refl, eqI_self]

set_option maxHeartbeats 1600000 in
theorem szTxn_g (cs : List Value) (x : Tx) (l : Int) (w : World) (hv : repTx.V 0 w cs x) (h0 : 0 ≤ l) (h1 : l ≤ 1048576) :
    Calls Try.prog 67 #[.agg cs.toArray, .int .i64 l] w fun e w' => (∃ v, e = .returned v ∧ IsLeft l (smallTx x) v) ∧ Below w.heap.size w w' := by
  obtain ⟨B0, m0, d0, B1, m1, d1, rfl, hr0, hm0, hr1, hm1⟩ := repTx_cells hv
  have hbx := below_box w (.cells #[.slice B0 m0 d0, .slice B1 m1 d1, .int .i64 x.dec] 97)
  have k0 := hr0.next hbx
  have k1 := hr1.next hbx
  go_enter Try.func67, Try.ntmps67
  clear hv
  go_wp2_with fail
  refine (szPartS_g B0 m0 d0 x.ps l _ k0 hm0 h0 h1).mono ?_
  rintro e w0 ⟨⟨v0, rfl, r0, rfl, hs0⟩, hb0⟩
  obtain ⟨hc0, hf0⟩ := bcell hb0
  have hbb0 := below_ext hbx hb0
  rcases hs0 with hs0 | ⟨hp0, hl0, hsm0⟩
  · go_wp2_with fail
    go_ret
    exact ⟨⟨_, rfl, _, rfl, Or.inl (by omega)⟩, hbb0⟩
  · skip
    go_wp2_with fail
    refine (szIntWS_g B1 m1 d1 x.vs r0 _ (k1.next hb0) hm1 hp0 (by omega)).mono ?_
    rintro e w1 ⟨⟨v1, rfl, r1, rfl, hs1⟩, hb1⟩
    obtain ⟨hc1, hf1⟩ := bcell hb1
    have hbb1 := below_ext hbb0 hb1
    rcases hs1 with hs1 | ⟨hp1, hl1, hsm1⟩
    · go_wp2_with fail
      go_ret
      exact ⟨⟨_, rfl, _, rfl, Or.inl (by omega)⟩, hbb1⟩
    · skip
      go_wp2_with fail
      go_ret
      exact ⟨⟨_, rfl, _, rfl, Or.inr ⟨by omega, by omega, ⟨hsm0, hsm1⟩⟩⟩, hbb1⟩
set_option maxHeartbeats 1600000 in
theorem szTxnS_g (A : Option Addr) (n c : Nat) (xs : List Tx) (l : Int) (w : World) (h : RSl repTx 0 w A n xs) (hn : n ≤ maxLen) (h0 : 0 ≤ l) (h1 : l ≤ 1048576) :
    Calls Try.prog 43 #[.slice A n c, .int .i64 l] w fun e w' => (∃ v, e = .returned v ∧ IsLeft l (smallL smallTx xs) v) ∧ Below w.heap.size w w' := by
  have hn0 := hn
  unfold maxLen at hn0
  by_cases hs : l - n < 0
  · go_enter Try.func43, Try.ntmps43
    go_wp2
    go_ret
    exact ⟨⟨_, rfl, _, rfl, Or.inl (by omega)⟩, Below.refl _ _⟩
  · have hn2 : n ≤ 1048576 := by omega
    go_enter Try.func43, Try.ntmps43
    go_wp2
    go_loopw [1, 5] (fun s i wr => ∃ (k : Nat) (r : Int), k ≤ n ∧ i = .int .i64 k ∧ s = .int .i64 r ∧ 0 ≤ r ∧ r ≤ l ∧ Hid (∀ (j : Nat) (o : Tx), j < k → xs[j]? = some o → smallTx o) ∧ Below w.heap.size w wr) (fun _ i _ => n - (intOf i).toNat)
    case atStart => exact ⟨0, _, Nat.zero_le _, rfl, rfl, by omega, by omega, fun j o hj => absurd hj (by omega), Below.refl _ _⟩
    case round =>
      obtain ⟨k, r, hk, rfl, rfl, hr0, hrl, hsm, hbr⟩ := hrel
      have hr := h.next hbr
      by_cases hlt : k < n
      · obtain ⟨b, off, x, cs, rfl, hb, hx, hc, hv⟩ := hr.at_ hlt
        have HX := Lib.hid hx
        have hcall := szTxn_g cs x r wr hv hr0 (by omega)
        clear hx
        obtain ⟨B0, m0, d0, B1, m1, d1, rfl, hr0, hm0, hr1, hm1⟩ := repTx_cells hv
        have c0 : wr.cell? ⟨b, off + k * 3, none⟩ = some (.slice B0 m0 d0) := hc 0 _ rfl
        have c1 : wr.cell? ⟨b, off + k * 3 + 1, none⟩ = some (.slice B1 m1 d1) := hc 1 _ rfl
        have c2 : wr.cell? ⟨b, off + k * 3 + 1 + 1, none⟩ = some (.int .i64 x.dec) := hc 2 _ rfl
        clear hc hv
        go_wp2_with fail
        refine hcall.mono ?_
        rintro e w1 ⟨⟨v1, rfl, r1, rfl, hs1⟩, hb1⟩
        rcases hs1 with hs1 | ⟨hp1, hl1, hsm1⟩
        · go_wp2_with fail
          go_ret
          exact ⟨⟨_, rfl, _, rfl, Or.inl (by omega)⟩, below_ext hbr hb1⟩
        · have HS := Lib.hid hsm1
          clear hsm1
          go_wp2_with fail
          go_roundw
          case rel => exact ⟨k + 1, _, by omega, by go_num, rfl, by omega, by omega, fun j o' hj ho' => by
            by_cases hjk : j < k
            · exact hsm.out j o' hjk ho'
            · obtain rfl : j = k := by omega
              rw [HX.out] at ho'; injection ho' with ho'; subst ho'
              exact HS.out, below_ext hbr hb1⟩
          case measure => simp [intOf]; omega
      · obtain rfl : k = n := by omega
        go_wp2
        go_ret
        exact ⟨⟨_, rfl, r, rfl, Or.inr ⟨hr0, hrl, ⟨by rw [h.1]; omega, fun o ho => by
          obtain ⟨j, hj⟩ := List.mem_iff_getElem?.1 ho
          exact hsm.out j o (by have := (List.getElem?_eq_some_iff.1 hj).1; have := h.1; omega) hj⟩⟩⟩, hbr⟩
set_option maxRecDepth 100000 in
set_option maxHeartbeats 3200000 in
theorem toTxn_g (cs : List Value) (x : Tx) (w : World) (hv : repTx.V 0 w cs x) (hs : smallTx x) :
    Calls Try.prog 68 #[.agg cs.toArray] w fun e w' => ∃ cs', e = .returned (.agg cs'.toArray) ∧ repTx.V w.heap.size w' cs' x ∧ Below w.heap.size w w' := by
  obtain ⟨B0, m0, d0, B1, m1, d1, rfl, hr0, hm0, hr1, hm1⟩ := repTx_cells hv
  have hbx := below_box3 w (.cells #[.slice B0 m0 d0, .slice B1 m1 d1, .int .i64 x.dec] 97) (.cells #[.slice none 0 0, .slice none 0 0, .int .i64 0] 35) (.cells #[.slice none 0 0, .slice none 0 0, .int .i64 0] 35)
  have k0 := hr0.next hbx
  have k1 := hr1.next hbx
  obtain ⟨hs0, hs1⟩ := hs
  clear hv
  go_enter Try.func68, Try.ntmps68
  go_wp2_with fail
  refine (toPartS_g B0 m0 d0 x.ps _ (hr0.next (by (repeat (refine Below.setCell ?_ (by first | omega | (simp; omega) | simp) _)); exact below_box3 _ _ _ _)) hs0).mono ?_
  rintro e w0 ⟨B0q, rfl, q0, hb0⟩
  have hz0 := hb0.size
  simp only [size_alloc] at hz0
  obtain ⟨hc0, hf0⟩ := bcell_lt hb0 (m := w.heap.size + 1 + 1 + 1) (by simp only [size_alloc]; omega)
  have q0b := q0.down (lo' := w.heap.size + 3) (by simp only [size_alloc]; omega)
  have hbb0 : Below w.heap.size w w0 := below_ext (by (repeat (refine Below.setCell ?_ (by first | omega | (simp; omega) | simp) _)); exact below_box3 _ _ _ _) hb0
  go_wp2_with fail
  refine (toIntWS_g B1 m1 d1 x.vs _ (hr1.next (by (repeat (refine Below.setCell ?_ (by first | omega | (simp; omega) | simp) _)); exact hbb0)) hs1).mono ?_
  rintro e w1 ⟨B1q, rfl, q1, hb1⟩
  have hz1 := hb1.size
  simp only [size_setCell] at hz1
  obtain ⟨hc1, hf1⟩ := bcell_lt hb1 (m := w.heap.size + 1 + 1 + 1) (by simp only [size_setCell]; omega)
  have q1b := q1.down (lo' := w.heap.size + 3) (by simp only [size_setCell]; omega)
  have hbb1 : Below w.heap.size w w1 := below_ext (by (repeat (refine Below.setCell ?_ (by first | omega | (simp; omega) | simp) _)); exact hbb0) hb1
  go_wp2_with fail
  refine bodyPost_ret (v := .agg #[.slice B0q m0 m0, .slice B1q m1 m1, .int .i64 x.dec]) (by simp [results, Try.results68, go_sem, hc0, hc1]) rfl ⟨_, rfl, repTx_mk ?_ hm0 ?_ hm1, ?_⟩
  · refine RSl.down (lo := w.heap.size + 3) ?_ (by omega)
    (repeat (refine RSl.far ?_ (by first | omega | (simp; omega) | simp)))
    refine RSl.next ?_ hb1
    (repeat (refine RSl.far ?_ (by first | omega | (simp; omega) | simp)))
    exact q0b
  · refine RSl.down (lo := w.heap.size + 3) ?_ (by omega)
    (repeat (refine RSl.far ?_ (by first | omega | (simp; omega) | simp)))
    exact q1b
  · (repeat (refine Below.setCell ?_ (by first | omega | (simp; omega) | simp) _)); exact hbb1
theorem Txn_info : (Try.prog.info? 35).map (fun i => (i.zero, i.size, i.bytes)) = some (some (.agg #[.slice none 0 0, .slice none 0 0, .int .i64 0]), 3, 56) := by kernel_rfl
set_option maxHeartbeats 1600000 in
theorem toTxnS_g (A : Option Addr) (n c : Nat) (xs : List Tx) (w : World) (h : RSl repTx 0 w A n xs) (hs : smallL smallTx xs) :
    Calls Try.prog 45 #[.slice A n c] w fun e w' => ∃ B, e = .returned (.slice B n n) ∧ RSl repTx w.heap.size w' B n xs ∧ Below w.heap.size w w' := by
  have hn : n ≤ 1048576 := by have := hs.1; have := h.1; omega
  have hmk := run_make_rep (P := Try.prog) Try.underlying23 Txn_info rfl n (by omega) (by omega)
  go_enter Try.func45, Try.ntmps45
  go_wp2
  go_loopw [4] (fun i wr => ∃ (k : Nat) (css : List (List Value)), k ≤ n ∧ i = .int .i64 k ∧ Laid repTx wr w.heap.size 35 [.slice none 0 0, .slice none 0 0, .int .i64 0] xs n k css ∧ w.heap.size < wr.heap.size ∧ Below w.heap.size w wr) (fun i _ => n - (intOf i).toNat)
  case atStart => exact ⟨0, [], Nat.zero_le _, rfl, Laid.start w _ _ xs n, by simp, below_box _ _⟩
  case round =>
    obtain ⟨k, css, hk, rfl, hto, hgz, hbr⟩ := hrel
    have hr := h.next hbr
    by_cases hlt : k < n
    · obtain ⟨b, off, x, cs, rfl, hb, hx, hc, hv⟩ := hr.at_ hlt
      have hsm := hs.2 x (List.mem_of_getElem? hx)
      have HX := Lib.hid hx
      have hcall := toTxn_g cs x wr hv hsm
      clear hx
      obtain ⟨B0, m0, d0, B1, m1, d1, rfl, hr0, hm0, hr1, hm1⟩ := repTx_cells hv
      have c0 : wr.cell? ⟨b, off + k * 3, none⟩ = some (.slice B0 m0 d0) := hc 0 _ rfl
      have c1 : wr.cell? ⟨b, off + k * 3 + 1, none⟩ = some (.slice B1 m1 d1) := hc 1 _ rfl
      have c2 : wr.cell? ⟨b, off + k * 3 + 1 + 1, none⟩ = some (.int .i64 x.dec) := hc 2 _ rfl
      clear hc hv
      go_wp2_with fail
      refine hcall.mono ?_
      rintro e w1 ⟨csq, rfl, hv1, hb1⟩
      have hv2 := repTx.down hv1 (Nat.succ_le_of_lt hgz)
      obtain ⟨B0q, m0q, d0q, B1q, m1q, d1q, rfl, hr0q, hm0q, hr1q, hm1q⟩ := repTx_cells hv1
      have hto1 := hto.next hb1
      have hsz := hb1.size
      obtain ⟨e0, f0⟩ : w1.cell? ⟨w.heap.size, k * 3, none⟩ = some (.slice none 0 0) ∧ w1.frozen? ⟨w.heap.size, k * 3, none⟩ = false := hto1.cell rfl hlt (j := 0) rfl
      obtain ⟨e1, f1⟩ : w1.cell? ⟨w.heap.size, k * 3 + 1, none⟩ = some (.slice none 0 0) ∧ w1.frozen? ⟨w.heap.size, k * 3 + 1, none⟩ = false := hto1.cell rfl hlt (j := 1) rfl
      obtain ⟨e2, f2⟩ : w1.cell? ⟨w.heap.size, k * 3 + 2, none⟩ = some (.int .i64 0) ∧ w1.frozen? ⟨w.heap.size, k * 3 + 2, none⟩ = false := hto1.cell rfl hlt (j := 2) rfl
      go_wp2
      go_roundw
      case rel => exact ⟨k + 1, _, by omega, by go_num, hto1.step3 rfl rfl hlt HX.out hv2, by simp; omega, (((below_ext hbr hb1).setCell (p := ⟨w.heap.size, _, none⟩) (Nat.le_refl _) _).setCell (p := ⟨w.heap.size, _, none⟩) (Nat.le_refl _) _).setCell (p := ⟨w.heap.size, _, none⟩) (Nat.le_refl _) _⟩
      case measure => simp [intOf]; omega
    · obtain rfl : k = n := by omega
      go_wp2
      go_ret
      exact ⟨_, rfl, hto.done h.1, hbr⟩
set_option maxHeartbeats 1600000 in
theorem eqTxn_g (cs cs' : List Value) (x y : Tx) (w : World) (hv : repTx.V 0 w cs x) (hv' : repTx.V 0 w cs' y) :
    Calls Try.prog 69 #[.agg cs.toArray, .agg cs'.toArray] w fun e w' => e = .returned (.bool (eqTx x y)) ∧ Below w.heap.size w w' := by
  obtain ⟨B0, m0, d0, B1, m1, d1, rfl, hr0, hm0, hr1, hm1⟩ := repTx_cells hv
  obtain ⟨B0q, m0q, d0q, B1q, m1q, d1q, rfl, hr0q, hm0q, hr1q, hm1q⟩ := repTx_cells hv'
  have hbx := below_box2 w (.cells #[.slice B0 m0 d0, .slice B1 m1 d1, .int .i64 x.dec] 35) (.cells #[.slice B0q m0q d0q, .slice B1q m1q d1q, .int .i64 y.dec] 35)
  have k0 := hr0.next hbx
  have k0q := hr0q.next hbx
  have k1 := hr1.next hbx
  have k1q := hr1q.next hbx
  clear hv hv'
  go_enter Try.func69, Try.ntmps69
  go_wp2_with fail
  refine (eqPartS_g B0 B0q m0 d0 m0q d0q x.ps y.ps _ k0 k0q hm0 hm0q).mono ?_
  rintro e w0 ⟨rfl, hb0⟩
  have hz0 := hb0.size
  simp only [size_alloc] at hz0
  obtain ⟨hc0, hf0⟩ := bcell_lt hb0 (m := w.heap.size + 1 + 1) (by simp only [size_alloc]; omega)
  have hbb0 := below_ext hbx hb0
  cases hk0 : (eqL eqPt) x.ps y.ps
  · go_wp2_with fail
    go_ret
    exact ⟨ret_bool (by simp [eqTx, hk0]), hbb0⟩
  · skip
    go_wp2_with fail
    refine (eqIntWS_g B1 B1q m1 d1 m1q d1q x.vs y.vs _ (k1.next hb0) (k1q.next hb0) hm1 hm1q).mono ?_
    rintro e w1 ⟨rfl, hb1⟩
    have hz1 := hb1.size
    obtain ⟨hc1, hf1⟩ := bcell_lt hb1 (m := w.heap.size + 1 + 1) (by omega)
    have hbb1 := below_ext hbb0 hb1
    cases hk1 : eqI x.vs y.vs
    · go_wp2_with fail
      go_ret
      exact ⟨ret_bool (by simp [eqTx, hk1]), hbb1⟩
    · skip
      cases hk2 : (x.dec != y.dec)
      · have hj2 : (x.dec == y.dec) = true := by simpa using hk2
        go_wp2_with fail
        go_ret
        exact ⟨ret_bool (by simp [eqTx, hk0, hk1, hj2]), hbb1⟩
      · have hj2 : (x.dec == y.dec) = false := by simpa using hk2
        go_wp2_with fail
        go_ret
        exact ⟨ret_bool (by simp [eqTx, hj2]), hbb1⟩
set_option maxHeartbeats 1600000 in
theorem eqTxnS_g (A B : Option Addr) (n c m d : Nat) (xs ys : List Tx) (w : World) (hx : RSl repTx 0 w A n xs) (hy : RSl repTx 0 w B m ys) (hn : n ≤ maxLen) (hm : m ≤ maxLen) :
    Calls Try.prog 47 #[.slice A n c, .slice B m d] w fun e w' => e = .returned (.bool (eqL eqTx xs ys)) ∧ Below w.heap.size w w' := by
  unfold maxLen at hn hm
  by_cases hnm : n = m
  · subst hnm
    go_enter Try.func47, Try.ntmps47
    go_wp2
    go_loopw [5] (fun i wr => ∃ k : Nat, k ≤ n ∧ i = .int .i64 k ∧ Hid (eqL eqTx (xs.take k) (ys.take k) = true) ∧ Below w.heap.size w wr) (fun i _ => n - (intOf i).toNat)
    case atStart => exact ⟨0, Nat.zero_le _, rfl, by show _ = _; simp [eqL], Below.refl _ _⟩
    case round =>
      obtain ⟨k, hk, rfl, hasc, hbr⟩ := hrel
      by_cases hlt : k < n
      · obtain ⟨b, off, x, cs, rfl, hb, hxk, hcx, hvx⟩ := (hx.next hbr).at_ hlt
        obtain ⟨b', off', y, cs', rfl, hb', hyk, hcy, hvy⟩ := (hy.next hbr).at_ hlt
        have HT := Lib.hid (eqL_take (f := eqTx) xs ys k x y hxk hyk)
        have HF := Lib.hid (fun hh => eqL_of_take (f := eqTx) xs ys (k+1) hh)
        have hcall := fun W (q : Below wr.heap.size wr W) => eqTxn_g cs cs' x y W (repTx.next hvx q) (repTx.next hvy q)
        clear hxk hyk
        obtain ⟨B0, m0, d0, B1, m1, d1, rfl, hr0, hm0, hr1, hm1⟩ := repTx_cells hvx
        obtain ⟨B0q, m0q, d0q, B1q, m1q, d1q, rfl, hr0q, hm0q, hr1q, hm1q⟩ := repTx_cells hvy
        have c0 : wr.cell? ⟨b, off + k * 3, none⟩ = some (.slice B0 m0 d0) := hcx 0 _ rfl
        have c1 : wr.cell? ⟨b, off + k * 3 + 1, none⟩ = some (.slice B1 m1 d1) := hcx 1 _ rfl
        have c2 : wr.cell? ⟨b, off + k * 3 + 1 + 1, none⟩ = some (.int .i64 x.dec) := hcx 2 _ rfl
        have e0 : wr.cell? ⟨b', off' + k * 3, none⟩ = some (.slice B0q m0q d0q) := hcy 0 _ rfl
        have e1 : wr.cell? ⟨b', off' + k * 3 + 1, none⟩ = some (.slice B1q m1q d1q) := hcy 1 _ rfl
        have e2 : wr.cell? ⟨b', off' + k * 3 + 1 + 1, none⟩ = some (.int .i64 y.dec) := hcy 2 _ rfl
        clear hcx hcy hvx hvy
        cases he : eqTx x y
        · rw [he] at hcall
          go_wp2
          have g0 := cell_regrown c0
          have j0 := cell_regrown e0
          have g1 := cell_regrown c1
          have j1 := cell_regrown e1
          have g2 := cell_regrown c2
          have j2 := cell_regrown e2
          clear c0 e0 c1 e1 c2 e2
          refine wp_region_ext (by kernel_rfl) (by kernel_rfl) ?_
          repeat (go_big_quiet_step ((go_at_call 69; exact rg_below (hcall _ (below_regrown _ _ _)))))
          refine wpQuiet_nil ?_
          intro w1 hb1
          go_wp2
          go_ret
          exact ⟨ret_bool (by
            cases hh : eqL eqTx xs ys
            · rfl
            · have h1 := HF.out hh
              rw [HT.out, he] at h1
              simp at h1), below_ext hbr hb1⟩
        · rw [he] at hcall
          go_wp2
          have g0 := cell_regrown c0
          have j0 := cell_regrown e0
          have g1 := cell_regrown c1
          have j1 := cell_regrown e1
          have g2 := cell_regrown c2
          have j2 := cell_regrown e2
          clear c0 e0 c1 e1 c2 e2
          refine wp_region_ext (by kernel_rfl) (by kernel_rfl) ?_
          repeat (go_big_quiet_step ((go_at_call 69; exact rg_below (hcall _ (below_regrown _ _ _)))))
          refine wpQuiet_nil ?_
          intro w1 hb1
          go_wp2
          go_roundw
          case rel => exact ⟨k + 1, by omega, by go_num, by show _ = _; rw [HT.out, hasc.out]; exact he, below_ext hbr hb1⟩
          case measure => simp [intOf]; omega
      · obtain rfl : k = n := by omega
        rw [List.take_of_length_le (by rw [hx.1]; exact Nat.le_refl _), List.take_of_length_le (by rw [hy.1]; exact Nat.le_refl _)] at hasc
        go_wp2
        go_ret
        exact ⟨ret_bool hasc.out.symm, hbr⟩
  · have hne : ((n : Int) != (m : Int)) = true := by simp; omega
    have : eqL eqTx xs ys = false := by
      cases hh : eqL eqTx xs ys
      · rfl
      · exact absurd (eqL_len _ _ hh) (by rw [hx.1, hy.1]; exact hnm)
    go_enter Try.func47, Try.ntmps47
    go_wp2
    go_ret
    exact ⟨ret_bool this.symm, Below.refl _ _⟩
structure Co where
  ts : List Tx
  ord : List Int
instance : Inhabited Co := ⟨⟨[], []⟩⟩
def repCo : Rep Co := repAs (rep2 (repSl repTx) (repSl repInt)) fun x => (x.ts, x.ord)
theorem repCo_cells {lo : Nat} {w : World} {cs : List Value} {x : Co} (h : repCo.V lo w cs x) : ∃ B0 m0 d0 B1 m1 d1, cs = [.slice B0 m0 d0, .slice B1 m1 d1] ∧ RSl repTx lo w B0 m0 x.ts ∧ m0 ≤ maxLen ∧ RSl repInt lo w B1 m1 x.ord ∧ m1 ≤ maxLen := by
  obtain ⟨c0, e0, rfl, p0, q0⟩ := h
  obtain ⟨B0, m0, d0, rfl, r0, s0⟩ := p0
  obtain ⟨B1, m1, d1, rfl, r1, s1⟩ := q0
  exact ⟨B0, m0, d0, B1, m1, d1, rfl, r0, s0, r1, s1⟩
theorem repCo_mk {lo : Nat} {w : World} {x : Co} {B0 B1 : Option Addr} {m0 d0 m1 d1 : Nat} (r0 : RSl repTx lo w B0 m0 x.ts) (s0 : m0 ≤ maxLen) (r1 : RSl repInt lo w B1 m1 x.ord) (s1 : m1 ≤ maxLen) : repCo.V lo w [.slice B0 m0 d0, .slice B1 m1 d1] x :=
  ⟨[.slice B0 m0 d0], [.slice B1 m1 d1], rfl, ⟨B0, m0, d0, rfl, r0, s0⟩, ⟨B1, m1, d1, rfl, r1, s1⟩⟩
def smallCo (x : Co) : Prop := (smallL smallTx) x.ts ∧ smallI x.ord
def eqCo (x y : Co) : Bool := (eqL eqTx) x.ts y.ts && eqI x.ord y.ord
theorem eqCo_refl (x : Co) : eqCo x x = true := by simp [eqCo, eqL_refl eqTx_refl, eqI_self]

set_option maxHeartbeats 1600000 in
theorem szCoordinator_g (cs : List Value) (x : Co) (l : Int) (w : World) (hv : repCo.V 0 w cs x) (h0 : 0 ≤ l) (h1 : l ≤ 1048576) :
    Calls Try.prog 16 #[.agg cs.toArray, .int .i64 l] w fun e w' => (∃ v, e = .returned v ∧ IsLeft l (smallCo x) v) ∧ Below w.heap.size w w' := by
  obtain ⟨B0, m0, d0, B1, m1, d1, rfl, hr0, hm0, hr1, hm1⟩ := repCo_cells hv
  have hbx := below_box w (.cells #[.slice B0 m0 d0, .slice B1 m1 d1] 40)
  have k0 := hr0.next hbx
  have k1 := hr1.next hbx
  go_enter Try.func16, Try.ntmps16
  clear hv
  go_wp2_with fail
  refine (szTxnS_g B0 m0 d0 x.ts l _ k0 hm0 h0 h1).mono ?_
  rintro e w0 ⟨⟨v0, rfl, r0, rfl, hs0⟩, hb0⟩
  obtain ⟨hc0, hf0⟩ := bcell hb0
  have hbb0 := below_ext hbx hb0
  rcases hs0 with hs0 | ⟨hp0, hl0, hsm0⟩
  · go_wp2_with fail
    go_ret
    exact ⟨⟨_, rfl, _, rfl, Or.inl (by omega)⟩, hbb0⟩
  · skip
    go_wp2_with fail
    refine (szIntS_g B1 m1 d1 x.ord r0 _ (k1.next hb0) hm1 hp0 (by omega)).mono ?_
    rintro e w1 ⟨⟨v1, rfl, r1, rfl, hs1⟩, hb1⟩
    obtain ⟨hc1, hf1⟩ := bcell hb1
    have hbb1 := below_ext hbb0 hb1
    rcases hs1 with hs1 | ⟨hp1, hl1, hsm1⟩
    · go_wp2_with fail
      go_ret
      exact ⟨⟨_, rfl, _, rfl, Or.inl (by omega)⟩, hbb1⟩
    · skip
      go_wp2_with fail
      go_ret
      exact ⟨⟨_, rfl, _, rfl, Or.inr ⟨by omega, by omega, ⟨hsm0, hsm1⟩⟩⟩, hbb1⟩
set_option maxRecDepth 100000 in
set_option maxHeartbeats 3200000 in
theorem toCoordinator_g (cs : List Value) (x : Co) (w : World) (hv : repCo.V 0 w cs x) (hs : smallCo x) :
    Calls Try.prog 17 #[.agg cs.toArray] w fun e w' => ∃ cs', e = .returned (.agg cs'.toArray) ∧ repCo.V w.heap.size w' cs' x ∧ Below w.heap.size w w' := by
  obtain ⟨B0, m0, d0, B1, m1, d1, rfl, hr0, hm0, hr1, hm1⟩ := repCo_cells hv
  have hbx := below_box3 w (.cells #[.slice B0 m0 d0, .slice B1 m1 d1] 40) (.cells #[.slice none 0 0, .slice none 0 0] 26) (.cells #[.slice none 0 0, .slice none 0 0] 26)
  have k0 := hr0.next hbx
  have k1 := hr1.next hbx
  obtain ⟨hs0, hs1⟩ := hs
  clear hv
  go_enter Try.func17, Try.ntmps17
  go_wp2_with fail
  refine (toTxnS_g B0 m0 d0 x.ts _ (hr0.next (by (repeat (refine Below.setCell ?_ (by first | omega | (simp; omega) | simp) _)); exact below_box3 _ _ _ _)) hs0).mono ?_
  rintro e w0 ⟨B0q, rfl, q0, hb0⟩
  have hz0 := hb0.size
  simp only [size_alloc] at hz0
  obtain ⟨hc0, hf0⟩ := bcell_lt hb0 (m := w.heap.size + 1 + 1 + 1) (by simp only [size_alloc]; omega)
  have q0b := q0.down (lo' := w.heap.size + 3) (by simp only [size_alloc]; omega)
  have hbb0 : Below w.heap.size w w0 := below_ext (by (repeat (refine Below.setCell ?_ (by first | omega | (simp; omega) | simp) _)); exact below_box3 _ _ _ _) hb0
  go_wp2_with fail
  refine (toIntS_g B1 m1 d1 x.ord _ (hr1.next (by (repeat (refine Below.setCell ?_ (by first | omega | (simp; omega) | simp) _)); exact hbb0)) hs1).mono ?_
  rintro e w1 ⟨B1q, rfl, q1, hb1⟩
  have hz1 := hb1.size
  simp only [size_setCell] at hz1
  obtain ⟨hc1, hf1⟩ := bcell_lt hb1 (m := w.heap.size + 1 + 1 + 1) (by simp only [size_setCell]; omega)
  have q1b := q1.down (lo' := w.heap.size + 3) (by simp only [size_setCell]; omega)
  have hbb1 : Below w.heap.size w w1 := below_ext (by (repeat (refine Below.setCell ?_ (by first | omega | (simp; omega) | simp) _)); exact hbb0) hb1
  go_wp2_with fail
  refine bodyPost_ret (v := .agg #[.slice B0q m0 m0, .slice B1q m1 m1]) (by simp [results, Try.results17, go_sem, hc0, hc1]) rfl ⟨_, rfl, repCo_mk ?_ hm0 ?_ hm1, ?_⟩
  · refine RSl.down (lo := w.heap.size + 3) ?_ (by omega)
    (repeat (refine RSl.far ?_ (by first | omega | (simp; omega) | simp)))
    refine RSl.next ?_ hb1
    (repeat (refine RSl.far ?_ (by first | omega | (simp; omega) | simp)))
    exact q0b
  · refine RSl.down (lo := w.heap.size + 3) ?_ (by omega)
    (repeat (refine RSl.far ?_ (by first | omega | (simp; omega) | simp)))
    exact q1b
  · (repeat (refine Below.setCell ?_ (by first | omega | (simp; omega) | simp) _)); exact hbb1
set_option maxHeartbeats 1600000 in
theorem eqCoordinator_g (cs cs' : List Value) (x y : Co) (w : World) (hv : repCo.V 0 w cs x) (hv' : repCo.V 0 w cs' y) :
    Calls Try.prog 18 #[.agg cs.toArray, .agg cs'.toArray] w fun e w' => e = .returned (.bool (eqCo x y)) ∧ Below w.heap.size w w' := by
  obtain ⟨B0, m0, d0, B1, m1, d1, rfl, hr0, hm0, hr1, hm1⟩ := repCo_cells hv
  obtain ⟨B0q, m0q, d0q, B1q, m1q, d1q, rfl, hr0q, hm0q, hr1q, hm1q⟩ := repCo_cells hv'
  have hbx := below_box2 w (.cells #[.slice B0 m0 d0, .slice B1 m1 d1] 26) (.cells #[.slice B0q m0q d0q, .slice B1q m1q d1q] 26)
  have k0 := hr0.next hbx
  have k0q := hr0q.next hbx
  have k1 := hr1.next hbx
  have k1q := hr1q.next hbx
  clear hv hv'
  go_enter Try.func18, Try.ntmps18
  go_wp2_with fail
  refine (eqTxnS_g B0 B0q m0 d0 m0q d0q x.ts y.ts _ k0 k0q hm0 hm0q).mono ?_
  rintro e w0 ⟨rfl, hb0⟩
  have hz0 := hb0.size
  simp only [size_alloc] at hz0
  obtain ⟨hc0, hf0⟩ := bcell_lt hb0 (m := w.heap.size + 1 + 1) (by simp only [size_alloc]; omega)
  have hbb0 := below_ext hbx hb0
  cases hk0 : (eqL eqTx) x.ts y.ts
  · go_wp2_with fail
    go_ret
    exact ⟨ret_bool (by simp [eqCo, hk0]), hbb0⟩
  · skip
    go_wp2_with fail
    refine (eqIntS_g B1 B1q m1 d1 m1q d1q x.ord y.ord _ (k1.next hb0) (k1q.next hb0) hm1 hm1q).mono ?_
    rintro e w1 ⟨rfl, hb1⟩
    have hz1 := hb1.size
    obtain ⟨hc1, hf1⟩ := bcell_lt hb1 (m := w.heap.size + 1 + 1) (by omega)
    have hbb1 := below_ext hbb0 hb1
    cases hk1 : eqI x.ord y.ord
    · go_wp2_with fail
      go_ret
      exact ⟨ret_bool (by simp [eqCo, hk1]), hbb1⟩
    · skip
      go_wp2_with fail
      go_ret
      exact ⟨ret_bool (by simp [eqCo, hk0, hk1]), hbb1⟩
end Go.Proofs.Ytlmcejpjhdaanaa
