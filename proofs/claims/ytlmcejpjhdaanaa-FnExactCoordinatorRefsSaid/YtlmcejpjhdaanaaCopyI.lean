/- Walks: the program's copies: slices.Clone at parts and updates, copyParts, copyCoordinator. -/
import Derived.Test.YtlmcejpjhdaanaaCoP
import Derived.Test.YtlmcejpjhdaanaaCloneI
import Derived.Lib.SliceRun
namespace Go.Proofs.Ytlmcejpjhdaanaa
open Go.RowKit Go.Sort

set_option maxHeartbeats 1600000 in
theorem clonePt_any (A : Option Addr) (n c : Nat) (xs : List Value) (w : World) (hl : xs.length = n * 2) (h : 0 < n → ∃ ad, A = some ad ∧ ad.block < w.heap.size ∧ ∀ j u, xs[j]? = some u → w.cell? (ad.add j) = some u) (h1 : ∀ u ∈ xs, u.oneCell' = true) (hn : n ≤ 100000000) :
    Calls Try.prog 81 #[.slice A n c] w fun e w' => ∃ B d, e = .returned (.slice B n d) ∧ w'.ownsRow w.heap.size 51 2 (.slice B n d) n xs ∧ Below w.heap.size w w' := by
  have q22 : ∀ (w : World) (a : Option Addr) (n c n' c' : Nat), (binOp .eql 33 (.slice a n c) (.slice none n' c')).run Try.prog w = .ok (.bool a.isNone) w := fun w a n c n' c' => Lib.run_eql_slice_nil w _ _ a n c n' c' Try.underlying33
  cases A with
  | none =>
    have h0 : n = 0 := by
      apply Classical.byContradiction; intro h0
      obtain ⟨ad, e, _⟩ := h (by omega); cases e
    subst h0
    have hxs : xs = [] := List.eq_nil_of_length_eq_zero (by omega)
    go_enter Try.func81, Try.ntmps81
    go_wp2_with fail
    go_ret
    exact ⟨none, 0, rfl, by rw [hxs]; exact own_nil, Below.refl _ _⟩
  | some ad =>
    have E1 := Blk.new w 51 []
    have b1 := below_box w (.cells #[] 51)
    go_enter Try.func81, Try.ntmps81
    go_wp2_with (at_builtin; go_loud (refine wpList_appS rfl (.tmp 5) (.tmp 6) 33 rfl w.heap.size 51 Try.underlying33 part_info1 rfl (by omega) (by omega) _ 0 [] rfl (own_emp E1 (Nat.le_refl _)) _ n c xs rfl hl (fun hn => by
      obtain ⟨ad', e, hlt, hc⟩ := h hn
      exact ⟨ad', e, fun j u hu => (b1.cell (p := ad'.add j) (by rw [block_of_add]; exact hlt)).trans (hc j u hu)⟩) h1 n (by omega) (by omega) b1.size ?_; intro B d w2 hown2 _ hb2 hg2))
    go_ret
    exact ⟨B, d, rfl, by simpa using hown2, b1.trans hb2⟩
set_option maxHeartbeats 1600000 in
theorem cloneUp_any (A : Option Addr) (n c : Nat) (xs : List Value) (w : World) (hl : xs.length = n * 3) (h : 0 < n → ∃ ad, A = some ad ∧ ad.block < w.heap.size ∧ ∀ j u, xs[j]? = some u → w.cell? (ad.add j) = some u) (h1 : ∀ u ∈ xs, u.oneCell' = true) (hn : n ≤ 100000000) :
    Calls Try.prog 82 #[.slice A n c] w fun e w' => ∃ B d, e = .returned (.slice B n d) ∧ w'.ownsRow w.heap.size 53 3 (.slice B n d) n xs ∧ Below w.heap.size w w' := by
  have q22 : ∀ (w : World) (a : Option Addr) (n c n' c' : Nat), (binOp .eql 49 (.slice a n c) (.slice none n' c')).run Try.prog w = .ok (.bool a.isNone) w := fun w a n c n' c' => Lib.run_eql_slice_nil w _ _ a n c n' c' Try.underlying49
  cases A with
  | none =>
    have h0 : n = 0 := by
      apply Classical.byContradiction; intro h0
      obtain ⟨ad, e, _⟩ := h (by omega); cases e
    subst h0
    have hxs : xs = [] := List.eq_nil_of_length_eq_zero (by omega)
    go_enter Try.func82, Try.ntmps82
    go_wp2_with fail
    go_ret
    exact ⟨none, 0, rfl, by rw [hxs]; exact own_nil, Below.refl _ _⟩
  | some ad =>
    have E1 := Blk.new w 53 []
    have b1 := below_box w (.cells #[] 53)
    go_enter Try.func82, Try.ntmps82
    go_wp2_with (at_builtin; go_loud (refine wpList_appS rfl (.tmp 5) (.tmp 6) 49 rfl w.heap.size 53 Try.underlying49 upd_info1 rfl (by omega) (by omega) _ 0 [] rfl (own_emp E1 (Nat.le_refl _)) _ n c xs rfl hl (fun hn => by
      obtain ⟨ad', e, hlt, hc⟩ := h hn
      exact ⟨ad', e, fun j u hu => (b1.cell (p := ad'.add j) (by rw [block_of_add]; exact hlt)).trans (hc j u hu)⟩) h1 n (by omega) (by omega) b1.size ?_; intro B d w2 hown2 _ hb2 hg2))
    go_ret
    exact ⟨B, d, rfl, by simpa using hown2, b1.trans hb2⟩
theorem sz_setI (w : World) (a : Addr) (u : Value) : (w.setCell a u).heap.size = w.heap.size := by simp [World.setCell]
theorem belowSetI {w0 w : World} {b i B : Nat} (h : Below B w0 w) (hb : B ≤ b) (u : Value) : Below B w0 (w.setCell ⟨b, i, none⟩ u) :=
  ⟨h.os, h.tape, h.output, by rw [sz_setI]; exact h.size, fun k hk => (Below.heap_setCell w ⟨b, i, none⟩ u k (by dsimp only; omega)).trans (h.block k hk)⟩
theorem own_setP {w : World} {base g n d size : Nat} {e : TypeId} {xs : List Value} (h : w.ownsRow base e size (.slice (some ⟨g, 0, none⟩) n d) n xs) (i : Nat) (u : Value) :
    (w.setCell ⟨g, i, none⟩ u).ownsRow base e size (.slice (some ⟨g, 0, none⟩) n d) n (xs.set i u) := by
  refine ⟨by rw [List.length_set]; exact h.1, ?_⟩
  rcases h.2 with ⟨h0, _⟩ | ⟨g', cap, cur, hv, hb, hh, h1, h2, h3, h4⟩
  · cases h0
  · injection hv with hv1 _ hv3
    injection hv1 with hv1
    injection hv1 with hv1 _ _
    subst hv1
    subst hv3
    have hB : Blk w g e cur.toList := by unfold Blk; simpa using hh
    have hB' := hB.set_ i u
    unfold Blk at hB'
    exact Or.inr ⟨g, d, (cur.toList.set i u).toArray, rfl, hb, hB', h1, h2, by simpa using h3, by rw [List.toList_toArray, List.take_set, h4]⟩
/-- a part's two cells -/
def pr (p : Value × Value) : List Value := [p.1, p.2]
theorem pr_set : ∀ (l : List (Value × Value)) (k : Nat) (p : Value × Value) (u : Value), l[k]? = some p → ((l.map pr).flatten).set (k * 2 + 1) u = ((l.set k (p.1, u)).map pr).flatten
  | [], _, _, _, h => by simp at h
  | x :: l, 0, p, u, h => by
    simp at h; subst h
    simp [pr]
  | x :: l, k + 1, p, u, h => by
    have ih := pr_set l k p u (by simpa using h)
    rw [List.map_cons, List.flatten_cons, List.set_cons_succ, List.map_cons, List.flatten_cons, ← ih]
    rw [show (k + 1) * 2 + 1 = (k * 2 + 1) + 1 + 1 by omega]
    show (x.1 :: x.2 :: (l.map pr).flatten).set (k * 2 + 1 + 1 + 1) u = x.1 :: x.2 :: ((l.map pr).flatten).set (k * 2 + 1) u
    rw [List.set_cons_succ, List.set_cons_succ]
theorem pr_sz (l : List (Value × Value)) : ∀ cs ∈ l.map pr, cs.length = 2 := fun cs hcs => by
  obtain ⟨x, _, rfl⟩ := List.mem_map.1 hcs
  rfl
theorem pr_len (l : List (Value × Value)) : ((l.map pr).flatten).length = l.length * 2 := by rw [flat_len (pr_sz l), List.length_map]
theorem pr_get {l : List (Value × Value)} {k : Nat} {p : Value × Value} (h : l[k]? = some p) : ((l.map pr).flatten)[k * 2]? = some p.1 ∧ ((l.map pr).flatten)[k * 2 + 1]? = some p.2 := by
  have h0 := flat_get (pr_sz l) k 0 (pr p) [] (by rw [List.getElem?_map, h]; rfl) (by omega)
  have h1 := flat_get (pr_sz l) k 1 (pr p) [] (by rw [List.getElem?_map, h]; rfl) (by omega)
  rw [List.append_nil] at h0 h1
  exact ⟨h0, h1⟩
/-- the cells of parts that can be read -/
theorem RSl.ptCells {lo n : Nat} {w : World} {A : Option Addr} {ps : List Pt} (h : RSl repPt lo w A n ps) : ∃ l : List (Value × Value), l.length = n ∧ (0 < n → ∃ ad, A = some ad ∧ ad.block < w.heap.size ∧ ∀ j u, ((l.map pr).flatten)[j]? = some u → w.cell? (ad.add j) = some u) ∧
    ∀ (k : Nat) (p : Pt), ps[k]? = some p → ∃ U m e, l[k]? = some (.int .i64 p.shard, .slice U m e) ∧ RSl repUp lo w U m p.us ∧ m ≤ maxLen := by
  have hl := h.1
  by_cases hn : 0 < n
  · obtain ⟨b, off, e, hb, _, hc⟩ := h.2 hn
    have hf : ∀ i : Nat, ∃ q : Value × Value, ∀ x, ps[i]? = some x → (w.cell? ⟨b, off + i * 2, none⟩ = some q.1 ∧ w.cell? ⟨b, off + i * 2 + 1, none⟩ = some q.2 ∧ ∃ U m e, q = (.int .i64 x.shard, .slice U m e) ∧ RSl repUp lo w U m x.us ∧ m ≤ maxLen) := fun i => by
      cases hx : ps[i]? with
      | none => exact ⟨(.int .i64 0, .int .i64 0), fun x hx' => by cases hx'⟩
      | some x =>
        obtain ⟨cs, h1, h2⟩ := hc i x hx
        obtain ⟨U, m, e, rfl, h3, h4⟩ := repPt_cells h2
        exact ⟨(.int .i64 x.shard, .slice U m e), fun y hy => by
          injection hy with hy
          subst hy
          exact ⟨h1 0 _ rfl, h1 1 _ rfl, U, m, e, rfl, h3, h4⟩⟩
    obtain ⟨f, hf⟩ := Classical.axiomOfChoice hf
    have hlk : ∀ k, k < n → ((List.range n).map f)[k]? = some (f k) := fun k hk => by rw [List.getElem?_map, List.getElem?_range hk]; rfl
    refine ⟨(List.range n).map f, by simp, fun _ => ⟨_, e, hb, fun j u hu => ?_⟩, fun k p hp => ?_⟩
    · have hj : j < n * 2 := by
        have := (List.getElem?_eq_some_iff.1 hu).1
        rwa [pr_len, List.length_map, List.length_range] at this
      have hk : j / 2 < ps.length := by omega
      obtain ⟨g1, g2, _⟩ := hf (j / 2) _ (List.getElem?_eq_getElem hk)
      obtain ⟨u1, u2⟩ := pr_get (hlk (j / 2) (by omega))
      rw [add_flat]
      rcases Nat.mod_two_eq_zero_or_one j with hm | hm
      · rw [show j / 2 * 2 = j by omega] at u1 g1
        rw [hu] at u1
        injection u1 with u1
        rw [u1]; exact g1
      · rw [show j / 2 * 2 + 1 = j by omega] at u2
        rw [show off + j / 2 * 2 + 1 = off + j by omega] at g2
        rw [hu] at u2
        injection u2 with u2
        rw [u2]; exact g2
    · have hk : k < n := by have := (List.getElem?_eq_some_iff.1 hp).1; omega
      obtain ⟨_, _, U, m, e, h1, h2, h3⟩ := hf k p hp
      exact ⟨U, m, e, by rw [hlk k hk, h1], h2, h3⟩
  · obtain rfl : n = 0 := by omega
    have : ps = [] := List.eq_nil_of_length_eq_zero hl
    subst this
    exact ⟨[], rfl, fun hh => absurd hh (by omega), fun k p hp => by simp at hp⟩
theorem pr_one {n : Nat} {ps : List Pt} {l : List (Value × Value)} (hl : l.length = n) (hn : ps.length = n) (h : ∀ (k : Nat) (p : Pt), ps[k]? = some p → ∃ U m e, l[k]? = some (.int .i64 p.shard, .slice U m e)) : ∀ u ∈ (l.map pr).flatten, u.oneCell' = true := fun u hu => by
  obtain ⟨cs, h1, h2⟩ := List.mem_flatten.1 hu
  obtain ⟨q, hq, rfl⟩ := List.mem_map.1 h1
  obtain ⟨k, hk, rfl⟩ := List.mem_iff_getElem.1 hq
  obtain ⟨U, m, e, h3⟩ := h k _ (List.getElem?_eq_getElem (show k < ps.length by omega))
  rw [List.getElem?_eq_getElem hk] at h3
  injection h3 with h3
  rw [h3] at h2
  simp only [pr, List.mem_cons, List.not_mem_nil, or_false] at h2
  rcases h2 with rfl | rfl <;> rfl
theorem RSl.upNews {lo n : Nat} {w : World} {A : Option Addr} {us : List Up} (h : RSl repUp lo w A n us) (hn : 0 < n) : ∃ ad, A = some ad ∧ ad.block < w.heap.size ∧ ∀ j u, ((us.map upV).flatten)[j]? = some u → w.cell? (ad.add j) = some u := by
  obtain ⟨ad, e, hc⟩ := h.upCells hn
  obtain ⟨b, off, e', hb, _⟩ := h.2 hn
  rw [e'] at e
  injection e with e
  subst e
  exact ⟨_, e', hb, hc⟩

set_option maxRecDepth 100000 in
set_option maxHeartbeats 1600000 in
theorem copyParts_any (A : Option Addr) (n c : Nat) (ps : List Pt) (w : World) (h : RSl repPt 0 w A n ps) (hs : smallU ps) :
    Calls Try.prog 60 #[.slice A n c] w (PartsTo w n ps) := by
  have hl := h.1
  have hn : n ≤ 100000000 := by have := hs.1; omega
  obtain ⟨l0, hl0, hc0, hk0⟩ := h.ptCells
  have hone := pr_one hl0 hl (fun k p hp => by obtain ⟨U, m, e, h1, _⟩ := hk0 k p hp; exact ⟨U, m, e, h1⟩)
  go_enter Try.func60, Try.ntmps60
  go_wp2_with fail
  refine (clonePt_any A n c _ w (by rw [pr_len, hl0]) hc0 hone hn).mono ?_
  rintro e w2 ⟨B, d, rfl, hown, hb2⟩
  have hcase : (B = none ∧ n = 0 ∧ d = 0) ∨ ∃ g, B = some ⟨g, 0, none⟩ ∧ w.heap.size ≤ g ∧ g < w2.heap.size := by
    rcases hown.2 with ⟨h0, _⟩ | ⟨g, cap, cur, hv, hb, hblk, _⟩
    · injection h0 with e1 e2 e3
      exact Or.inl ⟨e1, e2, e3⟩
    · injection hv with e1
      exact Or.inr ⟨g, e1, hb, (Array.getElem?_eq_some_iff.1 hblk).1⟩
  rcases hcase with ⟨rfl, rfl, rfl⟩ | ⟨g, rfl, hgB, hgs⟩
  · have hps : ps = [] := List.eq_nil_of_length_eq_zero hl
    go_wp2_with fail
    go_loopw [9] (fun i wr => i = .int .i64 0 ∧ wr = w2) (fun _ _ => 0)
    case atStart => exact ⟨rfl, rfl⟩
    case round =>
      obtain ⟨rfl, rfl⟩ := hrel
      go_wp2_with fail
      go_ret
      exact ⟨none, 0, rfl, by rw [hps]; exact SSl.nil, hb2⟩
  · go_wp2_with fail
    go_loopw [9] (fun i wr => ∃ (k : Nat) (l : List (Value × Value)), k ≤ n ∧ i = .int .i64 k ∧ l.length = n ∧ wr.ownsRow w.heap.size 51 2 (.slice (some ⟨g, 0, none⟩) n d) n (l.map pr).flatten ∧ (∀ j, k ≤ j → l[j]? = l0[j]?) ∧
        Parts sepPt g wr w.heap.size (Iv w2.heap.size wr.heap.size) ((l.take k).map pr) (ps.take k) ∧ w2.heap.size ≤ wr.heap.size ∧ Below w.heap.size w wr) (fun i _ => n - (intOf i).toNat)
    case atStart => exact ⟨0, l0, Nat.zero_le _, rfl, hl0, hown, fun _ _ => rfl, trivial, Nat.le_refl _, hb2⟩
    case round =>
      obtain ⟨k, l, hk, rfl, hll, hownj, hrest, hP, hz, hbr⟩ := hrel
      by_cases hlt : k < n
      · have hx : ps[k]? = some ps[k] := List.getElem?_eq_getElem (by omega)
        generalize ps[k]'(by omega) = p at hx
        obtain ⟨U, m, e, hlk, hru, hmu⟩ := hk0 k p hx
        have hsu := hs.2 p (List.mem_of_getElem? hx)
        have hul := hru.1
        have hlk' : l[k]? = some (.int .i64 p.shard, .slice U m e) := (hrest k (Nat.le_refl _)).trans hlk
        obtain ⟨_, p1⟩ := pr_get hlk'
        have c1 : wr.cell? ⟨g, k * 2 + 1, none⟩ = some (.slice U m e) := by
          have := hownj.cells (g := g) rfl (k * 2 + 1) _ p1
          rwa [add_flat, Nat.zero_add] at this
        have hru2 := hru.next hbr
        have HT := Lib.hid (show ps.take (k + 1) = ps.take k ++ [p] by
          obtain ⟨h1, h2⟩ := List.getElem?_eq_some_iff.1 hx
          rw [List.take_succ_eq_append_getElem h1, h2])
        clear hx
        go_wp2_with fail
        refine (cloneUp_any U m e (p.us.map upV).flatten wr (by rw [upV_len, hul]) (fun hh => hru2.upNews hh) (upV_one p.us) (by omega)).mono ?_
        rintro e4 w4 ⟨U4, d4, rfl, hown4, hb4⟩
        have hz4 := hb4.size
        have hownj4 := own_belowS hownj hb4
        have hfr : w4.frozen? ⟨g, k * 2 + 1, none⟩ = false := by
          rcases hownj4.2 with ⟨h0, _⟩ | ⟨g', cap, cur, hv, hb, hblk, _⟩
          · cases h0
          · injection hv with hv1
            injection hv1 with hv1
            injection hv1 with hv1
            subst hv1
            exact Blk.frozen (cs := cur.toList) (by unfold Blk; simpa using hblk) _
        have c14 : w4.cell? ⟨g, k * 2 + 1, none⟩ = some (.slice U m e) := (hb4.cell (p := ⟨g, k * 2 + 1, none⟩) (by dsimp only; omega)).trans c1
        have c24 : w4.cell? ⟨g, k * 2 + 1, none⟩ ≠ none := by rw [c14]; simp
        have hown5 := own_setP hownj4 (k * 2 + 1) (.slice U4 m d4)
        rw [pr_set l k _ _ hlk'] at hown5
        have hq4 := SSl.of_flat (r := sepUp) (lo := wr.heap.size) (S := Iv wr.heap.size w4.heap.size) (T := 53) upV (fun x _ => sepUp_mk x) hown4 hul (fun b h1 h2 _ => ⟨h1, h2⟩)
        have hq5 : SSl 53 sepUp w.heap.size (Iv wr.heap.size w4.heap.size) (w4.setCell ⟨g, k * 2 + 1, none⟩ (.slice U4 m d4)) U4 m d4 p.us := (hq4.kept (fun b hb => Below.heap_setCell w4 ⟨g, k * 2 + 1, none⟩ _ b (by have := hb.1; dsimp only; omega))).down hbr.size
        have hP5 : Parts sepPt g (w4.setCell ⟨g, k * 2 + 1, none⟩ (.slice U4 m d4)) w.heap.size (Iv w2.heap.size wr.heap.size) ((l.take k).map pr) (ps.take k) := hP.kept (fun b hb hne => (Below.heap_setCell w4 ⟨g, k * 2 + 1, none⟩ _ b hne).trans (hb4.block b hb.2))
        have hP6 := Parts.snoc (r := sepPt) (S' := Iv w2.heap.size w4.heap.size) (N := Iv wr.heap.size w4.heap.size) hP5 (fun b hb => ⟨hb.1, by have := hb.2; omega⟩) (fun b hb => ⟨by have := hb.1; omega, hb.2⟩) (fun b hb hc => by have := hb.1; have := hc.2; omega) (fun hb => by have := hb.1; omega) (sepPt_mk (p := p) hq5)
        go_wp2_with fail
        go_roundw
        case rel => exact ⟨k + 1, l.set k (.int .i64 p.shard, .slice U4 m d4), by omega, by go_num, by rw [List.length_set]; exact hll, hown5, fun j hj => by rw [List.getElem?_set_ne (by omega)]; exact hrest j (by omega), by
          rw [HT.out, List.take_set, List.take_succ_eq_append_getElem (show k < l.length by omega)]
          have e1 : (l.take k ++ [l[k]'(by omega)]).set k (Value.int .i64 p.shard, Value.slice U4 m d4) = l.take k ++ [(Value.int .i64 p.shard, Value.slice U4 m d4)] := by
            rw [List.set_append_right _ _ (by rw [List.length_take]; omega), List.length_take, Nat.min_eq_left (by omega), Nat.sub_self]
            rfl
          rw [e1, List.map_append]
          rw [sz_setI]
          exact hP6, by rw [sz_setI]; omega, belowSetI (hbr.trans (hb4.mono hbr.size)) hgB _⟩
        case measure => simp [intOf]; omega
      · have hkn : k = n := by omega
        subst hkn
        rw [List.take_of_length_le (by omega), List.take_of_length_le (by omega)] at hP
        go_wp2_with fail
        go_ret
        refine ⟨some ⟨g, 0, none⟩, d, rfl, ⟨hl, Or.inr ⟨g, l.map pr, rfl, ⟨hgB, by omega⟩, hownj, hP.widen (fun b hb => ⟨by have := hb.1; have := hb2.size; omega, hb.2⟩)⟩⟩, hbr⟩

theorem fin_pv {B c0 p d n c : Nat} {P V : Option Addr} {x : Tx} {w7 w8 : World} (hS7 : SSl 51 sepPt c0 (Iv c0 w7.heap.size) w7 P p d x.ps) (hc : B ≤ c0) (hb : Below w7.heap.size w7 w8) (hown : w8.ownsRow w7.heap.size 3 1 (.slice V n c) n (ints x.vs)) (hw : ∀ v ∈ x.vs, wf64 v) (hB : B ≤ w7.heap.size) : Fin B w8 P p d V n c x := by
  have h1 := hb.size
  refine ⟨Iv c0 w7.heap.size, fun b => (Value.slice V n c).ownBlock = some b, fun b hb => ⟨by have := hb.1; omega, by have := hb.2; omega⟩, fun b hb => ⟨by have := (hown.lt b hb).1; omega, (hown.lt b hb).2⟩, fun b hb hv => ?_, (hS7.next hb (fun b hb => hb.2)).down hc, (SSl.of_intsW hown hw (fun b _ _ h => h)).down hB⟩
  have := (hown.lt b hv).1
  have := hb.2
  omega
set_option maxRecDepth 100000 in
set_option maxHeartbeats 3200000 in
theorem copyCo_any (cs : List Value) (q : Co) (w : World) (hv : repCo.V 0 w cs q) (hs : smallQ q) :
    Calls Try.prog 32 #[.agg cs.toArray] w (CoTo w q) := by
  obtain ⟨B0, m0, d0, B1, m1, d1, rfl, hr0, hm0, hr1, hm1⟩ := repCo_cells hv
  have hl0 := hr0.1
  have hl1 := hr1.1
  obtain ⟨hs0, hs1, hs2⟩ := hs
  have b2 : Below w.heap.size w ((w.alloc (.cells #[.slice B0 m0 d0, .slice B1 m1 d1] 26)).alloc (.cells #[.slice none 0 0, .slice none 0 0] 26)) := below_ext (below_box w _) (below_box _ _)
  have x0 : Blk ((w.alloc (.cells #[.slice B0 m0 d0, .slice B1 m1 d1] 26)).alloc (.cells #[.slice none 0 0, .slice none 0 0] 26)) w.heap.size 26 [.slice B0 m0 d0, .slice B1 m1 d1] := (Blk.new w _ _).alloc _
  have x1 : Blk ((w.alloc (.cells #[.slice B0 m0 d0, .slice B1 m1 d1] 26)).alloc (.cells #[.slice none 0 0, .slice none 0 0] 26)) (w.heap.size + 1) 26 [.slice none 0 0, .slice none 0 0] := by simpa using Blk.new (w.alloc (.cells #[.slice B0 m0 d0, .slice B1 m1 d1] 26)) 26 [.slice none 0 0, .slice none 0 0]
  have z2 : ((w.alloc (.cells #[.slice B0 m0 d0, .slice B1 m1 d1] 26)).alloc (.cells #[.slice none 0 0, .slice none 0 0] 26)).heap.size = w.heap.size + 2 := by simp
  have hri := hr1.rints.next b2
  obtain ⟨y0, y1⟩ := x0.cells2
  go_enter Try.func32, Try.ntmps32
  go_wp2_with fail
  generalize hW2 : ((w.alloc (.cells #[.slice B0 m0 d0, .slice B1 m1 d1] 26)).alloc (.cells #[.slice none 0 0, .slice none 0 0] 26)) = w2 at *
  clear hW2
  refine (cloneI_any B1 m1 d1 q.ord _ hri (by omega)).mono ?_
  rintro e w5 ⟨BO, dO, rfl, hownO, hb5⟩
  have z5 : w.heap.size + 2 ≤ w5.heap.size := by have := hb5.size; omega
  have b5 : Below w.heap.size w w5 := below_ext b2 hb5
  have u0 : Blk w5 w.heap.size 26 [.slice B0 m0 d0, .slice B1 m1 d1] := x0.next hb5
  have u1 : Blk w5 (w.heap.size + 1) 26 [.slice none 0 0, .slice none 0 0] := x1.next hb5
  have b6 := below_box w5 (.cells #[.slice none 0 0, .slice BO m1 dO] 26)
  have u3 := Blk.new w5 26 [.slice none 0 0, .slice BO m1 dO]
  have hOo : ∀ b, (Value.slice BO m1 dO).ownBlock = some b → w.heap.size + 2 ≤ b ∧ b < w5.heap.size := fun b hb => by have := hownO.lt b hb; omega
  obtain ⟨v0, v1⟩ := (u0.next b6).cells2
  rw [z2] at hownO
  clear y0 y1 x0 x1 z2 hri
  go_wp2_with fail
  go_loopw [13] (fun i wr => ∃ (k : Nat) (A : Option Addr) (d : Nat), k ≤ m0 ∧ i = .int .i64 k ∧ SSl 35 sepTx w.heap.size (Iv (w5.heap.size + 1) wr.heap.size) wr A k d (q.ts.take k) ∧ wr.ownsRow (w.heap.size + 2) 3 1 (.slice BO m1 dO) m1 (ints q.ord) ∧
      Blk wr w5.heap.size 26 [.slice A k d, .slice BO m1 dO] ∧ Blk wr w.heap.size 26 [.slice B0 m0 d0, .slice B1 m1 d1] ∧ Blk wr (w.heap.size + 1) 26 [.slice none 0 0, .slice none 0 0] ∧ Below w.heap.size w wr) (fun i _ => m0 - (intOf i).toNat)
  case atStart => exact ⟨0, _, _, Nat.zero_le _, rfl, SSl.nil, own_belowS hownO b6, u3, u0.next b6, u1.next b6, below_ext b5 b6⟩
  case round =>
    obtain ⟨k, A, d, hk, rfl, hS, hO, hT, hA0, hA1, hbr⟩ := hrel
    obtain ⟨q0, q1⟩ := hA0.cells2
    by_cases hlt : k < m0
    · obtain ⟨b, off, x, cs', rfl, hb, hx, hcx, hvx⟩ := (hr0.next hbr).at_ hlt
      obtain ⟨hsx1, hsx2⟩ := hs2 x (List.mem_of_getElem? hx)
      obtain ⟨P0, p0, e0, P1, p1, e1, rfl, hrp, hmp, hrv, hmv⟩ := repTx_cells hvx
      have c0 : wr.cell? ⟨b, off + k * 3, none⟩ = some (.slice P0 p0 e0) := hcx 0 _ rfl
      have c1 : wr.cell? ⟨b, off + k * 3 + 1, none⟩ = some (.slice P1 p1 e1) := hcx 1 _ rfl
      have c2 : wr.cell? ⟨b, off + k * 3 + 1 + 1, none⟩ = some (.int .i64 x.dec) := hcx 2 _ rfl
      have HT := Lib.hid (show q.ts.take (k + 1) = q.ts.take k ++ [x] by
        obtain ⟨h1, h2⟩ := List.getElem?_eq_some_iff.1 hx
        rw [List.take_succ_eq_append_getElem h1, h2])
      have hlv := hrv.1
      have hwfv := hrv.wf
      clear hcx hvx hx
      have ea := below_box wr (.cells #[.slice P0 p0 e0, .slice P1 p1 e1, .int .i64 x.dec] 35)
      have bt := Blk.new wr 35 [.slice P0 p0 e0, .slice P1 p1 e1, .int .i64 x.dec]
      have hbe := below_ext hbr ea
      go_upto_region 5 with fail
      have hS1 := hS.next ea (fun b hb => hb.2)
      have hzr := hbr.size
      have hT1 := hT.next ea
      have hA01 := hA0.next ea
      have hA11 := hA1.next ea
      have hO1 := own_belowS hO ea
      have hrp1 := hrp.next ea
      have hrv1 := (hrv.plain.rints).next ea
      have hSs : ∀ b, Iv (w5.heap.size + 1) wr.heap.size b → b < wr.heap.size := fun b hb => hb.2
      have hgt : w5.heap.size < wr.heap.size := hT.lt
      clear hS hT hA0 hA1 hO hrp hrv c0 c1 c2 q0 q1
      have hzz : (wr.alloc (.cells #[.slice P0 p0 e0, .slice P1 p1 e1, .int .i64 x.dec] 35)).heap.size = wr.heap.size + 1 := by simp
      generalize hWT : wr.alloc (.cells #[.slice P0 p0 e0, .slice P1 p1 e1, .int .i64 x.dec] 35) = w6 at *
      clear hWT
      have hzz1 : wr.heap.size < w6.heap.size := by omega
      clear hzz
      have hne5 : some w5.heap.size ≠ (Value.slice A k d).ownBlock := fun e => by
        have := (hS1.ownS _ e.symm).1
        omega
      have hne7 : some wr.heap.size ≠ (Value.slice A k d).ownBlock := fun e => by
        have := (hS1.ownS _ e.symm).2
        omega
      have hneL : ∀ b, b < w5.heap.size → some b ≠ (Value.slice A k d).ownBlock := fun b hb e => by
        have := (hS1.ownS _ e.symm).1
        omega
      obtain ⟨cs0, hown, hgrow⟩ := hS1.grow
      obtain ⟨s0, s1⟩ := hT1.cells2
      obtain ⟨t0, t1, t2⟩ := bt.cells3
      have hbd : Below w6.heap.size w6 w6.drew := (Below.refl _ _).drew
      have hne6 : wr.heap.size ≠ w5.heap.size := by omega
      have hS0 : ∀ (b : Bool) (w' : World), ((until_ b (w'.cell? ⟨w5.heap.size, 0, none⟩ = some (.slice A k d))) ∧ w'.cell? ⟨wr.heap.size, 0, none⟩ = some (.slice P0 p0 e0) ∧ w'.cell? ⟨wr.heap.size, 1, none⟩ = some (.slice P1 p1 e1) ∧ w'.cell? ⟨wr.heap.size, 2, none⟩ = some (.int .i64 x.dec)) → (w'.cell? ⟨wr.heap.size, 0, none⟩ = some (.slice P0 p0 e0) ∧ w'.cell? ⟨wr.heap.size, 1, none⟩ = some (.slice P1 p1 e1) ∧ w'.cell? ⟨wr.heap.size, 2, none⟩ = some (.int .i64 x.dec)) := fun _ _ h => h.2
      refine wp_region_L (fun b w' => (until_ b (w'.cell? ⟨w5.heap.size, 0, none⟩ = some (.slice A k d))) ∧ w'.cell? ⟨wr.heap.size, 0, none⟩ = some (.slice P0 p0 e0) ∧ w'.cell? ⟨wr.heap.size, 1, none⟩ = some (.slice P1 p1 e1) ∧ w'.cell? ⟨wr.heap.size, 2, none⟩ = some (.int .i64 x.dec)) 12 (by kernel_rfl) ⟨fun _ => s0, t0, t1, t2⟩ (fun hHeld => ?_)
      refine wpAnyL_take (i := 0) (v := ?_) op0 (by kernel_rfl) (by kernel_rfl) (by kernel_rfl) (by rfl) (fun _ _ _ h => h) (b := false) (by kernel_rfl) hHeld hS0 (Or.inl ⟨by rfl, ?_⟩) (by kernel_rfl) ?_
      rotate_left
      · intro wS hSw; (try dsimp only at hSw); go_simp; (try with_reducible rfl)
      (try simp only [Act.put, List.setIfInBounds_toArray, List.set_cons_zero, List.set_cons_succ])
      refine wpAnyL_takeS (i := 1) (v := ?_) op1 (by kernel_rfl) (by kernel_rfl) (by kernel_rfl) (by rfl) (fun _ _ _ h => h) hHeld (by kernel_rfl) (by kernel_rfl) (Or.inl ⟨by rfl, ?_⟩) ?_
      rotate_left
      · intro wS hSw; have hSs := hSw.1 rfl; clear hSw; go_simp; (try with_reducible rfl)
      (try simp only [Act.put, List.setIfInBounds_toArray, List.set_cons_zero, List.set_cons_succ])
      refine wpAnyL_take (i := 2) (v := ?_) op2 (by kernel_rfl) (by kernel_rfl) (by kernel_rfl) (by rfl) (fun _ _ _ h => h) (b := false) (by kernel_rfl) hHeld hS0 (Or.inl ⟨by rfl, ?_⟩) (by kernel_rfl) ?_
      rotate_left
      · intro wS hSw; (try dsimp only at hSw); go_simp; (try with_reducible rfl)
      (try simp only [Act.put, List.setIfInBounds_toArray, List.set_cons_zero, List.set_cons_succ])
      refine wpAnyL_take (i := 3) (v := ?_) op3 (by kernel_rfl) (by kernel_rfl) (by kernel_rfl) (by rfl) (fun _ _ _ h => h) (b := false) (by kernel_rfl) hHeld hS0 (Or.inl ⟨by rfl, ?_⟩) (by kernel_rfl) ?_
      rotate_left
      · intro wS hSw; (try dsimp only at hSw); go_simp; (try with_reducible rfl)
      (try simp only [Act.put, List.setIfInBounds_toArray, List.set_cons_zero, List.set_cons_succ])
      refine wpAnyL_take (i := 5) (v := ?_) op5 (by kernel_rfl) (by kernel_rfl) (by kernel_rfl) (by rfl) (fun _ _ _ h => h) (b := false) (by kernel_rfl) hHeld hS0 (Or.inl ⟨by rfl, ?_⟩) (by kernel_rfl) ?_
      rotate_left
      · intro wS hSw; (try dsimp only at hSw); go_simp; (try with_reducible rfl)
      (try simp only [Act.put, List.setIfInBounds_toArray, List.set_cons_zero, List.set_cons_succ])
      refine wpAnyL_take (i := 6) (v := ?_) op6 (by kernel_rfl) (by kernel_rfl) (by kernel_rfl) (by rfl) (fun _ _ _ h => h) (b := false) (by kernel_rfl) hHeld hS0 (Or.inl ⟨by rfl, ?_⟩) (by kernel_rfl) ?_
      rotate_left
      · intro wS hSw; (try dsimp only at hSw); go_simp; (try with_reducible rfl)
      (try simp only [Act.put, List.setIfInBounds_toArray, List.set_cons_zero, List.set_cons_succ])
      refine wpAnyL_take (i := 8) (v := ?_) op8 (by kernel_rfl) (by kernel_rfl) (by kernel_rfl) (by rfl) (fun _ _ _ h => h) (b := false) (by kernel_rfl) hHeld hS0 (Or.inl ⟨by rfl, ?_⟩) (by kernel_rfl) ?_
      rotate_left
      · intro wS hSw; (try dsimp only at hSw); go_simp; (try with_reducible rfl)
      (try simp only [Act.put, List.setIfInBounds_toArray, List.set_cons_zero, List.set_cons_succ])
      refine wpAnyL_take (i := 9) (v := ?_) op9 (by kernel_rfl) (by kernel_rfl) (by kernel_rfl) (by rfl) (fun _ _ _ h => h) (b := false) (by kernel_rfl) hHeld hS0 (Or.inl ⟨by rfl, ?_⟩) (by kernel_rfl) ?_
      rotate_left
      · intro wS hSw; (try dsimp only at hSw); go_simp; (try with_reducible rfl)
      (try simp only [Act.put, List.setIfInBounds_toArray, List.set_cons_zero, List.set_cons_succ])
      refine wpAnyL_ready (rs := [4]) (by kernel_rfl) rfl ?_
      refine AllReadyL.cons (b := false) op4 (by kernel_rfl) (fun K hK => ?_) AllReadyL.nil
      go_simp
      go_at_call 60
      refine (copyParts_any P0 p0 e0 x.ps _ (hrp1.next hbd) hsx1).mono ?_
      rintro e w7 ⟨P4, d4, rfl, hS7, hb7⟩
      have bz7 : Below w6.heap.size w6 w7 := below_ext hbd hb7
      obtain ⟨s70, s71⟩ := (hT1.next bz7).cells2
      obtain ⟨t70, t71, t72⟩ := (bt.next bz7).cells3
      go_wp2_with fail
      refine hK.out _ _ (⟨fun _ => s70, t70, t71, t72⟩) (fun hHeld => ?_)
      clear hK K
      (try simp only [Act.put, List.setIfInBounds_toArray, List.set_cons_zero, List.set_cons_succ])
      refine wpAnyL_ready (rs := [7]) (by kernel_rfl) rfl ?_
      refine AllReadyL.cons (b := false) op7 (by kernel_rfl) (fun K hK => ?_) AllReadyL.nil
      go_simp
      go_at_call 40
      refine (cloneI_any P1 p1 e1 x.vs _ (hrv1.next bz7) (by omega)).mono ?_
      rintro e w8 ⟨V, dV, rfl, hown8, hb8⟩
      have bz8 : Below w6.heap.size w6 w8 := below_ext bz7 hb8
      obtain ⟨s80, s81⟩ := (hT1.next bz8).cells2
      obtain ⟨t80, t81, t82⟩ := (bt.next bz8).cells3
      have hF := fin_pv hS7 hbd.size hb8 hown8 hwfv bz7.size
      go_wp2_with fail
      refine hK.out _ _ (⟨fun _ => s80, t80, t81, t82⟩) (fun hHeld => ?_)
      clear hK K
      (try simp only [Act.put, List.setIfInBounds_toArray, List.set_cons_zero, List.set_cons_succ])
      refine wpAnyL_take (i := 10) (v := ?_) op10 (by kernel_rfl) (by kernel_rfl) (by kernel_rfl) (by rfl) (fun _ _ _ h => h) (b := false) (by kernel_rfl) hHeld hS0 (Or.inl ⟨by rfl, ?_⟩) (by kernel_rfl) ?_
      rotate_left
      · intro wS hSw; (try dsimp only at hSw); go_simp; (try with_reducible rfl)
      (try simp only [Act.put, List.setIfInBounds_toArray, List.set_cons_zero, List.set_cons_succ])
      refine wpAnyL_ready (rs := [11]) (by kernel_rfl) rfl ?_
      refine AllReadyL.cons (b := false) op11 (by kernel_rfl) (fun K hK => ?_) AllReadyL.nil
      go_simp
      have bzl := below_ext bz8 (below_box w8 (.cells #[.slice P4 p0 d4, .slice V p1 dV, .int .i64 x.dec] 35))
      have hTl := hT1.next bzl
      obtain ⟨sl0, sl1⟩ := hTl.cells2
      obtain ⟨tl0, tl1, tl2⟩ := (bt.next bzl).cells3
      refine hK.out _ _ (⟨fun _ => sl0, tl0, tl1, tl2⟩) (fun hHeld => ?_)
      clear hK K
      (try simp only [Act.put, List.setIfInBounds_toArray, List.set_cons_zero, List.set_cons_succ])
      refine wpAnyL_ready (rs := [12]) (by kernel_rfl) rfl ?_
      refine AllReadyL.cons (b := true) op12 (by kernel_rfl) (fun K hK => ?_) AllReadyL.nil
      refine step_app rfl (.tmp 18) (.tmp 28) 23 rfl w.heap.size 35 Try.underlying23 txn_info1 rfl (by omega) (by omega) _ k cs0 rfl (own_belowS hown bzl) ⟨_, 0, none⟩ 1 1 [.slice P4 p0 d4, .slice V p1 dV, .int .i64 x.dec] rfl rfl ((Blk.new w8 35 [.slice P4 p0 d4, .slice V p1 dV, .int .i64 x.dec]).cellsAtG) (by simp [Value.oneCell']) (by omega) (by have hh := hbe.size; have h8 := bz8.size; simp; omega) ?_
      intro A9 d9 w9 hown9 _ hb9 hg9 hloc9
      have hT9 : Blk w9 w5.heap.size 26 [.slice A k d, .slice BO m1 dO] := hTl.grown hg9 hne5
      obtain ⟨s90, s91⟩ := hT9.cells2
      have f90 := hT9.frozen 0
      have bt9 : Blk w9 wr.heap.size 35 [.slice P0 p0 e0, .slice P1 p1 e1, .int .i64 x.dec] := (bt.next bzl).grown hg9 hne7
      obtain ⟨t90, t91, t92⟩ := bt9.cells3
      refine hK.out _ _ (⟨fun h => Bool.noConfusion h, t90, t91, t92⟩) (fun hHeld => ?_)
      clear hK K
      (try simp only [Act.put, List.setIfInBounds_toArray, List.set_cons_zero, List.set_cons_succ])
      refine wpAnyL_take (i := 13) (v := ?_) op13 (by kernel_rfl) (by kernel_rfl) (by kernel_rfl) (by rfl) (fun _ _ _ h => h) (b := true) (by kernel_rfl) hHeld hS0 (Or.inl ⟨by rfl, ?_⟩) (by kernel_rfl) ?_
      rotate_left
      · intro wS hSw; (try dsimp only at hSw); go_simp; (try with_reducible rfl)
      (try simp only [Act.put, List.setIfInBounds_toArray, List.set_cons_zero, List.set_cons_succ])
      refine wpAnyL_ready (rs := [14]) (by kernel_rfl) rfl ?_
      refine AllReadyL.cons (b := true) op14 (by kernel_rfl) (fun K hK => ?_) AllReadyL.nil
      go_simp
      refine hK.out _ _ (⟨fun h => Bool.noConfusion h, (bt9.far (p := ⟨w5.heap.size, 0, none⟩) hne6 _).cells3⟩) (fun hHeld => ?_)
      clear hK K
      (try simp only [Act.put, List.setIfInBounds_toArray, List.set_cons_zero, List.set_cons_succ])
      refine wpAnyL_done (by kernel_rfl) ?_ _
      have hSF := (begin_grow hF hgrow rfl (by omega) hSs (by omega) bz8 hown9 hg9 hloc9).wide (S' := Iv (w5.heap.size + 1) w9.heap.size) (fun b hb => by
        have h1 := bzl.size
        have h2 := hg9.size
        rcases hb with hb | hb
        · exact ⟨hb.1, by have := hb.2; omega⟩
        · exact ⟨by have := hb.1; omega, hb.2⟩)
      have r1 : w9.ownsRow (w.heap.size + 2) 3 1 (.slice BO m1 dO) m1 (ints q.ord) := (own_belowS hO1 bzl).kept hg9 (by
        cases hvv : (Value.slice BO m1 dO).ownBlock with
        | none => exact Or.inl rfl
        | some b => exact Or.inr (hneL b (hOo b hvv).2))
      have r2 := (hA01.next bzl).grown hg9 (hneL _ (by omega))
      have r3 := (hA11.next bzl).grown hg9 (hneL _ (by omega))
      have r4 : Below w.heap.size w w9 := hbe.trans ((bzl.mono hbe.size).trans hb9)
      clear hHeld hS0
      go_wp2_with fail
      go_roundw
      case rel => exact ⟨k + 1, A9, d9, by omega, by go_num, by
          rw [HT.out]
          have := hSF.kept (w' := w9.setCell ⟨w5.heap.size, 0, none⟩ (.slice A9 (k + 1) d9)) (fun b hb => Below.heap_setCell w9 ⟨w5.heap.size, 0, none⟩ _ b (by have := hb.1; dsimp only; omega))
          simpa [World.setCell] using this, r1.kept (row := some w5.heap.size) ⟨rfl, rfl, rfl, by simp [World.setCell], fun d hd hne => Below.heap_setCell w9 ⟨w5.heap.size, 0, none⟩ _ d (by intro e; exact hne (by rw [e]))⟩ (Or.inr (by intro e; have := hOo _ e; omega)),
        hT9.set_ 0 _, r2.far (p := ⟨w5.heap.size, 0, none⟩) (by dsimp only; omega) _, r3.far (p := ⟨w5.heap.size, 0, none⟩) (by dsimp only; omega) _, r4.setCell (p := ⟨w5.heap.size, 0, none⟩) (by dsimp only; omega) _⟩
      case measure => simp [intOf]; omega
    · obtain rfl : k = m0 := by omega
      rw [List.take_of_length_le (by omega)] at hS
      obtain ⟨s0, s1⟩ := hT.cells2
      obtain ⟨r0, r1⟩ := hA1.cells2
      have fr0 := hA1.frozen 0
      have fr1 := hA1.frozen 1
      go_wp2_with fail
      have hR := (hA1.set_ 0 (.slice A k d)).set_ 1 (.slice BO m1 dO)
      simp only [List.set_cons_zero, List.set_cons_succ] at hR
      obtain ⟨s50, s51⟩ := hR.cells2
      have hkp : ∀ b, b ≠ w.heap.size + 1 → ((wr.setCell ⟨w.heap.size + 1, 0, none⟩ (.slice A k d)).setCell ⟨w.heap.size + 1, 1, none⟩ (.slice BO m1 dO)).heap[b]? = wr.heap[b]? := fun b hb => by
        rw [Below.heap_setCell _ _ _ b (fun e => hb e), Below.heap_setCell _ _ _ b (fun e => hb e)]
      have hsz := hbr.size
      have hzw : w5.heap.size < wr.heap.size := hT.lt
      refine bodyPost_ret (v := .agg #[.slice A k d, .slice BO m1 dO]) (by simp [results, Try.results32, go_sem, s50, s51]) rfl ?_
      refine ⟨[.slice A k d, .slice BO m1 dO], rfl, sepCo_mk (S1 := Iv (w5.heap.size + 1) wr.heap.size) (S2 := fun b => (Value.slice BO m1 dO).ownBlock = some b) ?_ ?_ ?_ ?_ ?_, ?_⟩
      · intro b hb
        exact ⟨by have := hb.1; omega, by simp; exact hb.2⟩
      · intro b hb
        obtain ⟨q1, q2⟩ := hOo b hb
        exact ⟨by omega, by simp; omega⟩
      · intro b hb hc
        obtain ⟨q1, q2⟩ := hOo b hc
        have := hb.1
        omega
      · exact hS.kept (fun b hb => hkp b (by have := hb.1; omega))
      · have hG : wr.grownBy ((wr.setCell ⟨w.heap.size + 1, 0, none⟩ (.slice A k d)).setCell ⟨w.heap.size + 1, 1, none⟩ (.slice BO m1 dO)) (some (w.heap.size + 1)) := ⟨rfl, rfl, rfl, by simp, fun d _ hne => hkp d (fun e => hne (by rw [e]))⟩
        exact (SSl.of_ints (hO.kept hG (Or.inr (by intro e; have := (hOo _ e).1; omega))) (fun b _ _ h => h)).down (by omega)
      · exact (hbr.setCell (by dsimp only; omega) _).setCell (by dsimp only; omega) _
end Go.Proofs.Ytlmcejpjhdaanaa
