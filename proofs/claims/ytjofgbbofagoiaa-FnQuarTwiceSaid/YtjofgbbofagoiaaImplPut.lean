/- Walks: StorePut, the program's and the reference's. -/
import Derived.Test.YtjofgbbofagoiaaInsert
import Derived.Test.YtjofgbbofagoiaaStore
import Derived.Test.YtjofgbbofagoiaaFind
import Derived.Test.YtjofgbbofagoiaaGet
import Derived.Test.YtjofgbbofagoiaaEqual
namespace Go.Proofs.Ytjofgbbofagoiaa
open Go.RowKit Go.Sort

set_option maxHeartbeats 1600000 in
/-- Insert at the end -/
theorem insert_end (S : Option Addr) (n d gv : Nat) (cs : List Value) (x0 x1 x2 : Value) (B : Nat) (w : World) (hown : w.ownsRow B 33 3 (.slice S n d) n cs) (hn : n ≤ 1000)
    (hv : Blk w gv 33 [x0, x1, x2]) (hBw : B ≤ w.heap.size) (h1v : ∀ v ∈ [x0, x1, x2], v.oneCell' = true) :
    Calls Try.prog 117 #[.slice S n d, .int .i64 n, .slice (some ⟨gv, 0, none⟩) 1 1] w fun e w' =>
      ∃ A' d', e = .returned (.slice A' (n + 1) d') ∧ w'.ownsRow B 33 3 (.slice A' (n + 1) d') (n + 1) (cs ++ [x0, x1, x2]) ∧ Below B w w' ∧ w.grownBy w' (Value.slice S n d).ownBlock := by
  obtain ⟨A0, d0, h0, hnd⟩ := own_form hown
  injection h0 with hA _ h0
  subst hA
  subst h0
  have hz : ((n : Int) == (n : Int)) = true := by simp
  have ib0 : (0 : Int) ≤ (n : Int) := by omega
  have ib1 : (n : Int) ≤ (d : Int) := by omega
  cases S with
  | none =>
    have h0 : n = 0 := by
      apply Classical.byContradiction; intro h0
      obtain ⟨g, e, _⟩ := own_addr hown (by omega); cases e
    subst h0
    go_enter Try.func117, Try.ntmps117
    go_wp2_with (at_builtin; refine wpList_app rfl (.tmp 23) (.tmp 24) 23 rfl B 33 Try.underlying23 obj_info1 rfl (by omega) (by omega) _ 0 cs rfl hown ⟨gv, 0, none⟩ 1 1 [x0, x1, x2] rfl rfl hv.cellsAt h1v (by omega) hBw ?_; intro A5 d5 w5 hown5 _ hb5 hg5 _)
    go_ret
    exact ⟨_, _, rfl, hown5, hb5, hg5⟩
  | some ad =>
    obtain ⟨b, off, pth⟩ := ad
    obtain ⟨g, hg⟩ : ∃ g, (⟨b, off, pth⟩ : Addr) = ⟨g, 0, none⟩ := by
      rcases hown.2 with ⟨h0, _⟩ | ⟨g', cap, cur, hv, _⟩
      · cases h0
      · injection hv with hv1 _ _; injection hv1 with hv1; exact ⟨g', hv1⟩
    injection hg with h1 h2 h3
    subst h1; subst h2; subst h3
    go_enter Try.func117, Try.ntmps117
    go_wp2_with (at_builtin; refine wpList_app rfl (.tmp 23) (.tmp 24) 23 rfl B 33 Try.underlying23 obj_info1 rfl (by omega) (by omega) _ n cs rfl hown ⟨gv, 0, none⟩ 1 1 [x0, x1, x2] rfl rfl hv.cellsAt h1v (by omega) hBw ?_; intro A5 d5 w5 hown5 _ hb5 hg5 _)
    all_goals
      go_ret
      exact ⟨_, _, rfl, hown5, hb5, hg5⟩

theorem SepF.ins {F F' n k : Nat} {cs : List Value} {x0 x2 : Value} {A : Option Addr} {m e : Nat} (h : SepF F cs n) (hl : cs.length = n * 3) (hk : k ≤ n) (hF : F ≤ F') (h1 : ∀ a, A = some a → F ≤ a.block) (h2 : ∀ a, A = some a → 0 < m → a.block < F') :
    SepF F' (cs.take (k * 3) ++ [x0, .slice A m e, x2] ++ cs.drop (k * 3)) (n + 1) := by
  have ht : (cs.take (k * 3)).length = k * 3 := by rw [List.length_take]; omega
  have g1 : ∀ q, q < k → (cs.take (k * 3) ++ [x0, .slice A m e, x2] ++ cs.drop (k * 3))[q * 3 + 1]? = cs[q * 3 + 1]? := fun q hq => by
    rw [List.append_assoc, List.getElem?_append_left (by omega), List.getElem?_take, if_pos (by omega)]
  have g2 : (cs.take (k * 3) ++ [x0, .slice A m e, x2] ++ cs.drop (k * 3))[k * 3 + 1]? = some (.slice A m e) := by
    rw [List.append_assoc, List.getElem?_append_right (by omega), ht, show k * 3 + 1 - k * 3 = 1 by omega]
    rfl
  have g3 : ∀ q, k < q → (cs.take (k * 3) ++ [x0, .slice A m e, x2] ++ cs.drop (k * 3))[q * 3 + 1]? = cs[(q - 1) * 3 + 1]? := fun q hq => by
    have ha : (cs.take (k * 3) ++ [x0, Value.slice A m e, x2]).length = k * 3 + 3 := by rw [List.length_append, ht]; rfl
    rw [List.getElem?_append_right (by omega), ha, List.getElem?_drop]
    congr 1; omega
  have old : ∀ q, q < n + 1 → q ≠ k → ∃ q', q' < n ∧ (q < k → q' = q) ∧ (k < q → q' = q - 1) ∧ (cs.take (k * 3) ++ [x0, .slice A m e, x2] ++ cs.drop (k * 3))[q * 3 + 1]? = cs[q' * 3 + 1]? := fun q hq hne => by
    rcases Nat.lt_or_ge q k with hlt | hge
    · exact ⟨q, by omega, fun _ => rfl, fun h => by omega, g1 q hlt⟩
    · exact ⟨q - 1, by omega, fun h => by omega, fun _ => rfl, g3 q (by omega)⟩
  refine ⟨fun q a m' c hq he hm => ?_, fun q q' a a' m1 c1 m2 c2 hq hq' hne he he' hm1 hm2 => ?_⟩
  · by_cases hqk : q = k
    · subst hqk
      rw [g2] at he; injection he with he; injection he with e1 e2 _
      exact h2 a e1 (by omega)
    · obtain ⟨p, hp, -, -, ep⟩ := old q hq hqk
      rw [ep] at he
      exact Nat.lt_of_lt_of_le (h.1 p a m' c hp he hm) hF
  · by_cases hqk : q = k
    · subst hqk
      rw [g2] at he; injection he with he; injection he with e1 _ _
      obtain ⟨p, hp, -, -, ep⟩ := old q' hq' (fun e => hne e.symm)
      rw [ep] at he'
      have := h.1 p a' m2 c2 hp he' hm2
      have := h1 a e1
      omega
    · obtain ⟨p, hp, p1, p2, ep⟩ := old q hq hqk
      rw [ep] at he
      by_cases hqk' : q' = k
      · subst hqk'
        rw [g2] at he'; injection he' with he'; injection he' with e1 _ _
        have := h.1 p a m1 c1 hp he hm1
        have := h1 a' e1
        omega
      · obtain ⟨p', hp', p1', p2', ep'⟩ := old q' hq' hqk'
        rw [ep'] at he'
        refine h.2 p p' a a' m1 c1 m2 c2 hp hp' ?_ he he' hm1 hm2
        intro e
        rcases Nat.lt_or_ge q k with a1 | a1
        · have := p1 a1
          rcases Nat.lt_or_ge q' k with a2 | a2
          · have := p1' a2; omega
          · have := p2' (by omega); omega
        · have := p2 (by omega)
          rcases Nat.lt_or_ge q' k with a2 | a2
          · have := p1' a2; omega
          · have := p2' (by omega); omega

/-- Insert of one object into a row of objects of the call's own -/
theorem insertS_any (S : Option Addr) (n d k gv : Nat) (os : List Ob) (o : Ob) (A : Option Addr) (m e : Nat) (C F : Nat) (w : World) (h : OwnS w C F (.slice S n d) n os) (hk : k ≤ n) (hn : n ≤ 1000)
    (hv : Blk w gv 33 [.int .i64 o.k, .slice A m e, .string o.t]) (hne : (Value.slice S n d).ownBlock ≠ some gv) (hl : LinkIn w C A m o.xs) (hm : m ≤ maxLen) (ht : o.t.size ≤ maxLen) (hC : C ≤ w.heap.size) (hFw : F ≤ w.heap.size) (hF : ∀ a, A = some a → F ≤ a.block) :
    Calls Try.prog 117 #[.slice S n d, .int .i64 k, .slice (some ⟨gv, 0, none⟩) 1 1] w fun e w' =>
      ∃ v', e = .returned v' ∧ OwnS w' C w.heap.size v' (n + 1) (os.take k ++ [o] ++ os.drop k) ∧ Below C w w' := by
  have hlen := OwnR.len h.own
  obtain ⟨cs, hown, hel, hsep⟩ := h
  have h1v : ∀ v ∈ [Value.int .i64 o.k, .slice A m e, .string o.t], v.oneCell' = true := by simp [Value.oneCell']
  have hone : Elems [Value.int .i64 o.k, .slice A m e, .string o.t] [o] (LinkIn w C) := Elems.one hl hm ht
  have hmid := ((hel.take k (by omega)).append hone).append (hel.drop k)
  have hss : SepF w.heap.size (cs.take (k * 3) ++ [.int .i64 o.k, .slice A m e, .string o.t] ++ cs.drop (k * 3)) (n + 1) := hsep.ins hown.1 hk hFw hF (fun a ea hm0 => by
    obtain ⟨ad, e', hlt, _⟩ := hl.1.2 hm0
    rw [ea] at e'; injection e' with e'; subst e'
    exact hlt)
  have hty : ∀ g, (Value.slice S n d).ownBlock = some g → ∃ cs e fz, w.heap[g]? = some (.cells cs e fz) ∧ e ≠ 3 := by
    intro g hg
    rcases hown.2 with ⟨h0, _⟩ | ⟨g', cap, cur, hv, _, hh, _⟩
    · rw [h0] at hg; cases hg
    · rw [hv] at hg
      have : g' = g := by simpa [Value.ownBlock] using hg
      subst this
      exact ⟨_, _, _, hh, by decide⟩
  by_cases hkn : k = n
  · subst hkn
    refine (insert_end S k d gv cs _ _ _ C w hown hn hv hC h1v).mono ?_
    rintro e' w' ⟨A', d', rfl, hown', hb', hg'⟩
    have hcl := hown.1
    rw [List.take_of_length_le (by omega), List.drop_of_length_le (by omega), List.append_nil] at hss
    refine ⟨_, rfl, ⟨_, hown', ?_, hss⟩, hb'⟩
    have := (hel.append hone).mono fun A m xs hx => hx.grown hg' (fun g eg => Or.inr (hty g eg))
    rw [List.take_of_length_le (by omega), List.drop_of_length_le (by omega)]
    simpa using this
  · obtain ⟨g, rfl, hg1, hg2⟩ := own_addr hown (by omega)
    have hgne : gv ≠ g := fun e => hne (by simp [Value.ownBlock, e])
    by_cases hroom : n + 1 ≤ d
    · refine (insert_room g n d k gv cs _ _ _ C w hown (by omega) hroom hn hv hgne hel.one_ h1v).mono ?_
      rintro e' w' ⟨rfl, hown', hg'⟩
      refine ⟨_, rfl, ⟨_, hown', hmid.mono fun A m xs hx => hx.grown hg' (fun g' eg => Or.inr (hty g' (by simpa [Value.ownBlock] using eg))), hss⟩, ?_⟩
      exact ⟨hg'.os, hg'.tape, hg'.output, hg'.size, fun i hi => hg'.block i (by omega) (by intro e; injection e with e; omega)⟩
    · refine (insert_grow g n d k gv cs _ _ _ C w hown (by omega) (by omega) hn hv hC hel.one_ h1v).mono ?_
      rintro e' w' ⟨g', d', rfl, hown', hb'⟩
      refine ⟨_, rfl, ⟨_, hown', hmid.mono fun A m xs hx => hx.next hb', hss⟩, ?_⟩
      exact ⟨hb'.os, hb'.tape, hb'.output, hb'.size, fun i hi => hb'.block i (by omega)⟩

def putR (os : List Ob) (o : Ob) : List Ob × Bool := if storeB os && o.ok then putO os o else ([], false)
def PutR (w : World) (os : List Ob) (o : Ob) (e : Ending) (w' : World) : Prop := ∃ v, e = .returned (.tuple #[v, .bool (putR os o).2]) ∧ OwnO w' w.heap.size v (putR os o).1.length (putR os o).1 ∧ Below w.heap.size w w'
def PutS (w : World) (os : List Ob) (o : Ob) (e : Ending) (w' : World) : Prop := ∃ v, e = .returned (.tuple #[v, .bool (putR os o).2]) ∧ OwnS w' w.heap.size w'.heap.size v (putR os o).1.length (putR os o).1 ∧ Below w.heap.size w w'
theorem putR_bad {os : List Ob} {o : Ob} (h : storeB os = false ∨ o.ok = false) : putR os o = ([], false) := by rcases h with h | h <;> simp [putR, h]
theorem putR_good {os : List Ob} {o : Ob} (h : storeB os = true) (h' : o.ok = true) : putR os o = putO os o := by simp [putR, h, h']
theorem putO_found {os : List Ob} {o x : Ob} (hx : os[posO os o.id]? = some x) (hi : x.id = o.id) : putO os o = (os, eqO x o) := by unfold putO; rw [hx]; simp [hi]
theorem putO_new {os : List Ob} {o : Ob} (h : hasO os o.id = false) : putO os o = if 16 ≤ os.length then (os, false) else (os.take (posO os o.id) ++ [o] ++ os.drop (posO os o.id), true) := by
  unfold hasO at h
  unfold putO
  cases hx : os[posO os o.id]? with
  | none => rfl
  | some x =>
    rw [hx] at h
    have : ¬ x.id = o.id := of_decide_eq_false h
    simp [this]
theorem ownO_nil {w : World} {B : Nat} : OwnO w B (.slice none 0 0) 0 [] := ⟨[], own_nil, Elems.nil⟩
theorem ownS_nil {w : World} {B F : Nat} : OwnS w B F (.slice none 0 0) 0 [] := ⟨[], own_nil, Elems.nil, SepF.zero⟩
theorem OwnS.form {w : World} {B F n : Nat} {v : Value} {os : List Ob} (h : OwnS w B F v n os) : ∃ A c, v = .slice A n c ∧ n ≤ c := h.own.form

set_option maxHeartbeats 1000000 in
theorem implStorePutS_any (A : Option Addr) (n c : Nat) (os : List Ob) (o : Ob) (B : Option Addr) (m d : Nat) (w : World) (h : RObjs w A n os) (hn : n ≤ maxLen) (hr : RInts w B m o.xs) (hm : m ≤ maxLen) :
    Calls Try.prog 104 #[.slice A n c, .agg #[.int .i64 o.k, .slice B m d, .string o.t]] w (PutS w os o) := by
  have hl := h.1
  have bo := Blk.new w 33 [.int .i64 o.k, .slice B m d, .string o.t]
  have b1 := below_box w (.cells #[.int .i64 o.k, .slice B m d, .string o.t] 33)
  have h1 := h.next b1
  have hr1 := hr.next b1
  go_enter Try.func104, Try.ntmps104
  go_wp2_with fail
  refine (implStoreValid_any A n c os _ h1 hn).mono ?_
  rintro e w1 ⟨rfl, hb1⟩
  have b2 := below_ext b1 hb1
  have bo1 := bo.next hb1
  have hr2 := hr1.next hb1
  have h2 := h1.next hb1
  obtain ⟨c0, c1, c2⟩ := bo1.cells3
  cases hv : storeB os
  · have HP := Lib.hid (putR_bad (o := o) (Or.inl hv))
    go_wp2_with fail
    refine bodyPost_ret (v := .tuple #[.slice none 0 0, .bool false]) (by simp [results, Try.results104, go_sem]) rfl ⟨_, by rw [HP.out], by rw [HP.out]; exact ownS_nil, b2⟩
  · have hl16 := storeB_len hv
    go_wp2_with fail
    refine (ok_any o.k B m d o.xs o.t _ hr2 hm).mono ?_
    rintro e w2 ⟨rfl, hb2⟩
    have b3 := below_ext b2 hb2
    have bo2 := bo1.next hb2
    have hr3 := hr2.next hb2
    have h3 := h2.next hb2
    cases hok : objOkB o.k o.xs o.t
    · have HP := Lib.hid (putR_bad (os := os) (o := o) (Or.inr hok))
      go_wp2_with fail
      refine bodyPost_ret (v := .tuple #[.slice none 0 0, .bool false]) (by simp [results, Try.results104, go_sem]) rfl ⟨_, by rw [HP.out], by rw [HP.out]; exact ownS_nil, b3⟩
    · have ho : o.ok = true := hok
      have hoo : ObjOk o.k o.xs o.t := ObjOk.of hok
      have hid := idV_bd hoo
      have HPR := Lib.hid (putR_good hv ho)
      go_wp2_with fail
      refine (copyObjectsS_any A n c os _ h3 (by omega) (storeB_small hv)).mono ?_
      rintro e w3 ⟨v3, rfl, hO3, hb3⟩
      obtain ⟨A3, c3, rfl, hnc3⟩ := hO3.form
      have b4 := below_ext b3 hb3
      have bo3 := bo2.next hb3
      have hr4 := hr3.next hb3
      obtain ⟨c30, c31, c32⟩ := bo3.cells3
      go_wp2_with fail
      refine (id_any o.k B m d o.xs o.t _ hr4 hoo).mono ?_
      rintro e w4 ⟨rfl, hb4⟩
      have b5 := below_ext b4 hb4
      have bo4 := bo3.next hb4
      have hr5 := hr4.next hb4
      have hO4 := hO3.next hb4
      go_wp2_with fail
      refine (findObject_any A3 n c3 os (idV o.k o.xs o.t) _ hO4.own.reads (by omega) (storeB_asc hv) hid.1 (by omega)).mono ?_
      rintro e w5 ⟨rfl, hb5⟩
      have b6 := below_ext b5 hb5
      have bo5 := bo4.next hb5
      have hr6 := hr5.next hb5
      have hO5 := hO4.next hb5
      obtain ⟨c50, c51, c52⟩ := bo5.cells3
      cases hh : hasO os (idV o.k o.xs o.t)
      · have hnew := putO_new (os := os) (o := o) hh
        have hpl := posO_le os (idV o.k o.xs o.t)
        by_cases h16 : n = 16
        · have hp : putR os o = (os, false) := by rw [HPR.out, hnew, if_pos (by omega)]
          have HP := Lib.hid hp
          clear hp hnew hh
          subst h16
          go_wp2_with fail
          refine bodyPost_ret (v := .tuple #[.slice A3 16 c3, .bool false]) (by simp [results, Try.results104, go_sem]) rfl ⟨_, by rw [HP.out], by rw [HP.out]; show OwnS _ _ _ _ os.length os; rw [hl]; exact (hO5.base b3.size).more (Nat.le_trans hb4.size hb5.size), b6⟩
        · have hp : putR os o = (os.take (posO os (idV o.k o.xs o.t)) ++ [o] ++ os.drop (posO os (idV o.k o.xs o.t)), true) := by rw [HPR.out, hnew, if_neg (by omega)]; rfl
          have HP := Lib.hid hp
          have h16b : ((n : Int) == 16) = false := by simp; omega
          clear hp hnew hh
          generalize posO os (idV o.k o.xs o.t) = k at *
          go_wp2_with fail
          refine (cloneI_any B m d o.xs _ hr6 (by have := hoo.len; have := hr6.1; omega)).mono ?_
          rintro e w6 ⟨B6, d6, rfl, hown6, hb6⟩
          have b7 := below_ext b6 hb6
          have bo6 := bo5.next hb6
          have hO6 := hO5.next hb6
          have hlk6 := LinkIn.of_own hown6
          obtain ⟨c60, c61, c62⟩ := bo6.cells3
          have f61 := bo6.frozen 1
          have hg7 := grown_setCell (i := 1) (World.grownBy.refl w6 (some w.heap.size)) (.slice B6 m d6)
          have hO7 := hO6.grown hg7 bo2.lt
          have hlk7 := hlk6.grown hg7 (fun g e => Or.inl (by injection e with e; have := bo5.lt; omega))
          have b8 := below_store b7 (g := w.heap.size) (i := 1) (Nat.le_refl _) (.slice B6 m d6)
          have bo7 := bo6.set_ 1 (.slice B6 m d6)
          simp only [List.set_cons_succ, List.set_cons_zero] at bo7
          obtain ⟨c70, c71, c72⟩ := bo7.cells3
          go_wp2_with fail
          generalize hW7 : w6.setCell ⟨w.heap.size, 1, none⟩ (.slice B6 m d6) = w7 at *
          have HW7 := Lib.hid hW7
          clear hW7
          have b25 := Nat.le_trans hb3.size (Nat.le_trans hb4.size hb5.size)
          have hlk8 := (hlk7.base b25).next (below_box w7 (.cells #[.int .i64 o.k, .slice B6 m d6, .string o.t] 33))
          have hO8 := hO7.next (below_box w7 (.cells #[.int .i64 o.k, .slice B6 m d6, .string o.t] 33))
          have bo8 := Blk.new w7 33 [.int .i64 o.k, .slice B6 m d6, .string o.t]
          have hne8 : (Value.slice A3 n c3).ownBlock ≠ some w7.heap.size := by
            obtain ⟨cs7, hw7, _, _⟩ := hO7
            intro e
            have := (hw7.lt _ e).2
            omega
          have b9 := below_ext b8 (below_box w7 (.cells #[.int .i64 o.k, .slice B6 m d6, .string o.t] 33))
          have hz7 : w7.heap.size = w6.heap.size := by rw [← HW7.out]; simp [World.setCell]
          rw [hz7] at bo8 hne8
          refine (insertS_any A3 n c3 k w6.heap.size os o B6 m d6 w2.heap.size w3.heap.size _ hO8 (by omega) (by omega) bo8 hne8 hlk8 hm (by have := hoo.txt; simp only [maxLen]; omega) (by have := b9.size; have := hb3.size; have := hb4.size; have := hb5.size; have := hb6.size; have := hg7.size; simp; omega) (by have := b9.size; have := hb4.size; have := hb5.size; have := hb6.size; have := hg7.size; simp; omega) (fun a ea => by have := (hlk6.2 a ea).1; have := hb4.size; have := hb5.size; omega)).mono ?_
          rintro e w9 ⟨v9, rfl, hO9, hb9⟩
          go_wp2_with fail
          refine bodyPost_ret (v := .tuple #[v9, .bool true]) (by simp [results, Try.results104, go_sem]) rfl ⟨_, by rw [HP.out], ?_, ?_⟩
          · rw [HP.out]
            have hl9 := OwnR.len hO9.own
            show OwnS w9 w.heap.size w9.heap.size v9 (os.take k ++ [o] ++ os.drop k).length (os.take k ++ [o] ++ os.drop k)
            rw [hl9]
            exact (hO9.base b3.size).more hb9.size
          · exact b9.trans ⟨hb9.os, hb9.tape, hb9.output, hb9.size, fun i hi => hb9.block i (by have := b3.size; omega)⟩
      · obtain ⟨x, hx, hxi⟩ := hasO_at hh
        have hp : putR os o = (os, eqO x o) := by rw [HPR.out]; exact putO_found hx hxi
        have HP := Lib.hid hp
        have hkl : posO os (idV o.k o.xs o.t) < n := by have := (List.getElem?_eq_some_iff.1 hx).1; omega
        clear hp hh hxi
        generalize posO os (idV o.k o.xs o.t) = k at *
        obtain ⟨b, off, x', rfl, hb, hx', hob⟩ := hO5.own.reads.at_ (k := k) hkl
        obtain rfl : x = x' := by rw [hx] at hx'; injection hx'
        obtain ⟨B', m', d', e0, e1, e2, hri, hm', ht'⟩ := hob
        clear hx hx'
        go_wp2_with fail
        obtain ⟨q, hq⟩ : ∃ q, q = eqO x o := ⟨_, rfl⟩
        have hsame : ∀ W, RInts W B' m' x.xs → RInts W B m o.xs → Calls Try.prog 116 #[.agg #[.int .i64 x.k, .slice B' m' d', .string x.t], .agg #[.int .i64 o.k, .slice B m d, .string o.t]] W fun e w' => e = .returned (.bool q) ∧ Below W.heap.size W w' := fun W q1 q2 => by
          rw [hq]
          exact same_any x.k o.k B' B m' d' m d x.xs o.xs x.t o.t W q1 q2 hm' hm
        have HQ := Lib.hid hq
        clear hq
        have g0 := cell_regrown e0
        have g1 := cell_regrown e1
        have g2 := cell_regrown e2
        have k0 := cell_regrown c50
        have k1 := cell_regrown c51
        have k2 := cell_regrown c52
        clear e0 e1 e2 c50 c51 c52 c30 c31 c32 c0 c1 c2
        refine wp_region_ext (by kernel_rfl) (by kernel_rfl) ?_
        repeat (go_big_quiet_step ((go_at_call 116; exact rg_below (hsame _ (hri.regrown _ _) (hr6.regrown _ _)))))
        refine wpQuiet_nil ?_
        intro w6 hb6
        go_wp2
        refine bodyPost_ret (v := .tuple #[.slice (some ⟨b, off, none⟩) n c3, .bool q]) (by simp [results, Try.results104, go_sem]) rfl ⟨_, by rw [HP.out, HQ.out], ?_, below_ext b6 hb6⟩
        rw [HP.out]
        show OwnS w6 w.heap.size w6.heap.size _ os.length os
        rw [hl]
        exact ((hO5.next hb6).base b3.size).more (Nat.le_trans (Nat.le_trans hb4.size hb5.size) hb6.size)
theorem implStorePut_any (A : Option Addr) (n c : Nat) (os : List Ob) (o : Ob) (B : Option Addr) (m d : Nat) (w : World) (h : RObjs w A n os) (hn : n ≤ maxLen) (hr : RInts w B m o.xs) (hm : m ≤ maxLen) :
    Calls Try.prog 104 #[.slice A n c, .agg #[.int .i64 o.k, .slice B m d, .string o.t]] w (PutR w os o) :=
  (implStorePutS_any A n c os o B m d w h hn hr hm).mono fun _ _ ⟨v, e, h1, h2⟩ => ⟨v, e, h1.own, h2⟩

end Go.Proofs.Ytjofgbbofagoiaa
