/- Walks: the reference's copy of a coordinator. -/
import Derived.Test.YtlmcejpjhdaanaaCopyC
import Derived.Test.YtlmcejpjhdaanaaRegL
namespace Go.Proofs.Ytlmcejpjhdaanaa
open Go.RowKit Go.Sort

theorem txn_info1 : (Try.prog.info? 35).map (fun i => (i.zero, i.size, i.bytes)) = some (some (.agg #[.slice none 0 0, .slice none 0 0, .int .i64 0]), 3, 56) := by kernel_rfl
theorem SSl.ownS {α : Type} {r : RepS α} {T : TypeId} {lo n c : Nat} {S : Nat → Prop} {w : World} {A : Option Addr} {xs : List α} (h : SSl T r lo S w A n c xs) : ∀ g, (Value.slice A n c).ownBlock = some g → S g := fun g hg => by
  obtain ⟨_, ⟨rfl, _, _⟩ | ⟨g', css, rfl, hS, _⟩⟩ := h
  · cases hg
  · simp [Value.ownBlock] at hg
    exact hg ▸ hS
theorem RInts.newsI {w : World} {A : Option Addr} {n : Nat} {xs : List Int} (h : RInts w A n xs) (hn : 0 < n) : ∃ ad, A = some ad ∧ ∀ j u, (ints xs)[j]? = some u → w.cell? (ad.add j) = some u := by
  obtain ⟨ad', e, _, hc⟩ := h.2 hn
  exact ⟨ad', e, fun j u hu => by
    rw [ints, List.getElem?_map] at hu
    cases hx : xs[j]? with
    | none => rw [hx] at hu; cases hu
    | some x => rw [hx] at hu; rw [hc j x hx]; exact hu⟩
theorem ints_one (xs : List Int) : ∀ u ∈ ints xs, u.oneCell' = true := fun u hu => by
  obtain ⟨x, _, rfl⟩ := List.mem_map.1 hu
  rfl
/-- all of it is of a size that no list here comes near -/
def smallQ (q : Co) : Prop := q.ts.length ≤ 100000000 ∧ q.ord.length ≤ 100000000 ∧ ∀ t ∈ q.ts, smallU t.ps ∧ t.vs.length ≤ 100000000
def CoTo (w : World) (q : Co) (e : Ending) (w' : World) : Prop := ∃ cs, e = .returned (.agg cs.toArray) ∧ sepCo.V w.heap.size (Iv w.heap.size w'.heap.size) w' cs q ∧ Below w.heap.size w w'
/-- the blocks of the new transactions: the first, empty one, and those behind block g -/
def STx (z g : Nat) (m : Nat) (b : Nat) : Prop := b = z ∨ (g < b ∧ b < m)

/-- a transaction's copied parts and votes, blocks from B on -/
def Fin (B : Nat) (W : World) (P : Option Addr) (p d : Nat) (V : Option Addr) (n c : Nat) (x : Tx) : Prop := ∃ S1 S2 : Nat → Prop, (∀ b, S1 b → Iv B W.heap.size b) ∧ (∀ b, S2 b → Iv B W.heap.size b) ∧ (∀ b, S1 b → ¬ S2 b) ∧
  SSl 51 sepPt B S1 W P p d x.ps ∧ SSl 3 sepIntW B S2 W V n c x.vs
section
variable {B c0 z p d n c : Nat} {P V : Option Addr} {x : Tx} {w7 w8 Y : World}
theorem fin_ca (hS7 : SSl 51 sepPt c0 (Iv c0 w7.heap.size) w7 P p d x.ps) (hc : B ≤ c0) (hY : Below w7.heap.size w7 Y) (hg : Y.grownBy w8 (some z)) (hz : z < c0 ∨ w7.heap.size ≤ z) (hown : w8.ownsRow B 3 1 (.slice V n c) n (ints x.vs)) (hw : ∀ v ∈ x.vs, wf64 v)
    (hloc : (Value.slice V n c).ownBlock = some z ∨ (Value.slice V n c).ownBlock = some Y.heap.size) : Fin B w8 P p d V n c x := by
  have h1 := hY.size
  have h2 := hg.size
  refine ⟨Iv c0 w7.heap.size, fun b => (Value.slice V n c).ownBlock = some b, fun b hb => ⟨by have := hb.1; omega, by have := hb.2; omega⟩, fun b hb => hown.lt b hb, fun b hb hv => ?_, ?_, SSl.of_intsW hown hw (fun b _ _ h => h)⟩
  · rcases hloc with e | e
    · rw [e] at hv; injection hv with hv; subst hv; have := hb.1; have := hb.2; omega
    · rw [e] at hv; injection hv with hv; have := hb.2; omega
  · exact (hS7.kept (fun b hb => (hg.block b (by have := hb.2; omega) (by intro e; injection e with e; subst e; have := hb.1; have := hb.2; omega)).trans (hY.block b hb.2))).down hc
theorem fin_ac (hown : w8.ownsRow B 3 1 (.slice V n c) n (ints x.vs)) (hw : ∀ v ∈ x.vs, wf64 v) (hB : B ≤ w8.heap.size) (hS7 : SSl 51 sepPt w8.heap.size (Iv w8.heap.size w7.heap.size) w7 P p d x.ps) (hb : Below w8.heap.size w8 w7) : Fin B w7 P p d V n c x := by
  have h1 := hb.size
  have hown7 := own_belowS hown hb
  refine ⟨Iv w8.heap.size w7.heap.size, fun b => (Value.slice V n c).ownBlock = some b, fun b hb => ⟨by have := hb.1; omega, hb.2⟩, fun b hb => ?_, fun b hb hv => ?_, hS7.down hB, SSl.of_intsW hown7 hw (fun b _ _ h => h)⟩
  · exact hown7.lt b hb
  · have := (hown.lt b hv).2
    have := hb.1
    omega
theorem fin_tx {lo : Nat} {W : World} (h : Fin B W P p d V n c x) (hlo : lo ≤ B) (o : Obj) : sepTx.V lo (Iv B W.heap.size) (W.alloc o) [.slice P p d, .slice V n c, .int .i64 x.dec] x := by
  obtain ⟨S1, S2, h1, h2, h3, h4, h5⟩ := h
  exact sepTx_mk h1 h2 h3 ((h4.next (below_box W o) (fun b hb => (h1 b hb).2)).down hlo) ((h5.next (below_box W o) (fun b hb => (h2 b hb).2)).down hlo)
/-- one more transaction of a copy -/
theorem copy_grow {T : TypeId} {w6 W w9 : World} {lo z0 g m : Nat} {A A9 : Option Addr} {k d1 d9 : Nat} {ts : List Tx} {cs0 : List Value} {o : Obj} (hF : Fin w6.heap.size W P p d V n c x)
    (hgrow : ∀ (w2 w3 : World) (cs : List Value) (x : Tx) (N S' : Nat → Prop) (A' : Option Addr) (c' : Nat), (∀ b, STx z0 g m b → w2.heap[b]? = w6.heap[b]?) → (∀ b, STx z0 g m b → b < w2.heap.size) → (∀ b, N b → ¬ STx z0 g m b) → (∀ b, N b → b < w2.heap.size) →
      (∀ b, STx z0 g m b → S' b) → (∀ b, N b → S' b) → (w2.heap.size < w3.heap.size → S' w2.heap.size) → sepTx.V lo N w2 cs x →
      w3.ownsRow lo T sepTx.rep.sz (.slice A' (k + 1) c') (k + 1) (cs0 ++ cs) → w2.grownBy w3 (Value.slice A k d1).ownBlock → ((Value.slice A' (k + 1) c').ownBlock = (Value.slice A k d1).ownBlock ∨ (Value.slice A' (k + 1) c').ownBlock = some w2.heap.size) →
      SSl T sepTx lo S' w3 A' (k + 1) c' (ts ++ [x]))
    (hlo : lo ≤ w6.heap.size) (hSs : ∀ b, STx z0 g m b → b < w6.heap.size) (_hgm : g < m) (hm : m ≤ w6.heap.size) (hb : Below w6.heap.size w6 W)
    (hown9 : w9.ownsRow lo T 3 (.slice A9 (k + 1) d9) (k + 1) (cs0 ++ [.slice P p d, .slice V n c, .int .i64 x.dec])) (hg9 : (W.alloc o).grownBy w9 (Value.slice A k d1).ownBlock) (hloc9 : (Value.slice A9 (k + 1) d9).ownBlock = (Value.slice A k d1).ownBlock ∨ (Value.slice A9 (k + 1) d9).ownBlock = some (W.alloc o).heap.size) :
    SSl T sepTx lo (STx z0 g w9.heap.size) w9 A9 (k + 1) d9 (ts ++ [x]) := by
  have hb1 := below_ext hb (below_box W o)
  have z1 := hb.size
  have z2 := hg9.size
  have z3 : (W.alloc o).heap.size = W.heap.size + 1 := by simp
  exact hgrow (W.alloc o) w9 _ x (Iv w6.heap.size W.heap.size) _ A9 d9 (fun b hb' => hb1.block b (hSs b hb')) (fun b hb' => by have := hSs b hb'; omega) (fun b h1 h2 => by have := hSs b h2; have := h1.1; omega) (fun b h1 => by have := h1.2; omega)
    (fun b h1 => h1.elim Or.inl (fun h => Or.inr ⟨h.1, by have := h.2; omega⟩)) (fun b h1 => Or.inr ⟨by have := h1.1; omega, by have := h1.2; omega⟩) (fun h1 => Or.inr ⟨by omega, h1⟩) (fin_tx hF hlo o) hown9 hg9 hloc9
theorem copy_rest {T : TypeId} {r : RepS Tx} {w w6 X w9 : World} {g m : Nat} {A : Option Addr} {k d1 : Nat} {ts : List Tx} {BO : Option Addr} {m1 dO : Nat} {os : List Int} {T1 T2 : TypeId} {a1 a2 : List Value} (hS : SSl T r w.heap.size (STx (w.heap.size + 1 + 1) g m) w6 A k d1 ts)
    (hbe : Below w.heap.size w w6) (hm : m < w6.heap.size) (hX : Below w6.heap.size w6 X) (hg9 : X.grownBy w9 (Value.slice A k d1).ownBlock) (hb9 : Below w.heap.size X w9) (hg : w.heap.size + 4 ≤ g) (_hgm : g < m)
    (hO : w6.ownsRow (w.heap.size + 3) T1 1 (.slice BO m1 dO) m1 (ints os)) (hOo : ∀ b, (Value.slice BO m1 dO).ownBlock = some b → w.heap.size + 3 ≤ b ∧ b < g) (h1 : Blk w6 w.heap.size T2 a1) (h2 : Blk w6 (w.heap.size + 1) T2 a2) :
    w9.ownsRow (w.heap.size + 3) T1 1 (.slice BO m1 dO) m1 (ints os) ∧ Blk w9 w.heap.size T2 a1 ∧ Blk w9 (w.heap.size + 1) T2 a2 ∧ Below w.heap.size w w9 ∧ m < w9.heap.size := by
  have z1 := hX.size
  have z2 := hg9.size
  have hne : ∀ b, b < g → b ≠ w.heap.size + 1 + 1 → some b ≠ (Value.slice A k d1).ownBlock := fun b h3 h4 e => by
    rcases hS.ownS _ e.symm with h | h
    · exact h4 h
    · have := h.1; omega
  refine ⟨(own_belowS hO hX).kept hg9 ?_, (h1.next hX).grown hg9 (hne _ (by omega) (by omega)), (h2.next hX).grown hg9 (hne _ (by omega) (by omega)), hbe.trans ((hX.mono hbe.size).trans hb9), by omega⟩
  cases hv : (Value.slice BO m1 dO).ownBlock with
  | none => exact Or.inl rfl
  | some b =>
    right
    obtain ⟨q1, q2⟩ := hOo b hv
    exact hne b q2 (by omega)
end

set_option maxRecDepth 100000 in
set_option maxHeartbeats 3200000 in
theorem l22Copy_any (cs : List Value) (q : Co) (w : World) (hv : repCo.V 0 w cs q) (hs : smallQ q) :
    Calls Try.prog 34 #[.agg cs.toArray] w (CoTo w q) := by
  obtain ⟨B0, m0, d0, B1, m1, d1, rfl, hr0, hm0, hr1, hm1⟩ := repCo_cells hv
  have hl0 := hr0.1
  have hl1 := hr1.1
  obtain ⟨hs0, hs1, hs2⟩ := hs
  have b4 : Below w.heap.size w ((((w.alloc (.cells #[.slice B0 m0 d0, .slice B1 m1 d1] 26)).alloc (.cells #[.slice none 0 0, .slice none 0 0] 26)).alloc (.cells #[] 35)).alloc (.cells #[] 3)) := below_ext (below_box3 w _ _ _) (below_box _ _)
  have x0 : Blk ((((w.alloc (.cells #[.slice B0 m0 d0, .slice B1 m1 d1] 26)).alloc (.cells #[.slice none 0 0, .slice none 0 0] 26)).alloc (.cells #[] 35)).alloc (.cells #[] 3)) w.heap.size 26 [.slice B0 m0 d0, .slice B1 m1 d1] := ((((Blk.new w _ _).alloc _).alloc _).alloc _)
  have x1 : Blk ((((w.alloc (.cells #[.slice B0 m0 d0, .slice B1 m1 d1] 26)).alloc (.cells #[.slice none 0 0, .slice none 0 0] 26)).alloc (.cells #[] 35)).alloc (.cells #[] 3)) (w.heap.size + 1) 26 [.slice none 0 0, .slice none 0 0] := by simpa using (((Blk.new (w.alloc (.cells #[.slice B0 m0 d0, .slice B1 m1 d1] 26)) 26 [.slice none 0 0, .slice none 0 0]).alloc (.cells #[] 35)).alloc (.cells #[] 3))
  have x2 : Blk ((((w.alloc (.cells #[.slice B0 m0 d0, .slice B1 m1 d1] 26)).alloc (.cells #[.slice none 0 0, .slice none 0 0] 26)).alloc (.cells #[] 35)).alloc (.cells #[] 3)) (w.heap.size + 1 + 1) 35 [] := by simpa using ((Blk.new ((w.alloc (.cells #[.slice B0 m0 d0, .slice B1 m1 d1] 26)).alloc (.cells #[.slice none 0 0, .slice none 0 0] 26)) 35 []).alloc (.cells #[] 3))
  have x3 : Blk ((((w.alloc (.cells #[.slice B0 m0 d0, .slice B1 m1 d1] 26)).alloc (.cells #[.slice none 0 0, .slice none 0 0] 26)).alloc (.cells #[] 35)).alloc (.cells #[] 3)) (w.heap.size + 1 + 1 + 1) 3 [] := by simpa using (Blk.new (((w.alloc (.cells #[.slice B0 m0 d0, .slice B1 m1 d1] 26)).alloc (.cells #[.slice none 0 0, .slice none 0 0] 26)).alloc (.cells #[] 35)) 3 [])
  have z4 : ((((w.alloc (.cells #[.slice B0 m0 d0, .slice B1 m1 d1] 26)).alloc (.cells #[.slice none 0 0, .slice none 0 0] 26)).alloc (.cells #[] 35)).alloc (.cells #[] 3)).heap.size = w.heap.size + 4 := by simp
  have hri := hr1.rints.next b4
  obtain ⟨y0, y1⟩ := x0.cells2
  go_enter Try.func34, Try.ntmps34
  go_wp2_with (at_builtin; go_loud (refine wpList_appS rfl (.tmp 7) (.tmp 9) 24 rfl (w.heap.size + 3) 3 Try.underlying24 int_info1 rfl (by omega) (by omega) _ 0 [] rfl (own_emp x3 (by omega)) _ m1 d1 (ints q.ord) rfl (by rw [length_ints]; omega) hri.newsI (ints_one _) m1 (by omega) (by omega) (by omega) ?_; intro BO dO w5 hownO hcO hb5 hg5))
  simp only [List.nil_append] at hownO
  have b5 : Below w.heap.size w w5 := b4.trans (hb5.mono (by omega))
  have z5 : w.heap.size + 4 ≤ w5.heap.size := by have := hb5.size; omega
  have u0 : Blk w5 w.heap.size 26 [.slice B0 m0 d0, .slice B1 m1 d1] := x0.below hb5 (by omega)
  have u1 : Blk w5 (w.heap.size + 1) 26 [.slice none 0 0, .slice none 0 0] := x1.below hb5 (by omega)
  have u2 : Blk w5 (w.heap.size + 1 + 1) 35 [] := x2.below hb5 (by omega)
  have b6 := below_box w5 (.cells #[.slice (some ⟨w.heap.size + 1 + 1, 0, none⟩) 0 0, .slice BO m1 dO] 26)
  have u3 := Blk.new w5 26 [.slice (some ⟨w.heap.size + 1 + 1, 0, none⟩) 0 0, .slice BO m1 dO]
  have hOo : ∀ b, (Value.slice BO m1 dO).ownBlock = some b → w.heap.size + 3 ≤ b ∧ b < w5.heap.size := fun b hb => hownO.lt b hb
  clear y0 y1 x0 x1 x2 x3 z4 hri
  go_wp2_with fail
  go_loopw [4] (fun i wr => ∃ (k : Nat) (A : Option Addr) (d : Nat), k ≤ m0 ∧ i = .int .i64 k ∧ SSl 35 sepTx w.heap.size (STx (w.heap.size + 1 + 1) w5.heap.size wr.heap.size) wr A k d (q.ts.take k) ∧ wr.ownsRow (w.heap.size + 3) 3 1 (.slice BO m1 dO) m1 (ints q.ord) ∧
      Blk wr w5.heap.size 26 [.slice A k d, .slice BO m1 dO] ∧ Blk wr w.heap.size 26 [.slice B0 m0 d0, .slice B1 m1 d1] ∧ Blk wr (w.heap.size + 1) 26 [.slice none 0 0, .slice none 0 0] ∧ Below w.heap.size w wr) (fun i _ => m0 - (intOf i).toNat)
  case atStart => exact ⟨0, _, _, Nat.zero_le _, rfl, SSl.emp (u2.next b6) (by omega) (Or.inl rfl), own_belowS hownO b6, u3, u0.next b6, u1.next b6, below_ext b5 b6⟩
  case round =>
    obtain ⟨k, A, d, hk, rfl, hS, hO, hT, hA0, hA1, hbr⟩ := hrel
    obtain ⟨q0, q1⟩ := hA0.cells2
    by_cases hlt : k < m0
    · obtain ⟨b, off, x, cs', rfl, hb, hx, hcx, hvx⟩ := (hr0.next hbr).at_ hlt
      obtain ⟨hsx1, hsx2⟩ := hs2 x (List.mem_of_getElem? hx)
      obtain ⟨P0, p0, e0, P1, p1, e1, rfl, hrp, hmp, hrv, hmv⟩ := repTx_cells hvx
      have c0 : wr.cell? ⟨b, off + k * 3, none⟩ = some (.slice P0 p0 e0) := hcx 0 _ rfl
      have c1 : wr.cell? ⟨b, off + k * 3 + 1, none⟩ = some (.slice P1 p1 e1) := hcx 1 _ rfl
      have c2 : wr.cell? ⟨b, off + k * 3 + 1 + 1, none⟩ = some (.int .i64 x.dec) := hcx 2 _ rfl
      have HT := Lib.hid (show q.ts.take (k + 1) = q.ts.take k ++ [x] by
        obtain ⟨h1, h2⟩ := List.getElem?_eq_some_iff.1 hx
        rw [List.take_succ_eq_append_getElem h1, h2])
      have hlv := hrv.1
      have hwfv := hrv.wf
      clear hcx hvx hx
      have ea := below_box wr (.cells #[.slice P0 p0 e0, .slice P1 p1 e1, .int .i64 x.dec] 35)
      have bt := Blk.new wr 35 [.slice P0 p0 e0, .slice P1 p1 e1, .int .i64 x.dec]
      have hbe := below_ext hbr ea
      go_wp2_with fail
      have hS1 := hS.next ea (fun b hb => by rcases hb with rfl | hb; (· have := hT.lt; omega); exact hb.2)
      have hzr := hbr.size
      have hT1 := hT.next ea
      have hA01 := hA0.next ea
      have hA11 := hA1.next ea
      have hO1 := own_belowS hO ea
      have hrp1 := hrp.next ea
      have hrv1 := (hrv.plain.rints).next ea
      have hSs : ∀ b, STx (w.heap.size + 1 + 1) w5.heap.size wr.heap.size b → b < (wr.alloc (.cells #[.slice P0 p0 e0, .slice P1 p1 e1, .int .i64 x.dec] 35)).heap.size := fun b hb => by rcases hb with rfl | hb; (· have := hT1.lt; omega); exact Nat.lt_of_lt_of_le hb.2 ea.size
      have hgt : w5.heap.size < wr.heap.size := hT.lt
      clear hS hT hA0 hA1 hO hrp hrv c0 c1 c2 q0 q1
      have hzz : (wr.alloc (.cells #[.slice P0 p0 e0, .slice P1 p1 e1, .int .i64 x.dec] 35)).heap.size = wr.heap.size + 1 := by simp
      generalize hWT : wr.alloc (.cells #[.slice P0 p0 e0, .slice P1 p1 e1, .int .i64 x.dec] 35) = w6 at *
      have HWT := Lib.hid hWT
      clear hWT
      have hne5 : some w5.heap.size ≠ (Value.slice A k d).ownBlock := fun e => by
        rcases hS1.ownS _ e.symm with h | h
        · omega
        · have := h.1; omega
      have hne7 : some wr.heap.size ≠ (Value.slice A k d).ownBlock := fun e => by
        rcases hS1.ownS _ e.symm with h | h
        · omega
        · have := h.2; omega
      have HZZ := Lib.hid hzz
      have hzz1 : wr.heap.size < w6.heap.size := by omega
      clear hzz
      obtain ⟨cs0, hown, hgrow⟩ := hS1.grow
      obtain ⟨s0, s1⟩ := hT1.cells2
      obtain ⟨t0, t1, t2⟩ := bt.cells3
      have hbd : Below w6.heap.size w6 w6.drew := (Below.refl _ _).drew
      have hbd1 := below_ext hbd (below_box w6.drew (.cells #[] 3))
      obtain ⟨s0a, s1a⟩ := (hT1.next hbd1).cells2
      obtain ⟨t0a, t1a, t2a⟩ := (bt.next hbd1).cells3
      have hne6 : wr.heap.size ≠ w5.heap.size := by omega
      have hS0 : ∀ (b : Bool) (w' : World), ((until_ b (w'.cell? ⟨w5.heap.size, 0, none⟩ = some (.slice A k d))) ∧ w'.cell? ⟨wr.heap.size, 0, none⟩ = some (.slice P0 p0 e0) ∧ w'.cell? ⟨wr.heap.size, 1, none⟩ = some (.slice P1 p1 e1) ∧ w'.cell? ⟨wr.heap.size, 2, none⟩ = some (.int .i64 x.dec)) → (w'.cell? ⟨wr.heap.size, 0, none⟩ = some (.slice P0 p0 e0) ∧ w'.cell? ⟨wr.heap.size, 1, none⟩ = some (.slice P1 p1 e1) ∧ w'.cell? ⟨wr.heap.size, 2, none⟩ = some (.int .i64 x.dec)) := fun _ _ h => h.2
      refine wp_region_L (fun b w' => (until_ b (w'.cell? ⟨w5.heap.size, 0, none⟩ = some (.slice A k d))) ∧ w'.cell? ⟨wr.heap.size, 0, none⟩ = some (.slice P0 p0 e0) ∧ w'.cell? ⟨wr.heap.size, 1, none⟩ = some (.slice P1 p1 e1) ∧ w'.cell? ⟨wr.heap.size, 2, none⟩ = some (.int .i64 x.dec)) 13 (by kernel_rfl) ⟨fun _ => s0, t0, t1, t2⟩ (fun hHeld => ?_)
      refine wpAnyL_take (i := 0) (v := ?_) op0 (by kernel_rfl) (by kernel_rfl) (by kernel_rfl) (by rfl) (fun _ _ _ h => h) (b := false) (by kernel_rfl) hHeld hS0 (Or.inl ⟨by rfl, ?_⟩) (by kernel_rfl) ?_
      rotate_left
      · intro wS hSw; (try dsimp only at hSw); go_simp; (try with_reducible rfl)
      (try simp only [Act.put, List.setIfInBounds_toArray, List.set_cons_zero, List.set_cons_succ])
      refine wpAnyL_takeS (i := 1) (v := ?_) op1 (by kernel_rfl) (by kernel_rfl) (by kernel_rfl) (by rfl) (fun _ _ _ h => h) hHeld (by kernel_rfl) (by kernel_rfl) (Or.inl ⟨by rfl, ?_⟩) ?_
      rotate_left
      · intro wS hSw; have hSs := hSw.1 rfl; clear hSw; go_simp; (try with_reducible rfl)
      (try simp only [Act.put, List.setIfInBounds_toArray, List.set_cons_zero, List.set_cons_succ])
      refine wpAnyL_take (i := 2) (v := ?_) op2 (by kernel_rfl) (by kernel_rfl) (by kernel_rfl) (by rfl) (fun _ _ _ h => h) (b := false) (by kernel_rfl) hHeld hS0 (Or.inl ⟨by rfl, ?_⟩) (by kernel_rfl) ?_
      rotate_left
      · intro wS hSw; (try dsimp only at hSw); go_simp; (try with_reducible rfl)
      (try simp only [Act.put, List.setIfInBounds_toArray, List.set_cons_zero, List.set_cons_succ])
      refine wpAnyL_take (i := 3) (v := ?_) op3 (by kernel_rfl) (by kernel_rfl) (by kernel_rfl) (by rfl) (fun _ _ _ h => h) (b := false) (by kernel_rfl) hHeld hS0 (Or.inl ⟨by rfl, ?_⟩) (by kernel_rfl) ?_
      rotate_left
      · intro wS hSw; (try dsimp only at hSw); go_simp; (try with_reducible rfl)
      (try simp only [Act.put, List.setIfInBounds_toArray, List.set_cons_zero, List.set_cons_succ])
      refine wpAnyL_take (i := 6) (v := ?_) op6 (by kernel_rfl) (by kernel_rfl) (by kernel_rfl) (by rfl) (fun _ _ _ h => h) (b := false) (by kernel_rfl) hHeld hS0 (Or.inl ⟨by rfl, ?_⟩) (by kernel_rfl) ?_
      rotate_left
      · intro wS hSw; (try dsimp only at hSw); go_simp; (try with_reducible rfl)
      (try simp only [Act.put, List.setIfInBounds_toArray, List.set_cons_zero, List.set_cons_succ])
      refine wpAnyL_take (i := 7) (v := ?_) op7 (by kernel_rfl) (by kernel_rfl) (by kernel_rfl) (by rfl) (fun _ _ _ h => h) (b := false) (by kernel_rfl) hHeld hS0 (Or.inl ⟨by rfl, ?_⟩) (by kernel_rfl) ?_
      rotate_left
      · intro wS hSw; (try dsimp only at hSw); go_simp; (try with_reducible rfl)
      (try simp only [Act.put, List.setIfInBounds_toArray, List.set_cons_zero, List.set_cons_succ])
      refine wpAnyL_take (i := 9) (v := ?_) op9 (by kernel_rfl) (by kernel_rfl) (by kernel_rfl) (by rfl) (fun _ _ _ h => h) (b := false) (by kernel_rfl) hHeld hS0 (Or.inl ⟨by rfl, ?_⟩) (by kernel_rfl) ?_
      rotate_left
      · intro wS hSw; (try dsimp only at hSw); go_simp; (try with_reducible rfl)
      (try simp only [Act.put, List.setIfInBounds_toArray, List.set_cons_zero, List.set_cons_succ])
      refine wpAnyL_take (i := 10) (v := ?_) op10 (by kernel_rfl) (by kernel_rfl) (by kernel_rfl) (by rfl) (fun _ _ _ h => h) (b := false) (by kernel_rfl) hHeld hS0 (Or.inl ⟨by rfl, ?_⟩) (by kernel_rfl) ?_
      rotate_left
      · intro wS hSw; (try dsimp only at hSw); go_simp; (try with_reducible rfl)
      (try simp only [Act.put, List.setIfInBounds_toArray, List.set_cons_zero, List.set_cons_succ])
      refine wpAnyL_ready (rs := [4, 5]) (by kernel_rfl) rfl ?_
      refine AllReadyL.cons (b := false) op4 (by kernel_rfl) (fun K hK => ?_) (AllReadyL.cons (b := false) op5 (by kernel_rfl) (fun K hK => ?_) AllReadyL.nil)
      · go_simp
        go_at_call 61
        refine (l22Parts2_any P0 p0 e0 x.ps _ (hrp1.next hbd) hsx1).mono ?_
        rintro e w7 ⟨P4, d4, rfl, hS7, hb7⟩
        have bz7 : Below w6.heap.size w6 w7 := below_ext hbd hb7
        obtain ⟨s70, s71⟩ := (hT1.next bz7).cells2
        obtain ⟨t70, t71, t72⟩ := (bt.next bz7).cells3
        go_wp2_with fail
        refine hK.out _ _ (⟨fun _ => s70, t70, t71, t72⟩) (fun hHeld => ?_)
        clear hK K
        (try simp only [Act.put, List.setIfInBounds_toArray, List.set_cons_zero, List.set_cons_succ])
        refine wpAnyL_ready (rs := [5]) (by kernel_rfl) rfl ?_
        refine AllReadyL.cons (b := false) op5 (by kernel_rfl) (fun K hK => ?_) AllReadyL.nil
        go_simp
        have bz7a := below_ext bz7 (below_box w7 (.cells #[] 3))
        obtain ⟨s70a, s71a⟩ := (hT1.next bz7a).cells2
        obtain ⟨t70a, t71a, t72a⟩ := (bt.next bz7a).cells3
        refine hK.out _ _ (⟨fun _ => s70a, t70a, t71a, t72a⟩) (fun hHeld => ?_)
        clear hK K
        (try simp only [Act.put, List.setIfInBounds_toArray, List.set_cons_zero, List.set_cons_succ])
        refine wpAnyL_ready (rs := [8]) (by kernel_rfl) rfl ?_
        refine AllReadyL.cons (b := false) op8 (by kernel_rfl) (fun K hK => ?_) AllReadyL.nil
        refine step_appL rfl (.tmp 29) (.tmp 31) 24 rfl w6.heap.size 3 Try.underlying24 int_info1 rfl (by omega) (by omega) _ 0 [] rfl (own_emp (Blk.new w7 3 []) bz7.size) _ p1 e1 (ints x.vs) rfl (by rw [length_ints]; omega) (hrv1.next bz7a).newsI (ints_one _) p1 (by omega) (by omega) (bz7a.size) ?_
        intro V dV w8 hown8 _ hb8 hg8 hloc8
        simp only [List.nil_append] at hown8
        have bz8 : Below w6.heap.size w6 w8 := bz7a.trans hb8
        obtain ⟨s80, s81⟩ := (hT1.next bz8).cells2
        obtain ⟨t80, t81, t82⟩ := (bt.next bz8).cells3
        have hF := fin_ca hS7 hbd.size (below_box w7 (.cells #[] 3)) hg8 (Or.inr (Nat.le_refl _)) hown8 hwfv hloc8
        refine hK.out _ _ (⟨fun _ => s80, t80, t81, t82⟩) (fun hHeld => ?_)
        clear hK K
        (try simp only [Act.put, List.setIfInBounds_toArray, List.set_cons_zero, List.set_cons_succ])
        refine wpAnyL_take (i := 11) (v := ?_) op11 (by kernel_rfl) (by kernel_rfl) (by kernel_rfl) (by rfl) (fun _ _ _ h => h) (b := false) (by kernel_rfl) hHeld hS0 (Or.inl ⟨by rfl, ?_⟩) (by kernel_rfl) ?_
        rotate_left
        · intro wS hSw; (try dsimp only at hSw); go_simp; (try with_reducible rfl)
        (try simp only [Act.put, List.setIfInBounds_toArray, List.set_cons_zero, List.set_cons_succ])
        refine wpAnyL_ready (rs := [12]) (by kernel_rfl) rfl ?_
        refine AllReadyL.cons (b := false) op12 (by kernel_rfl) (fun K hK => ?_) AllReadyL.nil
        go_simp
        have bzl := below_ext bz8 (below_box w8 (.cells #[.slice P4 p0 d4, .slice V p1 dV, .int .i64 x.dec] 35))
        obtain ⟨sl0, sl1⟩ := (hT1.next bzl).cells2
        obtain ⟨tl0, tl1, tl2⟩ := (bt.next bzl).cells3
        refine hK.out _ _ (⟨fun _ => sl0, tl0, tl1, tl2⟩) (fun hHeld => ?_)
        clear hK K
        (try simp only [Act.put, List.setIfInBounds_toArray, List.set_cons_zero, List.set_cons_succ])
        refine wpAnyL_ready (rs := [13]) (by kernel_rfl) rfl ?_
        refine AllReadyL.cons (b := true) op13 (by kernel_rfl) (fun K hK => ?_) AllReadyL.nil
        refine step_app rfl (.tmp 25) (.tmp 36) 23 rfl w.heap.size 35 Try.underlying23 txn_info1 rfl (by omega) (by omega) _ k cs0 rfl (own_belowS hown bzl) ⟨_, 0, none⟩ 1 1 [.slice P4 p0 d4, .slice V p1 dV, .int .i64 x.dec] rfl rfl ((Blk.new w8 35 [.slice P4 p0 d4, .slice V p1 dV, .int .i64 x.dec]).cellsAtG) (by simp [Value.oneCell']) (by omega) (by have hh := hbe.size; have h7 := bz8.size; simp; omega) ?_
        intro A9 d9 w9 hown9 _ hb9 hg9 hloc9
        have hT9 : Blk w9 w5.heap.size 26 [.slice A k d, .slice BO m1 dO] := (hT1.next bzl).grown hg9 hne5
        obtain ⟨s90, s91⟩ := hT9.cells2
        have f90 := hT9.frozen 0
        have bt9 : Blk w9 wr.heap.size 35 [.slice P0 p0 e0, .slice P1 p1 e1, .int .i64 x.dec] := (bt.next bzl).grown hg9 hne7
        obtain ⟨t90, t91, t92⟩ := bt9.cells3
        refine hK.out _ _ (⟨fun h => Bool.noConfusion h, t90, t91, t92⟩) (fun hHeld => ?_)
        clear hK K
        (try simp only [Act.put, List.setIfInBounds_toArray, List.set_cons_zero, List.set_cons_succ])
        refine wpAnyL_take (i := 14) (v := ?_) op14 (by kernel_rfl) (by kernel_rfl) (by kernel_rfl) (by rfl) (fun _ _ _ h => h) (b := true) (by kernel_rfl) hHeld hS0 (Or.inl ⟨by rfl, ?_⟩) (by kernel_rfl) ?_
        rotate_left
        · intro wS hSw; (try dsimp only at hSw); go_simp; (try with_reducible rfl)
        (try simp only [Act.put, List.setIfInBounds_toArray, List.set_cons_zero, List.set_cons_succ])
        refine wpAnyL_ready (rs := [15]) (by kernel_rfl) rfl ?_
        refine AllReadyL.cons (b := true) op15 (by kernel_rfl) (fun K hK => ?_) AllReadyL.nil
        go_simp
        refine hK.out _ _ (⟨fun h => Bool.noConfusion h, (bt9.far (p := ⟨w5.heap.size, 0, none⟩) hne6 _).cells3⟩) (fun hHeld => ?_)
        clear hK K
        (try simp only [Act.put, List.setIfInBounds_toArray, List.set_cons_zero, List.set_cons_succ])
        refine wpAnyL_done (by kernel_rfl) ?_ _
        have hSF := copy_grow hF hgrow hbe.size hSs hgt (Nat.le_of_lt hzz1) bz8 hown9 hg9 hloc9
        obtain ⟨r1, r2, r3, r4, r5⟩ := copy_rest hS1 hbe hzz1 (below_ext bz8 (below_box w8 _)) hg9 hb9 z5 hgt hO1 hOo hA01 hA11
        go_wp2_with fail
        go_roundw
        case rel => exact ⟨k + 1, A9, d9, by omega, by go_num, by
            rw [HT.out]
            have := hSF.kept (w' := w9.setCell ⟨w5.heap.size, 0, none⟩ (.slice A9 (k + 1) d9)) (fun b hb => Below.heap_setCell w9 ⟨w5.heap.size, 0, none⟩ _ b (by
              rcases hb with rfl | hb
              · dsimp only; omega
              · have := hb.1; dsimp only; omega))
            simpa [World.setCell] using this, r1.kept (row := some w5.heap.size) ⟨rfl, rfl, rfl, by simp [World.setCell], fun d hd hne => Below.heap_setCell w9 ⟨w5.heap.size, 0, none⟩ _ d (by intro e; exact hne (by rw [e]))⟩ (Or.inr (by intro e; have := hOo _ e; omega)),
          hT9.set_ 0 _, r2.far (p := ⟨w5.heap.size, 0, none⟩) (by dsimp only; omega) _, r3.far (p := ⟨w5.heap.size, 0, none⟩) (by dsimp only; omega) _, r4.setCell (p := ⟨w5.heap.size, 0, none⟩) (by dsimp only; omega) _⟩
        case measure => simp [intOf]; omega
      · go_simp
        refine hK.out _ _ (⟨fun _ => s0a, t0a, t1a, t2a⟩) (fun hHeld => ?_)
        clear hK K
        (try simp only [Act.put, List.setIfInBounds_toArray, List.set_cons_zero, List.set_cons_succ])
        refine wpAnyL_ready (rs := [4]) (by kernel_rfl) rfl ?_
        refine AllReadyL.cons (b := false) op4 (by kernel_rfl) (fun K hK => ?_) AllReadyL.nil
        go_simp
        go_at_call 61
        refine (l22Parts2_any P0 p0 e0 x.ps _ (hrp1.next hbd1) hsx1).mono ?_
        rintro e w7 ⟨P4, d4, rfl, hS7, hb7⟩
        have bz7 : Below w6.heap.size w6 w7 := below_ext hbd1 hb7
        obtain ⟨s70, s71⟩ := (hT1.next bz7).cells2
        obtain ⟨t70, t71, t72⟩ := (bt.next bz7).cells3
        go_wp2_with fail
        have hE7 : Blk w7 w6.heap.size 3 [] := (Blk.new w6.drew 3 []).next hb7
        refine hK.out _ _ (⟨fun _ => s70, t70, t71, t72⟩) (fun hHeld => ?_)
        clear hK K
        (try simp only [Act.put, List.setIfInBounds_toArray, List.set_cons_zero, List.set_cons_succ])
        refine wpAnyL_ready (rs := [8]) (by kernel_rfl) rfl ?_
        refine AllReadyL.cons (b := false) op8 (by kernel_rfl) (fun K hK => ?_) AllReadyL.nil
        refine step_appL rfl (.tmp 29) (.tmp 31) 24 rfl w6.heap.size 3 Try.underlying24 int_info1 rfl (by omega) (by omega) _ 0 [] rfl (own_emp hE7 (Nat.le_refl _)) _ p1 e1 (ints x.vs) rfl (by rw [length_ints]; omega) (hrv1.next bz7).newsI (ints_one _) p1 (by omega) (by omega) (bz7.size) ?_
        intro V dV w8 hown8 _ hb8 hg8 hloc8
        simp only [List.nil_append] at hown8
        have bz8 : Below w6.heap.size w6 w8 := bz7.trans hb8
        obtain ⟨s80, s81⟩ := (hT1.next bz8).cells2
        obtain ⟨t80, t81, t82⟩ := (bt.next bz8).cells3
        have hF := fin_ca hS7 hbd1.size (Below.refl _ _) hg8 (Or.inl (by simp)) hown8 hwfv hloc8
        refine hK.out _ _ (⟨fun _ => s80, t80, t81, t82⟩) (fun hHeld => ?_)
        clear hK K
        (try simp only [Act.put, List.setIfInBounds_toArray, List.set_cons_zero, List.set_cons_succ])
        refine wpAnyL_take (i := 11) (v := ?_) op11 (by kernel_rfl) (by kernel_rfl) (by kernel_rfl) (by rfl) (fun _ _ _ h => h) (b := false) (by kernel_rfl) hHeld hS0 (Or.inl ⟨by rfl, ?_⟩) (by kernel_rfl) ?_
        rotate_left
        · intro wS hSw; (try dsimp only at hSw); go_simp; (try with_reducible rfl)
        (try simp only [Act.put, List.setIfInBounds_toArray, List.set_cons_zero, List.set_cons_succ])
        refine wpAnyL_ready (rs := [12]) (by kernel_rfl) rfl ?_
        refine AllReadyL.cons (b := false) op12 (by kernel_rfl) (fun K hK => ?_) AllReadyL.nil
        go_simp
        have bzl := below_ext bz8 (below_box w8 (.cells #[.slice P4 p0 d4, .slice V p1 dV, .int .i64 x.dec] 35))
        obtain ⟨sl0, sl1⟩ := (hT1.next bzl).cells2
        obtain ⟨tl0, tl1, tl2⟩ := (bt.next bzl).cells3
        refine hK.out _ _ (⟨fun _ => sl0, tl0, tl1, tl2⟩) (fun hHeld => ?_)
        clear hK K
        (try simp only [Act.put, List.setIfInBounds_toArray, List.set_cons_zero, List.set_cons_succ])
        refine wpAnyL_ready (rs := [13]) (by kernel_rfl) rfl ?_
        refine AllReadyL.cons (b := true) op13 (by kernel_rfl) (fun K hK => ?_) AllReadyL.nil
        refine step_app rfl (.tmp 25) (.tmp 36) 23 rfl w.heap.size 35 Try.underlying23 txn_info1 rfl (by omega) (by omega) _ k cs0 rfl (own_belowS hown bzl) ⟨_, 0, none⟩ 1 1 [.slice P4 p0 d4, .slice V p1 dV, .int .i64 x.dec] rfl rfl ((Blk.new w8 35 [.slice P4 p0 d4, .slice V p1 dV, .int .i64 x.dec]).cellsAtG) (by simp [Value.oneCell']) (by omega) (by have hh := hbe.size; have h7 := bz8.size; simp; omega) ?_
        intro A9 d9 w9 hown9 _ hb9 hg9 hloc9
        have hT9 : Blk w9 w5.heap.size 26 [.slice A k d, .slice BO m1 dO] := (hT1.next bzl).grown hg9 hne5
        obtain ⟨s90, s91⟩ := hT9.cells2
        have f90 := hT9.frozen 0
        have bt9 : Blk w9 wr.heap.size 35 [.slice P0 p0 e0, .slice P1 p1 e1, .int .i64 x.dec] := (bt.next bzl).grown hg9 hne7
        obtain ⟨t90, t91, t92⟩ := bt9.cells3
        refine hK.out _ _ (⟨fun h => Bool.noConfusion h, t90, t91, t92⟩) (fun hHeld => ?_)
        clear hK K
        (try simp only [Act.put, List.setIfInBounds_toArray, List.set_cons_zero, List.set_cons_succ])
        refine wpAnyL_take (i := 14) (v := ?_) op14 (by kernel_rfl) (by kernel_rfl) (by kernel_rfl) (by rfl) (fun _ _ _ h => h) (b := true) (by kernel_rfl) hHeld hS0 (Or.inl ⟨by rfl, ?_⟩) (by kernel_rfl) ?_
        rotate_left
        · intro wS hSw; (try dsimp only at hSw); go_simp; (try with_reducible rfl)
        (try simp only [Act.put, List.setIfInBounds_toArray, List.set_cons_zero, List.set_cons_succ])
        refine wpAnyL_ready (rs := [15]) (by kernel_rfl) rfl ?_
        refine AllReadyL.cons (b := true) op15 (by kernel_rfl) (fun K hK => ?_) AllReadyL.nil
        go_simp
        refine hK.out _ _ (⟨fun h => Bool.noConfusion h, (bt9.far (p := ⟨w5.heap.size, 0, none⟩) hne6 _).cells3⟩) (fun hHeld => ?_)
        clear hK K
        (try simp only [Act.put, List.setIfInBounds_toArray, List.set_cons_zero, List.set_cons_succ])
        refine wpAnyL_done (by kernel_rfl) ?_ _
        have hSF := copy_grow hF hgrow hbe.size hSs hgt (Nat.le_of_lt hzz1) bz8 hown9 hg9 hloc9
        obtain ⟨r1, r2, r3, r4, r5⟩ := copy_rest hS1 hbe hzz1 (below_ext bz8 (below_box w8 _)) hg9 hb9 z5 hgt hO1 hOo hA01 hA11
        go_wp2_with fail
        go_roundw
        case rel => exact ⟨k + 1, A9, d9, by omega, by go_num, by
            rw [HT.out]
            have := hSF.kept (w' := w9.setCell ⟨w5.heap.size, 0, none⟩ (.slice A9 (k + 1) d9)) (fun b hb => Below.heap_setCell w9 ⟨w5.heap.size, 0, none⟩ _ b (by
              rcases hb with rfl | hb
              · dsimp only; omega
              · have := hb.1; dsimp only; omega))
            simpa [World.setCell] using this, r1.kept (row := some w5.heap.size) ⟨rfl, rfl, rfl, by simp [World.setCell], fun d hd hne => Below.heap_setCell w9 ⟨w5.heap.size, 0, none⟩ _ d (by intro e; exact hne (by rw [e]))⟩ (Or.inr (by intro e; have := hOo _ e; omega)),
          hT9.set_ 0 _, r2.far (p := ⟨w5.heap.size, 0, none⟩) (by dsimp only; omega) _, r3.far (p := ⟨w5.heap.size, 0, none⟩) (by dsimp only; omega) _, r4.setCell (p := ⟨w5.heap.size, 0, none⟩) (by dsimp only; omega) _⟩
        case measure => simp [intOf]; omega
    · obtain rfl : k = m0 := by omega
      rw [List.take_of_length_le (by omega)] at hS
      obtain ⟨s0, s1⟩ := hT.cells2
      obtain ⟨r0, r1⟩ := hA1.cells2
      have fr0 := hA1.frozen 0
      have fr1 := hA1.frozen 1
      go_wp2_with fail
      have hR := (hA1.set_ 0 (.slice A k d)).set_ 1 (.slice BO m1 dO)
      simp only [List.set_cons_zero, List.set_cons_succ] at hR
      obtain ⟨s50, s51⟩ := hR.cells2
      have hkp : ∀ b, b ≠ w.heap.size + 1 → ((wr.setCell ⟨w.heap.size + 1, 0, none⟩ (.slice A k d)).setCell ⟨w.heap.size + 1, 1, none⟩ (.slice BO m1 dO)).heap[b]? = wr.heap[b]? := fun b hb => by
        rw [Below.heap_setCell _ _ _ b (fun e => hb e), Below.heap_setCell _ _ _ b (fun e => hb e)]
      have hsz := hbr.size
      have hzw : w5.heap.size < wr.heap.size := hT.lt
      refine bodyPost_ret (v := .agg #[.slice A k d, .slice BO m1 dO]) (by simp [results, Try.results34, go_sem, s50, s51]) rfl ?_
      refine ⟨[.slice A k d, .slice BO m1 dO], rfl, sepCo_mk (S1 := STx (w.heap.size + 1 + 1) w5.heap.size wr.heap.size) (S2 := fun b => (Value.slice BO m1 dO).ownBlock = some b) ?_ ?_ ?_ ?_ ?_, ?_⟩
      · intro b hb
        have := hT.lt
        rcases hb with rfl | hb
        · exact ⟨by omega, by simp; omega⟩
        · exact ⟨by have := hb.1; omega, by simp; exact hb.2⟩
      · intro b hb
        obtain ⟨q1, q2⟩ := hOo b hb
        exact ⟨by omega, by simp; omega⟩
      · intro b hb hc
        obtain ⟨q1, q2⟩ := hOo b hc
        rcases hb with rfl | hb
        · omega
        · have := hb.1; omega
      · exact hS.kept (fun b hb => hkp b (by rcases hb with rfl | hb; (· omega); (· have := hb.1; omega)))
      · have hG : wr.grownBy ((wr.setCell ⟨w.heap.size + 1, 0, none⟩ (.slice A k d)).setCell ⟨w.heap.size + 1, 1, none⟩ (.slice BO m1 dO)) (some (w.heap.size + 1)) := ⟨rfl, rfl, rfl, by simp, fun d _ hne => hkp d (fun e => hne (by rw [e]))⟩
        exact (SSl.of_ints (hO.kept hG (Or.inr (by intro e; have := (hOo _ e).1; omega))) (fun b _ _ h => h)).down (by omega)
      · exact (hbr.setCell (by dsimp only; omega) _).setCell (by dsimp only; omega) _
end Go.Proofs.Ytlmcejpjhdaanaa
