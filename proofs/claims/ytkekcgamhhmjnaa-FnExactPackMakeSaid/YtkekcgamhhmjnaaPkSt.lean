/- Plain: what is known of memory while the program makes a pack. -/
import Derived.Test.YtkekcgamhhmjnaaPkNodes
namespace Go.Proofs.Ytkekcgamhhmjnaa
open Go.RowKit Go.Sort

theorem size_alloc (w : World) (o : Obj) : (w.alloc o).heap.size = w.heap.size + 1 := by simp
/-- an entry in a box, its links and operations the call's own; the box of the object that it is made of -/
def EntryAt (wr wf : World) (g : Nat) (o : Ob) (B' : Option Addr) (m' d' : Nat) (A5 : Option Addr) (m c5 : Nat) (b : Int) (A7 : Option Addr) (n7 c7 : Nat) (ops : List Dp) : Prop :=
  wr.heap.size ≤ g ∧ Blk wf g 32 [.int .i64 o.k, .slice A5 m c5, .int .i64 b, .slice A7 n7 c7] ∧ wf.ownsRow wr.heap.size 3 1 (.slice A5 m c5) m (ints o.xs) ∧ OwnD wf wr.heap.size A7 n7 c7 ops ∧ Below wr.heap.size wr wf ∧
    Blk wf wr.heap.size 34 [.int .i64 o.k, .slice B' m' d', .string o.t]
def zE : List Value := [.int .i64 0, .slice none 0 0, .int .i64 0, .slice none 0 0]
theorem blk_ne {w : World} {g g' : Nat} {t t' : TypeId} {cs cs' : List Value} (h : Blk w g t cs) (h' : Blk w g' t' cs') (hne : t ≠ t') : g ≠ g' := fun e => by
  subst e
  have := h.symm.trans h'
  injection this with this
  injection this with _ this
  exact hne this
section
variable {wr w7 : World} {g : Nat} {o : Ob} {B' A5 A7 : Option Addr} {m' d' m c5 n7 c7 : Nat} {b : Int} {ops : List Dp}
theorem fin_store (hg : wr.heap.size ≤ g) (hB : Blk w7 g 32 zE) (hb : Below wr.heap.size wr w7) (h5 : w7.ownsRow wr.heap.size 3 1 (.slice A5 m c5) m (ints o.xs)) (h7 : OwnD w7 wr.heap.size A7 n7 c7 ops) (ho : Blk w7 wr.heap.size 34 [.int .i64 o.k, .slice B' m' d', .string o.t]) :
    EntryAt wr ((((w7.setCell ⟨g, 0, none⟩ (.int .i64 o.k)).setCell ⟨g, 1, none⟩ (.slice A5 m c5)).setCell ⟨g, 2, none⟩ (.int .i64 b)).setCell ⟨g, 3, none⟩ (.slice A7 n7 c7)) g o B' m' d' A5 m c5 b A7 n7 c7 ops := by
  have hgr : w7.grownBy ((((w7.setCell ⟨g, 0, none⟩ (.int .i64 o.k)).setCell ⟨g, 1, none⟩ (.slice A5 m c5)).setCell ⟨g, 2, none⟩ (.int .i64 b)).setCell ⟨g, 3, none⟩ (.slice A7 n7 c7)) (some g) := grown_setCell (grown_setCell (grown_setCell (grown_setCell (World.grownBy.refl _ _) _) _) _) _
  have hne : wr.heap.size ≠ g := blk_ne ho hB (by decide)
  exact ⟨hg, (((hB.set_ 0 _).set_ 1 _).set_ 2 _).set_ 3 _, h5.kept hgr (Or.inr (own_ne_blk h5 hB (by decide))), World.ownsRow.kept h7 hgr (Or.inr (own_ne_blk h7 hB (by decide))),
    (((hb.setCell (p := ⟨g, 0, none⟩) hg _).setCell (p := ⟨g, 1, none⟩) hg _).setCell (p := ⟨g, 2, none⟩) hg _).setCell (p := ⟨g, 3, none⟩) hg _, ho.grown hgr (fun e => hne (Option.some.inj e))⟩
theorem fin_alloc (hb : Below wr.heap.size wr w7) (h5 : w7.ownsRow wr.heap.size 3 1 (.slice A5 m c5) m (ints o.xs)) (h7 : OwnD w7 wr.heap.size A7 n7 c7 ops) (ho : Blk w7 wr.heap.size 34 [.int .i64 o.k, .slice B' m' d', .string o.t]) :
    EntryAt wr (w7.alloc (.cells #[.int .i64 o.k, .slice A5 m c5, .int .i64 b, .slice A7 n7 c7] 32)) w7.heap.size o B' m' d' A5 m c5 b A7 n7 c7 ops :=
  have ba := below_box w7 (.cells #[.int .i64 o.k, .slice A5 m c5, .int .i64 b, .slice A7 n7 c7] 32)
  ⟨hb.size, Blk.new w7 _ [.int .i64 o.k, .slice A5 m c5, .int .i64 b, .slice A7 n7 c7], own_below h5 ba, own_below h7 ba, below_ext hb ba, ho.next ba⟩
/-- .. and the node that is made for it -/
def In (wr wx : World) (ge gn : Nat) (gs : List Nat) (o : Ob) (B' : Option Addr) (m' d' : Nat) (A5 : Option Addr) (m c5 : Nat) (b : Int) (A7 : Option Addr) (n7 c7 : Nat) (ops : List Dp) : Prop :=
  EntryAt wr wx ge o B' m' d' A5 m c5 b A7 n7 c7 ops ∧ wr.heap.size ≤ gn ∧ Blk wx gn 57 (nodeC (ptrTo gs b) o.t)
variable {wx wy : World} {ge gn : Nat} {gs : List Nat}
theorem EntryAt.next (h : EntryAt wr wx ge o B' m' d' A5 m c5 b A7 n7 c7 ops) (hb : Below wx.heap.size wx wy) : EntryAt wr wy ge o B' m' d' A5 m c5 b A7 n7 c7 ops := by
  obtain ⟨h1, h2, h3, h4, h5, h6⟩ := h
  exact ⟨h1, h2.next hb, own_below h3 hb, own_below h4 hb, below_ext h5 hb, h6.next hb⟩
theorem In.next (h : In wr wx ge gn gs o B' m' d' A5 m c5 b A7 n7 c7 ops) (hb : Below wx.heap.size wx wy) : In wr wy ge gn gs o B' m' d' A5 m c5 b A7 n7 c7 ops :=
  ⟨h.1.next hb, h.2.1, h.2.2.next hb⟩
theorem In.start (h : EntryAt wr wx ge o B' m' d' A5 m c5 (-1) A7 n7 c7 ops) : In wr (wx.alloc (.cells #[.int .i64 0, .slice none 0 0, .int .i64 0, .slice none 0 0, .pointer none, .string o.t] 57)) ge wx.heap.size gs o B' m' d' A5 m c5 (-1) A7 n7 c7 ops :=
  ⟨h.next (below_box _ _), h.2.2.2.2.1.size, by
    rw [show ptrTo gs (-1) = none from if_pos (by decide)]
    exact Blk.new wx _ (nodeC none o.t)⟩
/-- a better base -/
theorem In.better {A8 : Option Addr} {n8 c8 gb j : Nat} {ops' : List Dp} (h : In wr wx ge gn gs o B' m' d' A5 m c5 b A7 n7 c7 ops) (h8 : OwnD wx wr.heap.size A8 n8 c8 ops') (hj : gs[j]? = some gb) :
    In wr (((wx.setCell ⟨ge, 2, none⟩ (.int .i64 j)).setCell ⟨ge, 3, none⟩ (.slice A8 n8 c8)).setCell ⟨gn, 4, none⟩ (.pointer (some ⟨gb, 0, none⟩))) ge gn gs o B' m' d' A5 m c5 j A8 n8 c8 ops' := by
  obtain ⟨⟨h1, h2, h3, h4, h5, h6⟩, h9, h10⟩ := h
  have hne := blk_ne h2 h10 (by decide)
  have hg1 : wx.grownBy ((wx.setCell ⟨ge, 2, none⟩ (.int .i64 j)).setCell ⟨ge, 3, none⟩ (.slice A8 n8 c8)) (some ge) := grown_setCell (grown_setCell (World.grownBy.refl _ _) _) _
  have k2 : Blk ((wx.setCell ⟨ge, 2, none⟩ (.int .i64 j)).setCell ⟨ge, 3, none⟩ (.slice A8 n8 c8)) ge 32 [.int .i64 o.k, .slice A5 m c5, .int .i64 j, .slice A8 n8 c8] := (h2.set_ 2 _).set_ 3 _
  have k3 := h3.kept hg1 (Or.inr (own_ne_blk h3 h2 (by decide)))
  have k8 := World.ownsRow.kept h8 hg1 (Or.inr (own_ne_blk h8 h2 (by decide)))
  have k10 := h10.grown hg1 (fun e => hne.symm (Option.some.inj e))
  have k6 := h6.grown hg1 (fun e => blk_ne h6 h2 (by decide) (Option.some.inj e))
  have hg2 : ((wx.setCell ⟨ge, 2, none⟩ (.int .i64 j)).setCell ⟨ge, 3, none⟩ (.slice A8 n8 c8)).grownBy (((wx.setCell ⟨ge, 2, none⟩ (.int .i64 j)).setCell ⟨ge, 3, none⟩ (.slice A8 n8 c8)).setCell ⟨gn, 4, none⟩ (.pointer (some ⟨gb, 0, none⟩))) (some gn) := grown_setCell (World.grownBy.refl _ _) _
  have hp : ptrTo gs j = some ⟨gb, 0, none⟩ := by
    unfold ptrTo
    rw [if_neg (by omega), Int.toNat_natCast]
    simp [List.getD, hj]
  refine ⟨⟨h1, k2.grown hg2 (fun e => hne (Option.some.inj e)), k3.kept hg2 (Or.inr (own_ne_blk k3 k10 (by decide))), World.ownsRow.kept k8 hg2 (Or.inr (own_ne_blk k8 k10 (by decide))),
    ((h5.setCell (p := ⟨ge, 2, none⟩) h1 _).setCell (p := ⟨ge, 3, none⟩) h1 _).setCell (p := ⟨gn, 4, none⟩) h9 _, k6.grown hg2 (fun e => blk_ne k6 k10 (by decide) (Option.some.inj e))⟩, h9, ?_⟩
  rw [hp]
  exact k10.set_ 4 _
end
/-- the nodes and the pack so far -/
def St (w wr : World) (os : List Ob) (k : Nat) (N : Option Addr) (cN : Nat) (A2 : Option Addr) (c2 : Nat) (gs : List Nat) (S : Nat → Prop) : Prop :=
  OwnN wr w.heap.size N k cN gs ∧ NodeAll wr w.heap.size gs ((packTo os k).map Pe.b) (os.map Ob.t) ∧ SSl 32 sepPe w.heap.size S wr A2 k c2 (packTo os k) ∧
    (∀ b, S b → w.heap.size ≤ b ∧ b < wr.heap.size) ∧ (∀ g ∈ gs, ¬ S g) ∧ (∀ g, (Value.slice N k cN).ownBlock = some g → ¬ S g) ∧ Below w.heap.size w wr
theorem St.start {w w1 : World} (os : List Ob) (hb : Below w.heap.size w w1) : St w w1 os 0 none 0 none 0 [] (fun _ => False) :=
  ⟨⟨by simp [ptrs], .inl ⟨rfl, rfl⟩⟩, NodeAll.nil, SSl.nil, fun _ h => h.elim, fun _ h => (by simp at h), fun _ h => (by cases h), hb⟩
theorem own_lt {w : World} {B n s : Nat} {e : TypeId} {v : Value} {xs : List Value} (h : w.ownsRow B e s v n xs) {g : Nat} (hg : v.ownBlock = some g) : B ≤ g ∧ g < w.heap.size := by
  rcases h.2 with ⟨rfl, _⟩ | ⟨g', cap, cur, rfl, h1, hh, _⟩
  · cases hg
  · simp only [Value.ownBlock] at hg
    injection hg with hg
    subst hg
    exact ⟨h1, (Array.getElem?_eq_some_iff.1 hh).1⟩
theorem own_other {w : World} {B B' n n' s s' : Nat} {e e' : TypeId} {v v' : Value} {xs xs' : List Value} (h : w.ownsRow B e s v n xs) (h' : w.ownsRow B' e' s' v' n' xs') (hne : e ≠ e') : v.ownBlock = none ∨ v.ownBlock ≠ v'.ownBlock := by
  cases hb : v.ownBlock with
  | none => exact Or.inl rfl
  | some b => exact Or.inr (fun e => own_apart h h' hne b hb e.symm)
theorem pe_made2 {W : World} {lo m c5 n7 c7 : Nat} {A5 A7 : Option Addr} {x : Pe} (h5 : W.ownsRow lo 3 1 (.slice A5 m c5) m (ints x.xs)) (h7 : OwnD W lo A7 n7 c7 x.ops) (ht : ∀ o ∈ x.ops, o.tx.size ≤ maxLen) :
    sepPe.V lo (fun b => (Value.slice A5 m c5).ownBlock = some b ∨ (Value.slice A7 n7 c7).ownBlock = some b) W [.int .i64 x.k, .slice A5 m c5, .int .i64 x.b, .slice A7 n7 c7] x :=
  sepPe_mk (S1 := fun b => (Value.slice A5 m c5).ownBlock = some b) (S2 := fun b => (Value.slice A7 n7 c7).ownBlock = some b) (fun _ h => Or.inl h) (fun _ h => Or.inr h)
    (fun b h h' => own_apart h5 h7 (by decide) b h h') (SSl.of_ints h5 fun b h1 h2 h3 => h3) (h7.ssl ht fun b h1 h2 h3 => h3)
theorem St.done {w wr wx w10 : World} {os : List Ob} {k ge gn cN c2 m' d' m c5 n7 c7 cN' : Nat} {N A2 B' A5 A7 N' : Option Addr} {gs : List Nat} {S : Nat → Prop} {o : Ob}
    (hst : St w wr os k N cN A2 c2 gs S) (hin : In wr wx ge gn gs o B' m' d' A5 m c5 (bestTo o.t (os.map Ob.t) ((packTo os k).map Pe.b) k).1 A7 n7 c7 (bestTo o.t (os.map Ob.t) ((packTo os k).map Pe.b) k).2) (hx : os[k]? = some o)
    (hown10 : w10.ownsRow w.heap.size 55 1 (.slice N' (k + 1) cN') (k + 1) (ptrs gs ++ [.pointer (some ⟨gn, 0, none⟩)]))
    (hg10 : (wx.alloc (.cells #[.pointer (some ⟨gn, 0, none⟩)] 55)).grownBy w10 (Value.slice N k cN).ownBlock)
    (hloc10 : (Value.slice N' (k + 1) cN').ownBlock = (Value.slice N k cN).ownBlock ∨ (Value.slice N' (k + 1) cN').ownBlock = some (wx.alloc (.cells #[.pointer (some ⟨gn, 0, none⟩)] 55)).heap.size) :
    ∃ cs0, Blk w10 ge 32 [.int .i64 o.k, .slice A5 m c5, .int .i64 (bestTo o.t (os.map Ob.t) ((packTo os k).map Pe.b) k).1, .slice A7 n7 c7] ∧
      (w10.alloc (.cells #[.int .i64 o.k, .slice A5 m c5, .int .i64 (bestTo o.t (os.map Ob.t) ((packTo os k).map Pe.b) k).1, .slice A7 n7 c7] 32)).ownsRow w.heap.size 32 4 (.slice A2 k c2) k cs0 ∧
      (∀ (j : Nat) (u : Value), [.int .i64 o.k, .slice A5 m c5, .int .i64 (bestTo o.t (os.map Ob.t) ((packTo os k).map Pe.b) k).1, .slice A7 n7 c7][j]? = some u → (w10.alloc (.cells #[.int .i64 o.k, .slice A5 m c5, .int .i64 (bestTo o.t (os.map Ob.t) ((packTo os k).map Pe.b) k).1, .slice A7 n7 c7] 32)).cell? ((⟨w10.heap.size, 0, none⟩ : Addr).add j) = some u) ∧
      w.heap.size ≤ (w10.alloc (.cells #[.int .i64 o.k, .slice A5 m c5, .int .i64 (bestTo o.t (os.map Ob.t) ((packTo os k).map Pe.b) k).1, .slice A7 n7 c7] 32)).heap.size ∧
      ∀ (A' : Option Addr) (c' : Nat) (w11 : World), w11.ownsRow w.heap.size 32 4 (.slice A' (k + 1) c') (k + 1) (cs0 ++ [.int .i64 o.k, .slice A5 m c5, .int .i64 (bestTo o.t (os.map Ob.t) ((packTo os k).map Pe.b) k).1, .slice A7 n7 c7]) →
        (w10.alloc (.cells #[.int .i64 o.k, .slice A5 m c5, .int .i64 (bestTo o.t (os.map Ob.t) ((packTo os k).map Pe.b) k).1, .slice A7 n7 c7] 32)).grownBy w11 (Value.slice A2 k c2).ownBlock →
        ((Value.slice A' (k + 1) c').ownBlock = (Value.slice A2 k c2).ownBlock ∨ (Value.slice A' (k + 1) c').ownBlock = some (w10.alloc (.cells #[.int .i64 o.k, .slice A5 m c5, .int .i64 (bestTo o.t (os.map Ob.t) ((packTo os k).map Pe.b) k).1, .slice A7 n7 c7] 32)).heap.size) →
        ∃ S', St w w11 os (k + 1) N' cN' A' c' (gs ++ [gn]) S' := by
  have hrg := bestTo_range (t := o.t) (ts := os.map Ob.t) (bs := (packTo os k).map Pe.b) k
  have hps := packTo_snoc hx
  have hsm : ∀ y ∈ (bestTo o.t (os.map Ob.t) ((packTo os k).map Pe.b) k).2, y.tx.size ≤ maxLen := fun y hy => by
    rw [bestTo_ops] at hy
    have := (dmake_small _ _).2 y hy
    simp only [maxLen]; omega
  generalize bestTo o.t (os.map Ob.t) ((packTo os k).map Pe.b) k = G at *
  obtain ⟨bi, bo⟩ := G
  simp only at *
  obtain ⟨s1, s2, s3, s4, s5, s6, s7⟩ := hst
  obtain ⟨⟨e1, e2, e3, e4, e5, e6⟩, n1, n2⟩ := hin
  have bp := below_box wx (.cells #[.pointer (some ⟨gn, 0, none⟩)] 55)
  have bwy := below_ext (below_ext s7 e5) bp
  -- at wy
  have s1y : OwnN (wx.alloc (.cells #[.pointer (some ⟨gn, 0, none⟩)] 55)) w.heap.size N k cN gs := own_below (own_below s1 e5) bp
  have s2y := (s2.next e5).next bp
  have s3y := (s3.next e5 (fun b hb => (s4 b hb).2)).next bp (fun b hb => Nat.lt_of_lt_of_le (s4 b hb).2 e5.size)
  have e2y := e2.next bp
  have e3y := own_below e3 bp
  have e4y : OwnD (wx.alloc (.cells #[.pointer (some ⟨gn, 0, none⟩)] 55)) wr.heap.size A7 n7 c7 bo := own_below e4 bp
  have n2y := n2.next bp
  have hzx := e5.size
  have hzy := bp.size
  generalize wx.alloc (.cells #[.pointer (some ⟨gn, 0, none⟩)] 55) = wy at *
  -- at w10
  have s2t : NodeAll w10 w.heap.size gs ((packTo os k).map Pe.b) (os.map Ob.t) := s2y.grown hg10 (fun g hg => by
    obtain ⟨_, cs, hB⟩ := s2y.mem hg
    exact fun e => own_ne_blk s1y hB (by decide) e.symm)
  have hsub : ∀ b, S b → b < wy.heap.size := fun b hb => Nat.lt_of_lt_of_le (s4 b hb).2 (by omega)
  have s3t : SSl 32 sepPe w.heap.size S w10 A2 k c2 (packTo os k) := s3y.kept fun b hb => hg10.block b (hsub b hb) (fun e => s6 b e.symm hb)
  have e2t := e2y.grown hg10 (fun e => own_ne_blk s1y e2y (by decide) e.symm)
  have e3t := e3y.kept hg10 (own_other e3y s1y (by decide))
  have e4t : OwnD w10 wr.heap.size A7 n7 c7 bo := World.ownsRow.kept e4y hg10 (own_other e4y s1y (by decide))
  have n2t := n2y.grown hg10 (fun e => own_ne_blk s1y n2y (by decide) e.symm)
  have hwy : w.heap.size ≤ wy.heap.size := by have := s7.size; omega
  have bt : Below w.heap.size w w10 := by
    exact bwy.grown hg10 hwy (fun g hg => (own_lt s1y hg).1)
  have hz10 := hg10.size
  have hnn : ∀ g, (Value.slice N' (k + 1) cN').ownBlock = some g → ¬ S g := fun g hg hS => by
    rcases hloc10 with e | e
    · exact s6 g (e ▸ hg) hS
    · rw [e] at hg
      injection hg with hg
      have := hsub g hS
      omega
  have bw := below_box w10 (.cells #[.int .i64 o.k, .slice A5 m c5, .int .i64 bi, .slice A7 n7 c7] 32)
  have hv := pe_made2 (x := ⟨o.k, o.xs, bi, bo⟩) e3t e4t hsm
  obtain ⟨cs0, hown, hgrow⟩ := s3t.grow
  have hownW := own_below hown bw
  have hN : ∀ b, ((Value.slice A5 m c5).ownBlock = some b ∨ (Value.slice A7 n7 c7).ownBlock = some b) → wr.heap.size ≤ b ∧ b < w10.heap.size := fun b hb => hb.elim (fun h => own_lt e3t h) (fun h => own_lt e4t h)
  have hzW := bw.size
  have hzW2 := size_alloc w10 (.cells #[.int .i64 o.k, .slice A5 m c5, .int .i64 bi, .slice A7 n7 c7] 32)
  have hvW := sepPe.down (sepPe.kept hv fun b hb => bw.block b (hN b hb).2) (show w.heap.size ≤ wr.heap.size from s7.size)
  have s2W := s2t.next bw
  have n2W := n2t.next bw
  have s1W : OwnN (w10.alloc (.cells #[.int .i64 o.k, .slice A5 m c5, .int .i64 bi, .slice A7 n7 c7] 32)) w.heap.size N' (k + 1) cN' (gs ++ [gn]) := by
    unfold OwnN
    rw [show ptrs (gs ++ [gn]) = ptrs gs ++ [.pointer (some ⟨gn, 0, none⟩)] by simp [ptrs]]
    exact own_below hown10 bw
  have bWW := below_ext bt bw
  have hcW := (Blk.new w10 32 [.int .i64 o.k, .slice A5 m c5, .int .i64 bi, .slice A7 n7 c7]).cellsAt
  have hkeep : ∀ b, S b → (w10.alloc (.cells #[.int .i64 o.k, .slice A5 m c5, .int .i64 bi, .slice A7 n7 c7] 32)).heap[b]? = w10.heap[b]? := fun b hb => bw.block b (Nat.lt_of_lt_of_le (hsub b hb) hz10)
  refine ⟨cs0, e2t, hownW, hcW, by omega, ?_⟩
  clear hcW
  generalize w10.alloc (.cells #[.int .i64 o.k, .slice A5 m c5, .int .i64 bi, .slice A7 n7 c7] 32) = W at *
  intro A' c' w11 ho hg hloc
  have hz11 := hg.size
  have hlen := s1.len
  refine ⟨fun b => S b ∨ ((Value.slice A5 m c5).ownBlock = some b ∨ (Value.slice A7 n7 c7).ownBlock = some b) ∨ (b = W.heap.size ∧ W.heap.size < w11.heap.size), World.ownsRow.kept s1W hg (own_other s1W hownW (by decide)), ?_, ?_, ?_, ?_, ?_, bWW.grown hg (by have := bWW.size; omega) (fun g h => (own_lt hownW h).1)⟩
  · rw [hps, List.map_append]
    refine NodeAll.snoc (s2W.grown hg (fun g hgm => by
      obtain ⟨_, cs, hB⟩ := s2W.mem hgm
      exact fun e => own_ne_blk hownW hB (by decide) e.symm)) (packTo_okB os k) (by show bi < _; omega) (by rw [hlen, List.getElem?_map, hx]; rfl) (Nat.le_trans s7.size n1) (n2W.grown hg (fun e => own_ne_blk hownW n2W (by decide) e.symm))
  · rw [hps]
    exact hgrow W w11 _ _ _ _ A' c' hkeep (fun b hb => by have := hsub b hb; omega) (fun b hb hS => by have := (hN b hb).1; have := (s4 b hS).2; omega) (fun b hb => by have := (hN b hb).2; omega) (fun b hb => Or.inl hb) (fun b hb => Or.inr (Or.inl hb)) (fun h => Or.inr (Or.inr ⟨rfl, h⟩)) hvW ho hg hloc
  · rintro b (hb | hb | ⟨rfl, hb⟩)
    · have h1 := s4 b hb
      have h2 := hsub b hb
      exact ⟨h1.1, by omega⟩
    · have h1 := hN b hb
      have h2 := s7.size
      exact ⟨by omega, by omega⟩
    · have := bWW.size
      exact ⟨by omega, hb⟩
  · intro g hgm
    have hB : ∃ cs, Blk w10 g 57 cs := by
      rcases List.mem_append.1 hgm with h1 | h1
      · exact (s2t.mem h1).2
      · rw [List.mem_singleton.1 h1]; exact ⟨_, n2t⟩
    obtain ⟨cs, hB⟩ := hB
    rintro (hb | (hb | hb) | ⟨hb, _⟩)
    · rcases List.mem_append.1 hgm with h1 | h1
      · exact s5 g h1 hb
      · rw [List.mem_singleton.1 h1] at hb
        have := (s4 _ hb).2
        omega
    · exact own_ne_blk e3t hB (by decide) hb
    · exact own_ne_blk e4t hB (by decide) hb
    · have := hB.lt
      omega
  · intro g hgo
    rintro (hb | (hb | hb) | ⟨hb, _⟩)
    · exact hnn g hgo hb
    · exact own_apart hown10 e3t (by decide) g hgo hb
    · exact own_apart hown10 e4t (by decide) g hgo hb
    · have := (own_lt hown10 hgo).2
      omega
end Go.Proofs.Ytkekcgamhhmjnaa
