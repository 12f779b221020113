/- Plain: what the coordinator's functions return, and how small a valid coordinator is. -/
import Derived.Test.YtlmcejpjhdaanaaCoPlain
import Derived.Test.YtlmcejpjhdaanaaCopyS
namespace Go.Proofs.Ytlmcejpjhdaanaa
open Go.RowKit Go.Sort

/-- a chain of strictly growing numbers between two bounds is short -/
theorem chain_len {α : Type} (p : α → Bool) (f : α → Int) (hi : Int) : ∀ (xs : List α) (lo : Int), chainB p (fun a b => decide (f a < f b)) xs = true → (∀ x ∈ xs, f x ≤ hi) → (∀ x, xs[0]? = some x → lo ≤ f x) → xs ≠ [] → (xs.length : Int) ≤ hi - lo + 1
  | [], _, _, _, _, h => absurd rfl h
  | [x], lo, _, h2, h3, _ => by
    have a1 := h2 x (by simp)
    have a2 := h3 x rfl
    simp
    omega
  | x :: y :: l, lo, h1, h2, h3, _ => by
    simp only [chainB, Bool.and_eq_true, decide_eq_true_eq] at h1
    have a2 := h3 x rfl
    have := chain_len p f hi (y :: l) (lo + 1) h1.2 (fun z hz => h2 z (List.mem_cons_of_mem _ hz)) (fun z hz => by simp at hz; subst hz; omega) (by simp)
    simp only [List.length_cons] at this ⊢
    omega
theorem updB_len {us : List Up} (h : updB us = true) : us.length ≤ 4 := by
  unfold updB ascU at h
  simp only [Bool.and_eq_true, decide_eq_true_eq] at h
  have hm := chainB_mem _ _ h.1
  have hr : ∀ x ∈ us, 0 ≤ x.ref ∧ x.ref ≤ 3 := fun x hx => by
    have := (upOk_parts (hm x hx)).1
    unfold refB at this
    simpa using this
  have := chain_len upOk (fun u => u.ref) 3 us 0 h.1 (fun x hx => (hr x hx).2) (fun x hx => (hr x (List.mem_of_getElem? hx)).1) (by intro e; subst e; simp at h)
  omega
theorem partsB_len {ps : List Pt} (h : partsB ps = true) : 0 < ps.length ∧ ps.length ≤ 3 ∧ ∀ p ∈ ps, p.us.length ≤ 4 ∧ updB p.us = true ∧ 0 ≤ p.shard ∧ p.shard ≤ 2 := by
  unfold partsB ascP at h
  simp only [Bool.and_eq_true, decide_eq_true_eq] at h
  have hm := chainB_mem _ _ h.1
  have hr : ∀ x ∈ ps, (0 ≤ x.shard ∧ x.shard ≤ 2) ∧ updB x.us = true := fun x hx => by
    have := hm x hx
    unfold ptOk shardB at this
    simpa using this
  have := chain_len ptOk (fun u => u.shard) 2 ps 0 h.1 (fun x hx => (hr x hx).1.2) (fun x hx => (hr x (List.mem_of_getElem? hx)).1.1) (by intro e; subst e; simp at h)
  exact ⟨h.2, by omega, fun p hp => ⟨updB_len (hr p hp).2, (hr p hp).2, (hr p hp).1⟩⟩
theorem partsB_small {ps : List Pt} (h : partsB ps = true) : smallU ps := by
  obtain ⟨h1, h2, h3⟩ := partsB_len h
  exact ⟨by omega, fun p hp => by have := (h3 p hp).1; omega⟩
theorem txB_parts {t : Tx} (h : txB t = true) : partsB t.ps = true ∧ t.vs.length = t.ps.length ∧ votesB t.vs = true ∧ decB t = true := by
  unfold txB at h
  simp only [Bool.and_eq_true, decide_eq_true_eq] at h
  exact ⟨h.1.2.1, h.1.2.2, h.1.1, h.2⟩
theorem coB_parts {q : Co} (h : coB q = true) : (∀ t ∈ q.ts, txB t = true) ∧ (∀ (k : Nat) (t : Tx), q.ts[k]? = some t → (t.dec == 2) = hasI q.ord (k : Int)) ∧ q.ts.length ≤ 12 ∧ q.ord.length = cntC q.ts := by
  unfold coB at h
  simp only [Bool.and_eq_true, decide_eq_true_eq] at h
  obtain ⟨h1, h2⟩ := (allOk_tx _ _ _).1 h.1
  exact ⟨h1, fun k t ht => by have := h2 k t ht; rwa [Nat.zero_add] at this, h.2.1, h.2.2⟩
theorem coB_mk {q : Co} (h1 : ∀ t ∈ q.ts, txB t = true) (h2 : ∀ (k : Nat) (t : Tx), q.ts[k]? = some t → (t.dec == 2) = hasI q.ord (k : Int)) (h3 : q.ts.length ≤ 12) (h4 : q.ord.length = cntC q.ts) : coB q = true := by
  unfold coB
  simp only [Bool.and_eq_true, decide_eq_true_eq]
  exact ⟨(allOk_tx _ _ _).2 ⟨h1, fun k t ht => by rw [Nat.zero_add]; exact h2 k t ht⟩, h3, h4⟩
theorem coB_small {q : Co} (h : coB q = true) : smallQ q := by
  obtain ⟨h1, _, h3, h4⟩ := coB_parts h
  have : cntC q.ts ≤ q.ts.length := List.countP_le_length
  refine ⟨by omega, by omega, fun t ht => ?_⟩
  obtain ⟨p1, p2, _⟩ := txB_parts (h1 t ht)
  have := (partsB_len p1).2.1
  exact ⟨partsB_small p1, by omega⟩

def noQ : Co := ⟨[], []⟩
/-- begin -/
def newTx (ps : List Pt) : Tx := ⟨ps, List.replicate ps.length 0, 0⟩
def beginQ (q : Co) (ps : List Pt) : Co × Bool := if coB q && partsB ps then (if q.ts.length < 12 then (⟨q.ts ++ [newTx ps], q.ord⟩, true) else (q, false)) else (noQ, false)
/-- the transaction with a number, if it is not decided -/
def openQ (q : Co) (t : Int) : Option Tx := if 0 ≤ t then (q.ts[t.toNat]?).filter (fun x => x.dec == 0) else none
def setQ (q : Co) (t : Nat) (x : Tx) : List Tx := q.ts.set t x
def timeoutQ (q : Co) (t : Int) : Co × Bool := if coB q then (match openQ q t with
  | some x => (⟨q.ts.set t.toNat ⟨x.ps, x.vs, 3⟩, q.ord⟩, true)
  | none => (q, false)) else (noQ, false)
/-- the index of the part of a shard -/
def shAt (ps : List Pt) (s : Int) : Option Nat := ps.findIdx? (fun p => p.shard == s)
def vote1 (q : Co) (t : Nat) (x : Tx) (k : Nat) (yes : Bool) : Co :=
  if yes then (if (x.vs.set k 1).all (· == 1) then ⟨q.ts.set t ⟨x.ps, x.vs.set k 1, 2⟩, q.ord ++ [(t : Int)]⟩ else ⟨q.ts.set t ⟨x.ps, x.vs.set k 1, x.dec⟩, q.ord⟩)
  else ⟨q.ts.set t ⟨x.ps, x.vs.set k (-1), 3⟩, q.ord⟩
def voteQ (q : Co) (t : Int) (s : Int) (yes : Bool) : Co × Bool := if coB q then (match openQ q t with
  | none => (q, false)
  | some x => match shAt x.ps s with
    | none => (q, false)
    | some k => if x.vs[k]? = some 0 then (vote1 q t.toNat x k yes, true) else (q, false)) else (noQ, false)
/-- the shards whose votes are missing -/
def missI : List Pt → List Int → List Int
  | p :: ps, v :: vs => (if v = 0 then [p.shard] else []) ++ missI ps vs
  | _, _ => []
def waitsQ (q : Co) (t : Int) : List Int := if coB q then (match openQ q t with
  | some x => missI x.ps x.vs
  | none => []) else []
/-- a coordinator in new memory, and a bool -/
def CoTo2 (w : World) (r : Co × Bool) (e : Ending) (w' : World) : Prop := ∃ cs, e = .returned (.tuple #[.agg cs.toArray, .bool r.2]) ∧ sepCo.V w.heap.size (Iv w.heap.size w'.heap.size) w' cs r.1 ∧ Below w.heap.size w w'
theorem noQ_sep {lo : Nat} {S : Nat → Prop} {w : World} : sepCo.V lo S w [.slice none 0 0, .slice none 0 0] noQ :=
  sepCo_mk (S1 := noB) (S2 := noB) (fun _ h => h.elim) (fun _ h => h.elim) (fun _ h => h.elim) SSl.nil SSl.nil
theorem own_blk_ints {w : World} {lo g : Nat} {T : TypeId} {xs : List Int} (h : Blk w g T (ints xs)) (hlo : lo ≤ g) (hl : xs.length ≤ maxLen) : w.ownsRow lo T 1 (.slice (some ⟨g, 0, none⟩) xs.length xs.length) xs.length (ints xs) :=
  ⟨by rw [length_ints]; omega, .inr ⟨g, xs.length, (ints xs).toArray, rfl, hlo, h, Nat.le_refl _, hl, by simp [length_ints], by
    simp only [Nat.mul_one]
    exact List.take_of_length_le (by rw [length_ints]; omega)⟩⟩
/-- one more transaction at the end -/
theorem begin_grow {T : TypeId} {B p d n c z : Nat} {P V : Option Addr} {x : Tx} {w6 W w9 : World} {lo : Nat} {A A9 : Option Addr} {k d1 d9 : Nat} {ts : List Tx} {cs0 : List Value} {o : Obj} {S1 : Nat → Prop} (hF : Fin B W P p d V n c x)
    (hgrow : ∀ (w2 w3 : World) (cs : List Value) (x : Tx) (N S' : Nat → Prop) (A' : Option Addr) (c' : Nat), (∀ b, S1 b → w2.heap[b]? = w6.heap[b]?) → (∀ b, S1 b → b < w2.heap.size) → (∀ b, N b → ¬ S1 b) → (∀ b, N b → b < w2.heap.size) →
      (∀ b, S1 b → S' b) → (∀ b, N b → S' b) → (w2.heap.size < w3.heap.size → S' w2.heap.size) → sepTx.V lo N w2 cs x →
      w3.ownsRow lo T sepTx.rep.sz (.slice A' (k + 1) c') (k + 1) (cs0 ++ cs) → w2.grownBy w3 (Value.slice A k d1).ownBlock → ((Value.slice A' (k + 1) c').ownBlock = (Value.slice A k d1).ownBlock ∨ (Value.slice A' (k + 1) c').ownBlock = some w2.heap.size) →
      SSl T sepTx lo S' w3 A' (k + 1) c' (ts ++ [x]))
    (hB : B = w6.heap.size) (hlo : lo ≤ w6.heap.size) (hSs : ∀ b, S1 b → b < z) (hz : z ≤ w6.heap.size) (hb : Below w6.heap.size w6 W)
    (hown9 : w9.ownsRow lo T 3 (.slice A9 (k + 1) d9) (k + 1) (cs0 ++ [.slice P p d, .slice V n c, .int .i64 x.dec])) (hg9 : (W.alloc o).grownBy w9 (Value.slice A k d1).ownBlock) (hloc9 : (Value.slice A9 (k + 1) d9).ownBlock = (Value.slice A k d1).ownBlock ∨ (Value.slice A9 (k + 1) d9).ownBlock = some (W.alloc o).heap.size) :
    SSl T sepTx lo (fun b => S1 b ∨ Iv w6.heap.size w9.heap.size b) w9 A9 (k + 1) d9 (ts ++ [x]) := by
  subst hB
  have hb1 := below_ext hb (below_box W o)
  have z1 := hb.size
  have z2 := hg9.size
  have z3 : (W.alloc o).heap.size = W.heap.size + 1 := by simp
  exact hgrow (W.alloc o) w9 _ x (Iv w6.heap.size W.heap.size) _ A9 d9 (fun b hb' => hb1.block b (by have := hSs b hb'; omega)) (fun b hb' => by have := hSs b hb'; omega) (fun b h1 h2 => by have := hSs b h2; have := h1.1; omega) (fun b h1 => by have := h1.2; omega)
    (fun b h1 => Or.inl h1) (fun b h1 => Or.inr ⟨h1.1, by have := h1.2; omega⟩) (fun h1 => Or.inr ⟨by omega, h1⟩) (fin_tx hF hlo o) hown9 hg9 hloc9
/-- zeros in a block of their own -/
theorem zeros_own {B z n : Nat} {w : World} {S : Nat → Prop} (h : Blk w z 3 (ints (List.replicate n 0))) (hB : B ≤ z) (hn : n ≤ 100000000) (hS : S z) : SSl 3 sepIntW B S w (some ⟨z, 0, none⟩) n n (List.replicate n 0) := by
  have h0 := own_blk_ints (lo := B) h hB (by simp [maxLen]; omega)
  simp only [List.length_replicate] at h0
  refine SSl.of_intsW h0 (fun x hx => ?_) (fun b _ _ hb => ?_)
  · have := (List.mem_replicate.1 hx).2
    subst this
    unfold wf64
    omega
  · simp only [Value.ownBlock] at hb
    injection hb with hb
    exact hb ▸ hS
/-- the parts first, then the votes -/
theorem fin_z1 {w3d w4 : World} {B n d : Nat} {A : Option Addr} {ps : List Pt} (hS4 : SSl 51 sepPt w3d.heap.size (Iv w3d.heap.size w4.heap.size) w4 A n d ps) (hb : Below w3d.heap.size w3d w4) (hB : B ≤ w3d.heap.size) (hn : ps.length = n) (hn' : n ≤ 100000000) :
    Fin B (w4.alloc (.cells (ints (List.replicate n 0)).toArray 3)) A n d (some ⟨w4.heap.size, 0, none⟩) n n (newTx ps) := by
  have hz := hb.size
  refine ⟨Iv w3d.heap.size w4.heap.size, fun b => b = w4.heap.size, fun b h => ⟨by have := h.1; omega, by have := h.2; simp; omega⟩, fun b h => by subst h; exact ⟨by omega, by simp⟩, fun b h h' => by have := h.2; omega, ?_, ?_⟩
  · exact (hS4.next (below_box w4 _) (fun b h => h.2)).down hB
  · show SSl _ _ _ _ _ _ _ _ (List.replicate ps.length 0)
    rw [hn]
    exact zeros_own (Blk.new w4 3 _) (by omega) hn' rfl
/-- the votes first, then the parts -/
theorem fin_z2 {w3 w4 : World} {B n d : Nat} {A : Option Addr} {ps : List Pt} (hS4 : SSl 51 sepPt (w3.alloc (.cells (ints (List.replicate n 0)).toArray 3)).heap.size (Iv (w3.alloc (.cells (ints (List.replicate n 0)).toArray 3)).heap.size w4.heap.size) w4 A n d ps)
    (hb : Below (w3.alloc (.cells (ints (List.replicate n 0)).toArray 3)).heap.size (w3.alloc (.cells (ints (List.replicate n 0)).toArray 3)) w4) (hB : B ≤ w3.heap.size) (hn : ps.length = n) (hn' : n ≤ 100000000) :
    Fin B w4 A n d (some ⟨w3.heap.size, 0, none⟩) n n (newTx ps) := by
  have hz := hb.size
  have hz0 : (w3.alloc (.cells (ints (List.replicate n 0)).toArray 3)).heap.size = w3.heap.size + 1 := by simp
  refine ⟨Iv (w3.alloc (.cells (ints (List.replicate n 0)).toArray 3)).heap.size w4.heap.size, fun b => b = w3.heap.size, fun b h => ⟨by have := h.1; omega, h.2⟩, fun b h => by subst h; exact ⟨by omega, by omega⟩, fun b h h' => by have := h.1; omega, ?_, ?_⟩
  · exact hS4.down (by omega)
  · show SSl _ _ _ _ _ _ _ _ (List.replicate ps.length 0)
    rw [hn]
    exact zeros_own ((Blk.new w3 3 _).next hb) (by omega) hn' rfl
/-- what a call hands out that has copied a coordinator and stored it into its result's cells -/
theorem out_copy {w w2 F : World} {lo : Nat} {cs : List Value} {q : Co} (hC : sepCo.V lo (Iv lo w2.heap.size) w2 cs q) (hk : ∀ b, lo ≤ b → b < w2.heap.size → F.heap[b]? = w2.heap[b]?) (hl : w.heap.size ≤ lo) (hF : w2.heap.size ≤ F.heap.size) : sepCo.V w.heap.size (Iv w.heap.size F.heap.size) F cs q :=
  sepCo.down (sepCo.wide (sepCo.kept hC (fun b hb => hk b hb.1 hb.2)) (fun b hb => ⟨by have := hb.1; omega, by have := hb.2; omega⟩)) hl
theorem out_begin {w w9 F : World} {lo g n9 d9 m e : Nat} {A9 O : Option Addr} {S1 S2 : Nat → Prop} {ts9 : List Tx} {os : List Int} (hSF : SSl 35 sepTx lo (fun b => S1 b ∨ Iv (g + 1) w9.heap.size b) w9 A9 n9 d9 ts9) (hSO : SSl 3 sepInt lo S2 w9 O m e os)
    (h1 : ∀ b, S1 b → Iv lo g b) (h2 : ∀ b, S2 b → Iv lo g b) (h3 : ∀ b, S1 b → ¬ S2 b) (hlo : w.heap.size + 2 ≤ lo) (hlg : lo ≤ g) (hg : g < w9.heap.size) (hk : ∀ b, b ≠ g → b ≠ w.heap.size + 1 → F.heap[b]? = w9.heap[b]?) (hF : w9.heap.size ≤ F.heap.size) :
    sepCo.V w.heap.size (Iv w.heap.size F.heap.size) F [.slice A9 n9 d9, .slice O m e] ⟨ts9, os⟩ := by
  refine sepCo_mk (S1 := fun b => S1 b ∨ Iv (g + 1) w9.heap.size b) (S2 := S2) ?_ ?_ ?_ ?_ ?_
  · intro b hb
    rcases hb with hb | hb
    · have := h1 b hb; exact ⟨by have := this.1; omega, by have := this.2; omega⟩
    · exact ⟨by have := hb.1; omega, by have := hb.2; omega⟩
  · intro b hb; have := h2 b hb; exact ⟨by have := this.1; omega, by have := this.2; omega⟩
  · intro b hb hc
    have := h2 b hc
    rcases hb with hb | hb
    · exact h3 b hb hc
    · have h4 := hb.1; have := this.2; omega
  · refine (hSF.kept (fun b hb => hk b ?_ ?_)).down (by omega)
    · rcases hb with hb | hb
      · have := (h1 b hb).2; omega
      · have := hb.1; omega
    · rcases hb with hb | hb
      · have := (h1 b hb).1; omega
      · have := hb.1; omega
  · exact (hSO.kept (fun b hb => hk b (by have := (h2 b hb).2; omega) (by have := (h2 b hb).1; omega))).down (by omega)
end Go.Proofs.Ytlmcejpjhdaanaa
