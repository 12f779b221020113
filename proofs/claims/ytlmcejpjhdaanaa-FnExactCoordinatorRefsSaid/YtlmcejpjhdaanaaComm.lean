/- A walk's rules for a function that sends and receives in one goroutine, where nothing waits: like the kit's 'Code.wp', for a function's own frame alone. -/
import Derived.Test.YtlmcejpjhdaanaaIds
import Derived.Test.YtlmcejpjhdaanaaMem
import Derived.Conc.LoneCalls
namespace Go.Proofs.Ytlmcejpjhdaanaa
open Go.Conc Go.RowKit

/-- from here the code comes to an end of which Q holds, in a frame of the usual kind -/
def WpN (P : Program) (c : Code) (Q : Exit → Act → World → Prop) (a : Act) (w : World) : Prop :=
  ∀ (b : Frame) (k : List Item) (cs : List Frame), b.kind = .normal → ∃ e a' w', Q e a' w' ∧ Arrives P (lone (b.at a (.code c :: k)) cs w) b k cs e a' w'
/-- .. from within a region, these operations being left -/
def OpsN (P : Program) (ops : Array Oper) (Q : Exit → Act → World → Prop) (l : List Nat) (a : Act) (w : World) : Prop :=
  ∀ (b : Frame) (k : List Item) (cs : List Frame), b.kind = .normal → ∃ e a' w', Q e a' w' ∧ Arrives P (lone (b.at a (.inRegion ops l :: k)) cs w) b k cs e a' w'
section
variable {P : Program} {Q : Exit → Act → World → Prop} {a : Act} {w : World}
theorem wpn_wp {c : Code} (h : c.wp P Q a w) : WpN P c Q a w := fun b k cs _ => h b k cs
theorem then_of_ne {K : Act → World → Prop} {e : Exit} {a : Act} {w : World} (he : e ≠ .normal) (h : Exit.then K Q e a w) : Q e a w := by
  cases e <;> first | exact h | exact absurd rfl he
theorem wpn_seq {x y : Code} (h : WpN P x (Exit.then (WpN P y Q) Q) a w) : WpN P (.seq x y) Q a w := fun b k cs hb => by
  obtain ⟨e, a₁, w₁, hq, hx⟩ := h b (.code y :: k) cs hb
  by_cases he : e = .normal
  · subst he
    obtain ⟨e₂, a₂, w₂, hq₂, hy⟩ := hq b k cs hb
    exact ⟨e₂, a₂, w₂, hq₂, .of_steps (.head step_seq hx) hy⟩
  · exact ⟨e, a₁, w₁, then_of_ne he hq, .of_steps (.one step_seq) (.pass (x := .code y) rfl (fun _ _ => .inl he) hx)⟩
/-- what leaves a block by its own exit, or runs out of it -/
def Out (id : Nat) (Q : Exit → Act → World → Prop) (e : Exit) (a : Act) (w : World) : Prop := (e = .exit id ∨ e = .normal) ∧ Q .normal a w ∨ e = .ret ∧ Q .ret a w
theorem out_arrives {m : Machine} {b : Frame} {k : List Item} {cs : List Frame} {id : Nat} {e : Exit} {a : Act} {w : World} (hq : Out id Q e a w) (h : Arrives P m b (.inBlock id :: k) cs e a w) : ∃ e a' w', Q e a' w' ∧ Arrives P m b k cs e a' w' := by
  rcases hq with ⟨rfl | rfl, hq⟩ | ⟨rfl, hq⟩
  · exact ⟨.normal, a, w, hq, h k (by simp [exitTo])⟩
  · exact ⟨.normal, a, w, hq, Steps.trans h (.one step_inBlock)⟩
  · exact ⟨.ret, a, w, hq, h⟩
theorem wpn_block {id : Nat} {c : Code} (h : WpN P c (Out id Q) a w) : WpN P (.block id c) Q a w := fun b k cs hb => by
  obtain ⟨e, a₁, w₁, hq, hx⟩ := h b (.inBlock id :: k) cs hb
  obtain ⟨e₂, a₂, w₂, hq₂, hy⟩ := out_arrives hq hx
  exact ⟨e₂, a₂, w₂, hq₂, .of_steps (.one step_block) hy⟩
/-- a loop in its block: I at the head of each round, m rounds at the most left -/
theorem wpn_while {id : Nat} {c : Code} (I : Nat → Act → World → Prop) (m : Nat) (h₀ : I m a w)
    (round : ∀ m a w, I m a w → WpN P c (fun e a' w' => (e = .normal ∧ ∃ m', m' < m ∧ I m' a' w') ∨ e = .exit id ∧ Q .normal a' w') a w) : WpN P (.block id (.loop c)) Q a w := fun b k cs hb => by
  have key : ∀ m a w, I m a w → ∃ e a' w', Q e a' w' ∧ Arrives P (lone (b.at a (.code c :: .inLoop c :: .inBlock id :: k)) cs w) b k cs e a' w' := by
    intro m
    induction m using Nat.strongRecOn with
    | _ m ih =>
      intro a w hI
      obtain ⟨e, a₁, w₁, hq, hx⟩ := round m a w hI b (.inLoop c :: .inBlock id :: k) cs hb
      rcases hq with ⟨rfl, m', hlt, hI'⟩ | ⟨rfl, hq⟩
      · obtain ⟨e₂, a₂, w₂, hq₂, hy⟩ := ih m' hlt a₁ w₁ hI'
        exact ⟨e₂, a₂, w₂, hq₂, .of_steps (Steps.trans hx (.one step_inLoop)) hy⟩
      · exact ⟨.normal, a₁, w₁, hq, hx k (by simp [exitTo])⟩
  obtain ⟨e, a', w', hq, hx⟩ := key m a w h₀
  exact ⟨e, a', w', hq, .of_steps (.head step_block (.one step_loop)) hx⟩
theorem wpn_seq_k {x y : Code} (h : ∀ K : Act → World → Prop, Hid (∀ a w, WpN P y Q a w → K a w) → WpN P x (Exit.then K Q) a w) : WpN P (.seq x y) Q a w := wpn_seq (h _ fun _ _ h => h)
theorem wpn_while_k {id : Nat} {c : Code} (I : Nat → Act → World → Prop) (m : Nat) (h₀ : I m a w)
    (round : ∀ m a w, I m a w → ∀ K X : Act → World → Prop, Hid (∀ m' a w, m' < m → I m' a w → K a w) → Hid (∀ a w, Q .normal a w → X a w) → WpN P c (fun e a' w' => (e = .normal ∧ K a' w') ∨ e = .exit id ∧ X a' w') a w) : WpN P (.block id (.loop c)) Q a w :=
  wpn_while I m h₀ fun m a w hI => round m a w hI (fun a' w' => ∃ m', m' < m ∧ I m' a' w') (fun a' w' => Q .normal a' w') (fun _ _ _ h1 h2 => ⟨_, h1, h2⟩) (fun _ _ h => h)
/-- .. the slots told by a list L of values, those that don't matter by u -/
theorem wpn_while_u {id : Nat} {c : Code} (n : Nat) (L : Nat → (Nat → Value) → Act) (J : Nat → World → Prop) (h₀ : a = L 0 (fun i => a.tmps.getD i undef)) (hJ : J 0 w)
    (round : ∀ (k : Nat) (u : Nat → Value) (w : World), k ≤ n → J k w → ∀ K X : Act → World → Prop, Hid (∀ a w, a = L (k + 1) (fun i => a.tmps.getD i undef) → k < n → J (k + 1) w → K a w) → Hid (∀ a w, Q .normal a w → X a w) →
      WpN P c (fun e a' w' => (e = .normal ∧ K a' w') ∨ e = .exit id ∧ X a' w') (L k u) w) : WpN P (.block id (.loop c)) Q a w :=
  wpn_while_k (fun m a w => ∃ k u, k + m = n ∧ a = L k u ∧ J k w) n ⟨0, _, by omega, h₀, hJ⟩ fun m a w ⟨k, u, hk, ha, hJ⟩ K X hK hX => by
    subst ha
    exact round k u w (by omega) hJ K X (fun a w ha hlt hJ' => hK (m - 1) a w (by omega) ⟨k + 1, _, by omega, ha, hJ'⟩) hX
theorem wpn_region {id : Nat} {ops : Array Oper} (h : OpsN P ops Q (List.range ops.size) a w) : WpN P (.region id ops false) Q a w :=
  fun b k cs hb => let ⟨e, a', w', q, r⟩ := h b k cs hb; ⟨e, a', w', q, .of_steps (.one step_region) r⟩
theorem opsn_nil {ops : Array Oper} (h : Q .normal a w) : OpsN P ops Q [] a w := fun _ _ _ _ => ⟨.normal, a, w, h, .one step_region_end⟩
theorem opsn_value {ops : Array Oper} {i : Nat} {rest : List Nat} {o : Oper} {v : Value} {w₁ : World} (ho : ops[i]? = some o) (hw : Region.wanted o (yielded ops a.tmps) = true)
    (hr : (execOp a.eval o).run P w = .ok (.value v) w₁) (h : OpsN P ops Q rest (a.put o.dst v) w₁) : OpsN P ops Q (i :: rest) a w := by
  intro b k cs hb
  obtain ⟨e, a', w', hq, harr⟩ := h b k cs hb
  have hfin : (b.at a (.inRegion ops (i :: rest) :: k)).finish v = b.at (a.put o.dst v) (.inRegion ops rest :: k) := by rw [Frame.finish_at, ho]; rfl
  refine ⟨e, a', w', hq, .of_steps (.one (step_lone_go ?_)) harr⟩
  rw [stepG_op ho hw, ← hfin]
  simp [stepG.apply, hr]
/-- a send into a channel with room -/
theorem opsn_send {ops : Array Oper} {i : Nat} {rest : List Nat} {o : Oper} {c cap s r : Nat} {buf : Array Value} {v z : Value} {tm : Bool} {w₁ : World} (ho : ops[i]? = some o) (hw : Region.wanted o (yielded ops a.tmps) = true)
    (hr : (execOp a.eval o).run P w = .ok (.comm #[scase c v z] true .send) w₁) (hc : w₁.heap[c]? = some (.chan cap buf false s r tm)) (hroom : buf.size < cap)
    (h : OpsN P ops Q rest (a.put o.dst undef) (w₁.setChan c cap (buf.push v) false (s + 1) r tm)) : OpsN P ops Q (i :: rest) a w := by
  intro b k cs hb
  obtain ⟨e, a', w', hq, harr⟩ := h b k cs hb
  have hk : b.kind ≠ .early := by rw [hb]; intro h; cases h
  have hs := step_lone_send_room (stepG_comm (main := true) (b := b) (k := k) (cs := cs) (rest := rest) ho hw hk hr) hc hroom
  rw [Frame.finish_at, ho] at hs
  exact ⟨e, a', w', hq, .of_steps (.one hs) harr⟩
/-- a receive from a channel that holds something -/
theorem opsn_recv {ops : Array Oper} {i : Nat} {rest : List Nat} {o : Oper} {c cap s r : Nat} {buf : Array Value} {z : Value} {tm closed ok : Bool} {w₁ : World} (ho : ops[i]? = some o) (hw : Region.wanted o (yielded ops a.tmps) = true)
    (hr : (execOp a.eval o).run P w = .ok (.comm #[rcase c z] true (.recv ok)) w₁) (hc : w₁.heap[c]? = some (.chan cap buf closed s r tm)) (hsome : 0 < buf.size)
    (h : OpsN P ops Q rest (a.put o.dst (got ok (buf.getD 0 undef) true)) (w₁.setChan c cap (buf.extract 1 buf.size) closed s (r + 1) tm)) : OpsN P ops Q (i :: rest) a w := by
  intro b k cs hb
  obtain ⟨e, a', w', hq, harr⟩ := h b k cs hb
  have hk : b.kind ≠ .early := by rw [hb]; intro h; cases h
  have hs := step_lone_recv_buf ok (stepG_comm (main := true) (b := b) (k := k) (cs := cs) (rest := rest) ho hw hk hr) hc hsome
  rw [Frame.finish_at, ho] at hs
  exact ⟨e, a', w', hq, .of_steps (.one hs) harr⟩
/-- a receive from a closed channel that is empty -/
theorem opsn_shut {ops : Array Oper} {i : Nat} {rest : List Nat} {o : Oper} {c cap s r : Nat} {z : Value} {tm ok : Bool} {w₁ : World} (ho : ops[i]? = some o) (hw : Region.wanted o (yielded ops a.tmps) = true)
    (hr : (execOp a.eval o).run P w = .ok (.comm #[rcase c z] true (.recv ok)) w₁) (hc : w₁.heap[c]? = some (.chan cap #[] true s r tm))
    (h : OpsN P ops Q rest (a.put o.dst (got ok z false)) w₁) : OpsN P ops Q (i :: rest) a w := by
  intro b k cs hb
  obtain ⟨e, a', w', hq, harr⟩ := h b k cs hb
  have hk : b.kind ≠ .early := by rw [hb]; intro h; cases h
  have hs := step_lone_recv_shut ok (stepG_comm (main := true) (b := b) (k := k) (cs := cs) (rest := rest) ho hw hk hr) hc
  rw [Frame.finish_at, ho] at hs
  exact ⟨e, a', w', hq, .of_steps (.one hs) harr⟩
end
theorem calls_wpn {P : Program} {f : FuncId} {fn : Func} {c : Code} {args : Array Value} {w : World} {R : Ending → World → Prop}
    (hf : P.funcs[f]? = some fn) (hb : fn.body = some c) (h : WpN P c (bodyPost P fn R) { tmps := args ++ Array.replicate (fn.ntmps - args.size) undef, defers := [] } w) : Calls P f args w R := by
  intro cs
  let b : Frame := { (default : Frame) with fn := f, kind := .normal }
  have henter : Frame.enter P f args .normal = b.at { tmps := args ++ Array.replicate (fn.ntmps - args.size) undef, defers := [] } [.code c] := by
    simp [Frame.enter, Frame.at, hf, hb, b]
  obtain ⟨e, a', w', hq, harr⟩ := h b [] cs rfl
  rw [← henter] at harr
  match e, hq, harr with
  | .normal, ⟨hd, v, hr, hR⟩, h1 => exact ⟨.returned v, w', _, hR, Steps.trans h1 (.one step_end), rfl, rfl, hd, rfl, fn, hf, hr⟩
  | .ret, ⟨hd, v, hr, hR⟩, ⟨_, h1⟩ => exact ⟨.returned v, w', _, hR, h1, rfl, rfl, hd, rfl, fn, hf, hr⟩
  | .panic chain, ⟨hd, hR⟩, ⟨_, h1⟩ => exact ⟨.panicked chain, w', _, hR, h1, rfl, rfl, hd, fn, hf⟩
  | .exit _, h1, _ => exact h1.elim
  | .goto _, h1, _ => exact h1.elim
  | .outgrown, h1, h2 => exact ⟨.outgrown, w', b, h1, h2.resolve_left (by simp [b]), rfl, trivial⟩

section
variable {w : World} {c g cap s r : Nat} {buf : Array Value} {cl tm : Bool} {t : TypeId} {cs : List Value}
theorem Blk.setChan (h : Blk w g t cs) (hne : g ≠ c) : Blk (w.setChan c cap buf cl s r tm) g t cs := by
  unfold Blk at h ⊢
  simp only [World.setChan]
  rw [Array.getElem?_setIfInBounds_ne (by omega)]
  exact h
end
end Go.Proofs.Ytlmcejpjhdaanaa
