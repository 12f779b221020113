/- Walk: the program's reach: what is reached and stored, and what is reached and not stored. -/
import Derived.Test.YtjofgbbofagoiaaRchQ
import Derived.Test.YtjofgbbofagoiaaSortC
import Derived.Maps.Own
import Derived.Maps.OwnSet
import Derived.Maps.Keyed
import Derived.Maps.Views
namespace Go.Proofs.Ytjofgbbofagoiaa
open Go.RowKit Go.Sort Go.Maps

/-- how an element reads: as itself -/
def RV : Value → Option (DataW Value × List MemPlace) := fun v => some (.held v, [])
theorem intKr : Keyed Try.prog 3 := int_keyed Try.underlying3
theorem int_wf {x : Int} (h : inR x) : (Lit.int .i64 x).wf = true := by
  obtain ⟨h1, h2⟩ := h
  simp [Lit.wf, IntKind.min, IntKind.max, IntKind.signed, IntKind.bits]; omega
theorem int_keyr {x : Int} (h : inR x) : keyOf Try.prog 3 (.int .i64 x) = some (.int .i64 x) := keyOf_int_mk Try.underlying3 (int_wf h)
def kz : Value := .agg #[.int .i64 0, .slice none 0 0, .string ⟨#[]⟩]
/-- a map of objects by their ids -/
def OMap (w : World) (D : DataW Value) (os : List Ob) : Prop := ∀ x, inR x → match getO os x with
  | none => Maps.has D (.int .i64 x) = false ∧ D.atKey (.int .i64 x) (.held kz) = .held kz
  | some o => Maps.has D (.int .i64 x) = true ∧ ∃ B m d, D.atKey (.int .i64 x) (.held kz) = .held (.agg #[.int .i64 o.k, .slice B m d, .string o.t]) ∧ RInts w B m o.xs ∧ m ≤ maxLen
/-- the map of what is seen -/
def SMap (D : DataW Value) (SN : List Int) : Prop := ∀ x, inR x → D.atKey (.int .i64 x) (.held (.bool false)) = .held (.bool (decide (x ∈ SN)))
theorem SMap.start : SMap (.map []) [] := fun x _ => by simp [DataW.atKey]
theorem rv_inj {v : Value} {d : DataW Value} {ps : List MemPlace} {u : Value} (h : RV v = some (d, ps)) (hd : d = .held u) : v = u := by
  unfold RV at h
  injection h with h
  injection h with h _
  rw [hd] at h
  injection h
section
variable {w wr w' : World} {g n : Nat} {D : DataW Value} {SN : List Int} {x : Int}
theorem SMap.put (h : SMap D SN) (hD : IsMap D) (hx : inR x) : SMap (D.put (.int .i64 x) (.held (.bool true))) (x :: SN) := fun y hy => by
  by_cases e : y = x
  · subst e
    rw [atKey_put_same hD (by trivial)]
    simp
  · rw [atKey_put_other (fun e' => e (by injection e')), h y hy]
    simp [e]
theorem look_seen (hM : w.ownsMap Try.prog 3 RV g n D) (h : SMap D SN) (hx : inR x) : (Instr.lookup 103 (.map (some g)) (.int .i64 x) false).run Try.prog w = .ok (.bool (decide (x ∈ SN))) w := by
  obtain ⟨v, ps, hrun, hv⟩ := hM.lookup intKr Try.underlying103 (z := .bool false) (zd := .held (.bool false)) (zp := []) (by kernel_rfl) rfl (int_keyr hx)
  rw [← rv_inj hv (h x hx)]
  exact hrun
end
theorem QRow.lt {w : World} {B n c : Nat} {A : Option Addr} {xs : List Int} {a : Addr} (h : QRow w B A n c xs) (e : A = some a) : B ≤ a.block ∧ a.block < w.heap.size ∧ ∃ cs, Blk w a.block 3 cs := by
  rcases h.2.2.2 with ⟨h0, _⟩ | ⟨g, off, cs, q1, q2, q3, _⟩
  · rw [e] at h0; cases h0
  · rw [e] at q1
    injection q1 with q1
    subst q1
    exact ⟨q2, q3.lt, cs, q3⟩
theorem QRow.keep {w w' : World} {B n c : Nat} {A : Option Addr} {xs : List Int} {row : Option Nat} (h : QRow w B A n c xs) (hg : w.grownBy w' row) (hr : ∀ a, A = some a → row ≠ some a.block) : QRow w' B A n c xs :=
  ⟨h.1, h.2.1, h.2.2.1, h.2.2.2.imp id fun ⟨g, off, cs, q1, q2, q3, q4⟩ => ⟨g, off, cs, q1, q2, q3.grown hg (fun e => hr _ q1 e.symm), q4⟩⟩
/-- where the search's memory stands -/
structure KM (w wr : World) (gm nn : Nat) (D Ds : DataW Value) (SN LS LM qs : List Int) (AS : Option Addr) (cs : Nat) (AM : Option Addr) (cm : Nat) (A : Option Addr) (n c : Nat) : Prop where
  map : wr.ownsMap Try.prog 3 RV gm nn D
  sn : wr.ownsMap Try.prog 3 RV w.heap.size SN.length Ds
  sm : SMap Ds SN
  rs : wr.ownsRow (w.heap.size + 1) 3 1 (.slice AS LS.length cs) LS.length (ints LS)
  rm : wr.ownsRow (w.heap.size + 1) 3 1 (.slice AM LM.length cm) LM.length (ints LM)
  q : QRow wr (w.heap.size + 1) A n c qs
  a1 : ∀ a b, AS = some a → AM = some b → a.block ≠ b.block
  a2 : ∀ a b, AS = some a → A = some b → a.block ≠ b.block
  a3 : ∀ a b, AM = some a → A = some b → a.block ≠ b.block
  bl : Below w.heap.size w wr
section
variable {w wr w' : World} {gm nn : Nat} {D Ds : DataW Value} {SN LS LM qs : List Int} {AS AM A A' : Option Addr} {cs cm n c c' : Nat} {x : Int}
theorem KM.next (h : KM w wr gm nn D Ds SN LS LM qs AS cs AM cm A n c) (hb : Below wr.heap.size wr w') : KM w w' gm nn D Ds SN LS LM qs AS cs AM cm A n c := by
  have hg : wr.grownBy w' none := ⟨hb.os, hb.tape, hb.output, hb.size, fun i hi _ => hb.block i hi⟩
  exact ⟨h.map.kept hg (by simp), h.sn.kept hg (by simp), h.sm, own_below h.rs hb, own_below h.rm hb, h.q.next hb, h.a1, h.a2, h.a3, below_ext h.bl hb⟩
theorem KM.mark (hgm : gm < w.heap.size) (h : KM w wr gm nn D Ds SN LS LM qs AS cs AM cm A n c) (hx : inR x) (hM : w'.ownsMap Try.prog 3 RV w.heap.size (SN.length + 1) (Ds.put (.int .i64 x) (.held (.bool true)))) (hg : wr.grownBy w' (some w.heap.size)) :
    KM w w' gm nn D (Ds.put (.int .i64 x) (.held (.bool true))) (x :: SN) LS LM qs AS cs AM cm A n c :=
  ⟨h.map.kept hg (fun e => by injection e with e; omega), hM, h.sm.put h.sn.isMap hx, own_keep h.rs hg (fun a e e' => by have := (row_lt h.rs e).1; injection e' with e'; omega), own_keep h.rm hg (fun a e e' => by have := (row_lt h.rm e).1; injection e' with e'; omega),
    h.q.keep hg (fun a e e' => by have := (h.q.lt e).1; injection e' with e'; omega), h.a1, h.a2, h.a3, ⟨hg.os.trans h.bl.os, hg.tape.trans h.bl.tape, hg.output.trans h.bl.output, Nat.le_trans h.bl.size hg.size, fun i hi => (hg.block i (Nat.lt_of_lt_of_le hi h.bl.size) (fun e => by injection e with e; omega)).trans (h.bl.block i hi)⟩⟩
theorem KM.addS (h : KM w wr gm nn D Ds SN LS LM qs AS cs AM cm A n c) (hgm : gm < w.heap.size) (hown : w'.ownsRow (w.heap.size + 1) 3 1 (.slice A' (LS.length + 1) c') (LS.length + 1) (ints (LS ++ [x]))) (hb : Below (w.heap.size + 1) wr w') (hg : wr.grownBy w' (Value.slice AS LS.length cs).ownBlock) (hl : (Value.slice A' (LS.length + 1) c').ownBlock = (Value.slice AS LS.length cs).ownBlock ∨ (Value.slice A' (LS.length + 1) c').ownBlock = some wr.heap.size) :
    KM w w' gm nn D Ds SN (LS ++ [x]) LM qs A' c' AM cm A n c := by
  have hne : ∀ b : Nat, (∀ a, AS = some a → a.block ≠ b) → (Value.slice AS LS.length cs).ownBlock ≠ some b := fun b hb e => by
    cases AS with
    | none => rw [ownb_none] at e; cases e
    | some a => rw [ownb] at e; injection e with e; exact hb a rfl e
  have hA : ∀ a, A' = some a → (∃ b, AS = some b ∧ b.block = a.block) ∨ a.block = wr.heap.size := fun a e => by
    subst e
    rw [ownb] at hl
    rcases hl with e1 | e1
    · cases AS with
      | none => rw [ownb_none] at e1; cases e1
      | some b => rw [ownb] at e1; injection e1 with e1; exact Or.inl ⟨b, rfl, e1.symm⟩
    · injection e1 with e1; exact Or.inr e1
  refine ⟨h.map.kept hg (fun e => hne gm (fun a e1 e2 => by have := (row_lt h.rs e1).1; omega) e.symm), h.sn.kept hg (fun e => hne w.heap.size (fun a e1 e2 => by have := (row_lt h.rs e1).1; omega) e.symm), h.sm, by simpa using hown, own_keep h.rm hg (fun b e => hne b.block (fun a e1 => h.a1 a b e1 e)), h.q.keep hg (fun b e => hne b.block (fun a e1 => h.a2 a b e1 e)), fun a b e1 e2 => ?_, fun a b e1 e2 => ?_, h.a3, h.bl.trans (hb.mono (Nat.le_succ _))⟩
  · rcases hA a e1 with ⟨a0, e3, e4⟩ | e3
    · rw [← e4]; exact h.a1 a0 b e3 e2
    · have := (row_lt h.rm e2).2.1; omega
  · rcases hA a e1 with ⟨a0, e3, e4⟩ | e3
    · rw [← e4]; exact h.a2 a0 b e3 e2
    · have := (h.q.lt e2).2.1; omega
theorem KM.addM (h : KM w wr gm nn D Ds SN LS LM qs AS cs AM cm A n c) (hgm : gm < w.heap.size) (hown : w'.ownsRow (w.heap.size + 1) 3 1 (.slice A' (LM.length + 1) c') (LM.length + 1) (ints (LM ++ [x]))) (hb : Below (w.heap.size + 1) wr w') (hg : wr.grownBy w' (Value.slice AM LM.length cm).ownBlock) (hl : (Value.slice A' (LM.length + 1) c').ownBlock = (Value.slice AM LM.length cm).ownBlock ∨ (Value.slice A' (LM.length + 1) c').ownBlock = some wr.heap.size) :
    KM w w' gm nn D Ds SN LS (LM ++ [x]) qs AS cs A' c' A n c := by
  have hne : ∀ b : Nat, (∀ a, AM = some a → a.block ≠ b) → (Value.slice AM LM.length cm).ownBlock ≠ some b := fun b hb e => by
    cases AM with
    | none => rw [ownb_none] at e; cases e
    | some a => rw [ownb] at e; injection e with e; exact hb a rfl e
  have hA : ∀ a, A' = some a → (∃ b, AM = some b ∧ b.block = a.block) ∨ a.block = wr.heap.size := fun a e => by
    subst e
    rw [ownb] at hl
    rcases hl with e1 | e1
    · cases AM with
      | none => rw [ownb_none] at e1; cases e1
      | some b => rw [ownb] at e1; injection e1 with e1; exact Or.inl ⟨b, rfl, e1.symm⟩
    · injection e1 with e1; exact Or.inr e1
  refine ⟨h.map.kept hg (fun e => hne gm (fun a e1 e2 => by have := (row_lt h.rm e1).1; omega) e.symm), h.sn.kept hg (fun e => hne w.heap.size (fun a e1 e2 => by have := (row_lt h.rm e1).1; omega) e.symm), h.sm, own_keep h.rs hg (fun b e => hne b.block (fun a e1 e2 => h.a1 b a e e1 e2.symm)), by simpa using hown, h.q.keep hg (fun b e => hne b.block (fun a e1 => h.a3 a b e1 e)), fun a b e1 e2 => ?_, h.a2, fun a b e1 e2 => ?_, h.bl.trans (hb.mono (Nat.le_succ _))⟩
  · rcases hA b e2 with ⟨a0, e3, e4⟩ | e3
    · rw [← e4]; exact h.a1 a a0 e1 e3
    · have := (row_lt h.rs e1).2.1; omega
  · rcases hA a e1 with ⟨a0, e3, e4⟩ | e3
    · rw [← e4]; exact h.a3 a0 b e3 e2
    · have := (h.q.lt e2).2.1; omega
theorem KM.addQ {n' : Nat} {qs' : List Int} (h : KM w wr gm nn D Ds SN LS LM qs AS cs AM cm A n c) (hgm : gm < w.heap.size) (hq : QRow w' (w.heap.size + 1) A' n' c' qs') (hb : Below (w.heap.size + 1) wr w') (hg : wr.grownBy w' (Value.slice A n c).ownBlock) (hA : ∀ a, A' = some a → (∃ b, A = some b ∧ b.block = a.block) ∨ wr.heap.size ≤ a.block) :
    KM w w' gm nn D Ds SN LS LM qs' AS cs AM cm A' n' c' := by
  have hne : ∀ b : Nat, (∀ a, A = some a → a.block ≠ b) → (Value.slice A n c).ownBlock ≠ some b := fun b hb e => by
    cases A with
    | none => rw [ownb_none] at e; cases e
    | some a => rw [ownb] at e; injection e with e; exact hb a rfl e
  refine ⟨h.map.kept hg (fun e => hne gm (fun a e1 e2 => by have := (h.q.lt e1).1; omega) e.symm), h.sn.kept hg (fun e => hne w.heap.size (fun a e1 e2 => by have := (h.q.lt e1).1; omega) e.symm), h.sm, own_keep h.rs hg (fun b e => hne b.block (fun a e1 e2 => h.a2 b a e e1 e2.symm)), own_keep h.rm hg (fun b e => hne b.block (fun a e1 e2 => h.a3 b a e e1 e2.symm)), hq, h.a1, fun a b e1 e2 => ?_, fun a b e1 e2 => ?_, h.bl.trans (hb.mono (Nat.le_succ _))⟩
  · rcases hA b e2 with ⟨a0, e3, e4⟩ | e3
    · rw [← e4]; exact h.a2 a a0 e1 e3
    · have := (row_lt h.rs e1).2.1; omega
  · rcases hA b e2 with ⟨a0, e3, e4⟩ | e3
    · rw [← e4]; exact h.a3 a a0 e1 e3
    · have := (row_lt h.rm e1).2.1; omega
theorem KM.tailQ {n' : Nat} {qs' : List Int} (h : KM w wr gm nn D Ds SN LS LM qs AS cs AM cm A n c) (hq : QRow wr (w.heap.size + 1) A' n' c' qs') (hA : ∀ a, A' = some a → ∃ b, A = some b ∧ b.block = a.block) :
    KM w wr gm nn D Ds SN LS LM qs' AS cs AM cm A' n' c' :=
  ⟨h.map, h.sn, h.sm, h.rs, h.rm, hq, h.a1, fun a b e1 e2 => by obtain ⟨b0, e3, e4⟩ := hA b e2; rw [← e4]; exact h.a2 a b0 e1 e3, fun a b e1 e2 => by obtain ⟨b0, e3, e4⟩ := hA b e2; rw [← e4]; exact h.a3 a b0 e1 e3, h.bl⟩
end
def sln : Value → Nat
  | .slice _ n _ => n
  | _ => 0
set_option maxRecDepth 100000 in
set_option maxHeartbeats 6400000 in
theorem reach_any (gm nn : Nat) (D : DataW Value) (os : List Ob) (A : Option Addr) (n c : Nat) (fs : List Int) (w : World) (hM : w.ownsMap Try.prog 3 RV gm nn D) (hO : OMap w D os) (hok : ∀ o ∈ os, o.ok = true) (hr : RInts w A n fs) (hn : n ≤ 4) (hfs : ∀ x ∈ fs, inR x) :
    Calls Try.prog 45 #[.map (some gm), .slice A n c] w fun e w' => ∃ AS cs AM cm LS LM, e = .returned (.tuple #[.slice AS LS.length cs, .slice AM LM.length cm]) ∧ AscMem LS (fun x => Rch os fs x ∧ isSt os x = true) ∧ AscMem LM (fun x => Rch os fs x ∧ isSt os x = false) ∧
      w'.ownsRow w.heap.size 3 1 (.slice AS LS.length cs) LS.length (ints LS) ∧ w'.ownsRow w.heap.size 3 1 (.slice AM LM.length cm) LM.length (ints LM) ∧ Below w.heap.size w w' := by
  have hgm := hM.lt
  have hmk : ∀ w : World, (Instr.makeMap 103 none).run Try.prog w = .ok (.map (some w.heap.size)) (w.alloc (.map #[] 0)) := fun _ => rfl
  have hS0 := World.ownsMap_made w Try.prog 3 RV
  have b0 := below_box w (.map #[] 0)
  have hz0 : (w.alloc (.map #[] 0)).heap.size = w.heap.size + 1 := by simp
  have hfl := hr.1
  go_enter Try.func45, Try.ntmps45
  go_wp2_with fail
  refine (cloneI_any A n c fs _ (hr.below b0 (Nat.le_refl _)) (by omega)).mono ?_
  rintro e w1 ⟨A1, c1, rfl, hown1, hb1⟩
  rw [hz0] at hown1
  have hK0 : KM w w1 gm nn D (.map []) [] [] [] fs none 0 none 0 A1 n c1 :=
    ⟨(hM.alloc _).kept (row := none) ⟨hb1.os, hb1.tape, hb1.output, hb1.size, fun i hi _ => hb1.block i hi⟩ (by simp), hS0.kept (row := none) ⟨hb1.os, hb1.tape, hb1.output, hb1.size, fun i hi _ => hb1.block i hi⟩ (by simp), SMap.start, ⟨by simp [ints], .inl ⟨rfl, rfl⟩⟩, ⟨by simp [ints], .inl ⟨rfl, rfl⟩⟩, QRow.of_own hown1, fun _ _ e => (by cases e), fun _ _ e => (by cases e), fun _ _ e => (by cases e), below_ext b0 hb1⟩
  have hI0 : RInv os fs [] fs [] [] := RInv.start (by omega)
  clear hown1 hb1 hS0 b0 hz0
  go_wp2_with fail
  go_loopw [4, 5, 7] (fun vs vm vq wr => ∃ (SN qs LS LM : List Int) (Ds : DataW Value) (AS : Option Addr) (cs : Nat) (AM : Option Addr) (cm : Nat) (A : Option Addr) (n c : Nat), vs = .slice AS LS.length cs ∧ vm = .slice AM LM.length cm ∧ vq = .slice A n c ∧ RInv os fs SN qs LS LM ∧ KM w wr gm nn D Ds SN LS LM qs AS cs AM cm A n c) (fun vs vm vq _ => (991 - (sln vs + sln vm)) * 8 + sln vq)
  case atStart => exact ⟨[], fs, [], [], _, none, 0, none, 0, A1, n, c1, rfl, rfl, rfl, hI0, hK0⟩
  case round =>
    obtain ⟨SN, qs, LS, LM, Ds, AS, cs, AM, cm, A2, n2, c2, rfl, rfl, rfl, hI, hK⟩ := hrel
    have hql := hK.q.1
    cases qs with
    | nil =>
      obtain rfl : n2 = 0 := by simpa using hql.symm
      obtain ⟨mS, hmS⟩ : ∃ mS, LS.length = mS := ⟨_, rfl⟩
      have hsm := hI.small hok hfs
      have hln := hI.len
      have hS1 : ∀ x, x ∈ LS ↔ Rch os fs x ∧ isSt os x = true := fun x => by rw [hI.st x, hI.done x]
      have hM1 : ∀ x, x ∈ LM ↔ Rch os fs x ∧ isSt os x = false := fun x => by rw [hI.ms x, hI.done x]
      have hAS := sorted_ascMem hI.nds hS1
      have hAM := sorted_ascMem hI.ndm hM1
      clear hS1 hM1 hmS
      go_wp2_with fail
      refine (sortS_any (w.heap.size + 1) AS LS.length cs LS wr hK.rs (by omega)).mono ?_
      rintro e w2 ⟨rfl, hs2, hg2, hb2⟩
      have hm2 := own_keep hK.rm hg2 (fun b e e' => by
        cases AS with
        | none => rw [ownb_none] at e'; cases e'
        | some a => rw [ownb] at e'; injection e' with e'; exact hK.a1 a b rfl e e')
      have bl2 := hK.bl.trans (hb2.mono (Nat.le_succ _))
      go_wp2_with fail
      refine (sortS_any (w.heap.size + 1) AM LM.length cm LM w2 hm2 (by omega)).mono ?_
      rintro e w3 ⟨rfl, hs3, hg3, hb3⟩
      have hs2' := own_keep hs2 hg3 (fun a e e' => by
        cases AM with
        | none => rw [ownb_none] at e'; cases e'
        | some b => rw [ownb] at e'; injection e' with e'; exact hK.a1 a b e rfl e'.symm)
      have bl3 := bl2.trans (hb3.mono (Nat.le_succ _))
      have e1 : (sortI LS).length = LS.length := (List.mergeSort_perm _ _).length_eq
      have e2 : (sortI LM).length = LM.length := (List.mergeSort_perm _ _).length_eq
      go_wp2_with fail
      refine bodyPost_ret (v := .tuple #[.slice AS LS.length cs, .slice AM LM.length cm]) (by simp [results, Try.results45, go_sem]) rfl ?_
      exact ⟨AS, cs, AM, cm, sortI LS, sortI LM, by rw [e1, e2], hAS, hAM, by rw [e1]; exact own_base hs2' (Nat.le_succ _), by rw [e2]; exact own_base hs3 (Nat.le_succ _), bl3⟩
    | cons x qs =>
      obtain ⟨g, off, rfl, hg1, hg2, hcx, hn2⟩ := hK.q.head
      obtain ⟨m2, rfl⟩ : ∃ m2, n2 = m2 + 1 := ⟨qs.length, hn2⟩
      obtain ⟨ht1, ht2⟩ := hK.q.tail
      have hxr : inR x := Rch.range hok hfs x (hI.come x List.mem_cons_self)
      have hls := look_seen hK.sn hK.sm hxr
      have hpos : decide ((m2 : Int) + 1 > 0) = true := decide_eq_true (by omega)
      have hc2 : 1 ≤ c2 := by have := hK.q.2.1; omega
      have HQL := Lib.hid (show qs.length = m2 by omega)
      clear hql hn2
      obtain ⟨AT, hAT, HT, HTA⟩ : ∃ AT : Option Addr, (if c2 = 1 then some (⟨g, off, none⟩ : Addr) else some ⟨g, off + 1, none⟩) = AT ∧ Hid (QRow wr (w.heap.size + 1) AT m2 (c2 - 1) qs) ∧ Hid (∀ a, AT = some a → ∃ b, (some ⟨g, off, none⟩ : Option Addr) = some b ∧ b.block = a.block) := by
        by_cases hc1 : c2 = 1
        · obtain ⟨a1, a2, a3⟩ := ht2 hc1
          subst a2 a3 hc1
          exact ⟨_, if_pos rfl, Lib.hid a1, Lib.hid fun a e => ⟨a, e, rfl⟩⟩
        · exact ⟨_, if_neg hc1, Lib.hid ht1, Lib.hid fun a e => ⟨_, rfl, by injection e with e; rw [← e]⟩⟩
      clear ht1 ht2
      by_cases hxs : x ∈ SN
      · rw [decide_eq_true hxs] at hls
        go_wp2_with fail
        go_roundw
        case rel => exact ⟨SN, qs, LS, LM, Ds, AS, cs, AM, cm, AT, m2, c2 - 1, rfl, rfl, rfl, hI.skip hxs, hK.tailQ HT.out HTA.out⟩
        case measure => simp only [sln]; omega
      · rw [decide_eq_false hxs] at hls
        have hKT := hK.tailQ HT.out HTA.out
        have hsmall : SN.length ≤ 991 := hI.small hok hfs
        obtain ⟨w1, hrun1, hM1, hg1'⟩ := hKT.sn.update intKr Try.underlying103 (by simp only [maxLen]; omega) (int_keyr hxr) (show RV (.bool true) = some (.held (.bool true), []) from rfl)
        have hK1 := hKT.mark hgm hxr hM1 hg1'
        obtain ⟨v9, ps9, hlook, hv9⟩ := hK1.map.look_ok intKr Try.underlying74 (z := kz) (zd := .held kz) (zp := []) (by kernel_rfl) rfl (int_keyr hxr)
        have hOx := hO x hxr
        have hlen := hI.len
        have hnd : SN.length + 1 ≤ 991 := by
          have := nodup_len (List.nodup_cons.2 ⟨hxs, hI.nd⟩) (fun y hy => Rch.range hok hfs y ((List.mem_cons.1 hy).elim (fun e => e ▸ hI.come x List.mem_cons_self) (hI.seen y)))
          simpa using this
        have HLN := Lib.hid hlen
        have hl1 : LS.length ≤ 991 := by omega
        have hl2 : LM.length ≤ 991 := by omega
        have HI := Lib.hid hI
        clear hlen hI hM1 hg1' hKT hK
        cases hg : getO os x with
        | none =>
          rw [hg] at hOx
          rw [hOx.1] at hlook
          have hve := rv_inj hv9 hOx.2
          unfold kz at hve
          subst hve
          have hbx := below_box2 w1 (.cells #[.int .i64 0, .slice none 0 0, .string ⟨#[]⟩] 33) (.cells #[.int .i64 x] 3)
          have hK3 := hK1.next hbx
          have E2 := Blk.new (w1.alloc (.cells #[.int .i64 0, .slice none 0 0, .string ⟨#[]⟩] 33)) 3 [.int .i64 x]
          have E6 : ∀ (j : Nat) (u : Value), [Value.int .i64 x][j]? = some u → ((w1.alloc (.cells #[.int .i64 0, .slice none 0 0, .string ⟨#[]⟩] 33)).alloc (.cells #[.int .i64 x] 3)).cell? ((⟨w1.heap.size + 1, 0, none⟩ : Addr).add j) = some u := fun j u hu => by
            have := E2.cell j
            rw [hu] at this
            rw [add_flr, Nat.zero_add]
            simpa using this
          have E7 : ∀ u ∈ [Value.int .i64 x], u.oneCell' = true := fun u hu => by
            rw [List.mem_singleton.1 hu]
            rfl
          have E8 : w.heap.size + 1 ≤ ((w1.alloc (.cells #[.int .i64 0, .slice none 0 0, .string ⟨#[]⟩] 33)).alloc (.cells #[.int .i64 x] 3)).heap.size := by
            have := hK1.sn.lt
            simp only [World.alloc, Array.size_push]
            omega
          have E9 := hK3.rm
          go_wp2_with (at_builtin; go_loud (refine wpList_app rfl (.tmp 35) (.tmp 37) 27 rfl (w.heap.size + 1) 3 Try.underlying27 int_info1 rfl (by omega) (by omega) _ LM.length _ rfl E9 _ 1 1 _ rfl rfl E6 E7 (by omega) E8 ?_; intro A9 c9 w9 hown9 hc9 hb9 hg9 hl9))
          have hx0 : isSt os x = false := by unfold isSt; rw [hg]; rfl
          go_roundw
          case rel => exact ⟨x :: SN, qs, LS, LM ++ [x], _, AS, cs, A9, c9, AT, m2, c2 - 1, rfl, by simp, rfl, HI.out.miss hxs hx0, hK3.addM hgm (by simpa [ints] using hown9) hb9 hg9 hl9⟩
          case measure => have := HLN.out; have := HQL.out; simp only [sln]; omega
        | some o =>
          rw [hg] at hOx
          obtain ⟨hh, OB, om, od, hat, hri, hom⟩ := hOx
          rw [hh] at hlook
          have hve := rv_inj hv9 hat
          subst hve
          have hbx := below_box2 w1 (.cells #[.int .i64 o.k, .slice OB om od, .string o.t] 33) (.cells #[.int .i64 x] 3)
          have hK3 := hK1.next hbx
          have E0 := (Blk.new w1 33 [.int .i64 o.k, .slice OB om od, .string o.t]).alloc (.cells #[.int .i64 x] 3)
          have E2 := Blk.new (w1.alloc (.cells #[.int .i64 o.k, .slice OB om od, .string o.t] 33)) 3 [.int .i64 x]
          have E6 : ∀ (j : Nat) (u : Value), [Value.int .i64 x][j]? = some u → ((w1.alloc (.cells #[.int .i64 o.k, .slice OB om od, .string o.t] 33)).alloc (.cells #[.int .i64 x] 3)).cell? ((⟨w1.heap.size + 1, 0, none⟩ : Addr).add j) = some u := fun j u hu => by
            have := E2.cell j
            rw [hu] at this
            rw [add_flr, Nat.zero_add]
            simpa using this
          have E7 : ∀ u ∈ [Value.int .i64 x], u.oneCell' = true := fun u hu => by
            rw [List.mem_singleton.1 hu]
            rfl
          have E8 : w.heap.size + 1 ≤ ((w1.alloc (.cells #[.int .i64 o.k, .slice OB om od, .string o.t] 33)).alloc (.cells #[.int .i64 x] 3)).heap.size := by
            have := hK1.sn.lt
            simp only [World.alloc, Array.size_push]
            omega
          have E9 := hK3.rs
          have hx0 : isSt os x = true := by unfold isSt; rw [hg]; rfl
          have hlk : lnk os x = o.xs := by unfold lnk; rw [hg]
          have hm4 : om ≤ 4 := by
            have h4 := (lnk_ok hok x).1
            rw [hlk] at h4
            have := hri.1
            omega
          have hmq : m2 ≤ 4000 := by
            have h5 := HI.out.few
            have h6 := HQL.out
            simp only [List.length_cons] at h5
            omega
          have HLK := Lib.hid hlk
          clear hlk
          go_wp2_with (first
            | (at_builtin; (refine wpList_app rfl (.tmp 39) (.tmp 41) 27 rfl (w.heap.size + 1) 3 Try.underlying27 int_info1 rfl (by omega) (by omega) _ LS.length _ rfl E9 _ 1 1 _ rfl rfl E6 E7 (by omega) E8 ?_; intro A9 c9 w9 hown9 hc9 hb9 hg9 hl9; have hK9 := hK3.addS (x := x) hgm (by simpa [ints] using hown9) hb9 hg9 hl9; have E10 := E0.grown hg9 (fun e => own_ne_blk hK3.rs E0 (by decide) e.symm); obtain ⟨s0, s1, s2⟩ := E10.cells3; have hq9 := hK9.q; have hri9 := hri.below hK9.bl (Nat.le_refl _); have E11 : w.heap.size + 1 ≤ w9.heap.size := hK9.sn.lt))
            | (at_builtin; go_loud (refine wpList_appQ rfl (.tmp 43) (.tmp 45) rfl (w.heap.size + 1) AT m2 (c2 - 1) qs rfl hq9 OB om od o.xs rfl hri9 (by omega) E11 ?_; intro A8 c8 w8 hq8 hb8 hg8 hA8)))
          go_roundw
          case rel => exact ⟨x :: SN, qs ++ o.xs, LS ++ [x], LM, _, A9, c9, AM, cm, A8, m2 + om, c8, by simp, rfl, rfl, by
            have := HI.out.hit hxs hx0 (lnk_ok hok x).1
            rw [HLK.out] at this
            exact this, hK9.addQ hgm hq8 hb8 hg8 hA8⟩
          case measure => have := HLN.out; have := HQL.out; simp only [sln]; omega
end Go.Proofs.Ytjofgbbofagoiaa
