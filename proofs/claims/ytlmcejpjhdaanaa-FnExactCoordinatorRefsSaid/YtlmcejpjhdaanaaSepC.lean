/- Updates, parts, transactions, coordinators of the call's own. -/
import Derived.Test.YtlmcejpjhdaanaaSep
import Derived.Test.YtlmcejpjhdaanaaDataC
namespace Go.Proofs.Ytlmcejpjhdaanaa
open Go.RowKit Go.Sort

def sepUp : RepS Up := sepAs (sep2 sepInt (sep2 sepInt sepInt)) fun x => (x.ref, x.old, x.new)
def sepPt : RepS Pt := sepAs (sep2 sepInt (sepSl 53 sepUp)) fun x => (x.shard, x.us)
def sepTx : RepS Tx := sepAs (sep2 (sepSl 51 sepPt) (sep2 (sepSl 3 sepIntW) sepInt)) fun x => (x.ps, x.vs, x.dec)
def sepCo : RepS Co := sepAs (sep2 (sepSl 35 sepTx) (sepSl 3 sepInt)) fun x => (x.ts, x.ord)
section
variable {lo n c : Nat} {S : Nat → Prop} {w : World} {cs : List Value} {A : Option Addr}
def upV (u : Up) : List Value := [.int .i64 u.ref, .int .i64 u.old, .int .i64 u.new]
def noB (_ : Nat) : Prop := False
theorem sepUp_mk (u : Up) : sepUp.V lo S w (upV u) u :=
  ⟨[.int .i64 u.ref], [.int .i64 u.old, .int .i64 u.new], noB, noB, rfl, fun _ h => h.elim, fun _ h => h.elim, fun _ h => h.elim, rfl, [.int .i64 u.old], [.int .i64 u.new], noB, noB, rfl, fun _ h => h.elim, fun _ h => h.elim, fun _ h => h.elim, rfl, rfl⟩
theorem sepPt_cells {p : Pt} (h : sepPt.V lo S w cs p) : ∃ A n c, cs = [.int .i64 p.shard, .slice A n c] ∧ SSl 53 sepUp lo S w A n c p.us := by
  obtain ⟨c1, c2, S1, S2, rfl, q1, q2, q3, h4, A, n, c, e, h5⟩ := h
  have h4' : c1 = [.int .i64 p.shard] := h4
  subst h4' e
  exact ⟨A, n, c, rfl, h5.wide q2⟩
theorem sepPt_mk {p : Pt} (h : SSl 53 sepUp lo S w A n c p.us) : sepPt.V lo S w [.int .i64 p.shard, .slice A n c] p :=
  ⟨[.int .i64 p.shard], [.slice A n c], noB, S, rfl, fun _ h => h.elim, fun _ h => h, fun _ h => h.elim, rfl, A, n, c, rfl, h⟩
theorem sepTx_cells {t : Tx} (h : sepTx.V lo S w cs t) : ∃ A n c B m d S1 S2, cs = [.slice A n c, .slice B m d, .int .i64 t.dec] ∧ (∀ b, S1 b → S b) ∧ (∀ b, S2 b → S b) ∧ (∀ b, S1 b → ¬ S2 b) ∧
    SSl 51 sepPt lo S1 w A n c t.ps ∧ SSl 3 sepIntW lo S2 w B m d t.vs := by
  obtain ⟨c1, c2, S1, S2, rfl, q1, q2, q3, ⟨A, n, c, e1, h4⟩, c3, c4, S3, S4, rfl, q4, q5, q6, ⟨B, m, d, e2, h5⟩, h6⟩ := h
  have h6' : c4 = [.int .i64 t.dec] := h6
  subst e1 e2 h6'
  exact ⟨A, n, c, B, m, d, S1, S2, rfl, q1, q2, q3, h4, h5.wide q4⟩
theorem sepTx_mk {t : Tx} {B : Option Addr} {m d : Nat} {S1 S2 : Nat → Prop} (q1 : ∀ b, S1 b → S b) (q2 : ∀ b, S2 b → S b) (q3 : ∀ b, S1 b → ¬ S2 b) (h4 : SSl 51 sepPt lo S1 w A n c t.ps) (h5 : SSl 3 sepIntW lo S2 w B m d t.vs) :
    sepTx.V lo S w [.slice A n c, .slice B m d, .int .i64 t.dec] t :=
  ⟨[.slice A n c], [.slice B m d, .int .i64 t.dec], S1, S2, rfl, q1, q2, q3, ⟨A, n, c, rfl, h4⟩, [.slice B m d], [.int .i64 t.dec], S2, noB, rfl, fun _ h => h, fun _ h => h.elim, fun _ _ h => h, ⟨B, m, d, rfl, h5⟩, rfl⟩
theorem sepCo_cells {q : Co} (h : sepCo.V lo S w cs q) : ∃ A n c B m d S1 S2, cs = [.slice A n c, .slice B m d] ∧ (∀ b, S1 b → S b) ∧ (∀ b, S2 b → S b) ∧ (∀ b, S1 b → ¬ S2 b) ∧
    SSl 35 sepTx lo S1 w A n c q.ts ∧ SSl 3 sepInt lo S2 w B m d q.ord := by
  obtain ⟨c1, c2, S1, S2, rfl, q1, q2, q3, ⟨A, n, c, e1, h4⟩, B, m, d, e2, h5⟩ := h
  subst e1 e2
  exact ⟨A, n, c, B, m, d, S1, S2, rfl, q1, q2, q3, h4, h5⟩
theorem sepCo_mk {q : Co} {B : Option Addr} {m d : Nat} {S1 S2 : Nat → Prop} (q1 : ∀ b, S1 b → S b) (q2 : ∀ b, S2 b → S b) (q3 : ∀ b, S1 b → ¬ S2 b) (h4 : SSl 35 sepTx lo S1 w A n c q.ts) (h5 : SSl 3 sepInt lo S2 w B m d q.ord) :
    sepCo.V lo S w [.slice A n c, .slice B m d] q :=
  ⟨[.slice A n c], [.slice B m d], S1, S2, rfl, q1, q2, q3, ⟨A, n, c, rfl, h4⟩, B, m, d, rfl, h5⟩
/-- the cells of updates that can be read -/
theorem RSl.upCells {us : List Up} (h : RSl repUp lo w A n us) : 0 < n → ∃ ad, A = some ad ∧ ∀ j u, ((us.map upV).flatten)[j]? = some u → w.cell? (ad.add j) = some u := fun hn => by
  obtain ⟨b, off, e, _, _, hc⟩ := h.2 hn
  refine ⟨_, e, fun j u hu => ?_⟩
  have hall : ∀ cs ∈ us.map upV, cs.length = 3 := fun cs hcs => by
    obtain ⟨x, _, rfl⟩ := List.mem_map.1 hcs
    rfl
  have hj : j < us.length * 3 := by
    have := (List.getElem?_eq_some_iff.1 hu).1
    rwa [flat_len hall, List.length_map] at this
  have hk : j / 3 < us.length := by omega
  have hx : us[j / 3]? = some (us[j / 3]) := List.getElem?_eq_getElem hk
  obtain ⟨cs, h1, h2⟩ := hc _ _ hx
  obtain rfl := repUp_cells h2
  have hg := flat_get hall (j / 3) (j % 3) _ [] (by rw [List.getElem?_map, hx]; rfl) (by omega)
  rw [List.append_nil, show j / 3 * 3 + j % 3 = j by omega, hu] at hg
  have := h1 (j % 3) u hg.symm
  rw [add_flat]
  rw [show off + j / 3 * repUp.sz + j % 3 = off + j by show off + j / 3 * 3 + j % 3 = off + j; omega] at this
  exact this
end
end Go.Proofs.Ytlmcejpjhdaanaa
