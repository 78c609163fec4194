/- Fire, the code's and the document's, in one law each. Conditions: the contract and the variables can be read. -/
import Derived.Test.YtdpmfjbhadapiaaTbT
import Derived.Test.YtdpmfjbhadapiaaJoin
namespace Go.Proofs.Ytdpmfjbhadapiaa
open Go.RowKit
set_option linter.unusedVariables false
set_option linter.unusedSimpArgs false
namespace Tb
open Sy (RetV RetM Sub)
open Rg (and2 or2 retBb not_t not_f eqT eqF i64_up i64_wrap ClosB any_up any_hit idxS idx_some idx_none CellD CellR NumR RowsOf OwnRows flat_get I64 U8 U64)
theorem find_cases (t : TabD) (state action party : Int) (vars : List Int) (arg : Int) : findS t state action party vars arg < 0 ∧ (goodS t vars = true → findS t state action party vars arg = -1) ∨ goodS t vars = true ∧ ∃ k, ∃ h : k < t.rules.length, findS t state action party vars arg = (k : Int) ∧ hitR state action party vars arg t.rules[k] = true := by
  unfold findS
  cases hg : goodS t vars with
  | false => exact .inl ⟨by simp, by simp⟩
  | true =>
    rcases idx_cases (hitR state action party vars arg) t.rules with h | ⟨k, h, h1, h2, _⟩
    · exact .inl ⟨by simp [h], by simp [h]⟩
    · exact .inr ⟨rfl, k, h, by simpa using h1, h2⟩
theorem fire_any (w : World) (t : TabD) (ta : Option Addr) (tc : Nat) (h : TabAt w t ta tc) (state action party : Int) {va : Option Addr} {vc : Nat} {vars : List Int} (arg : Int) (hv : Ex.Ints w va vars.length vars) (ha : OkA arg) :
    Calls Try.prog 16 #[.agg (tabCs t ta tc).toArray, .int .i64 state, .int .i64 action, .int .i64 party, .slice va vars.length vc, .int .i64 arg] w (RetFi w (fireS t state action party vars arg)) := by
  cases hg : goodS t vars with
  | false =>
    have : fireS t state action party vars arg = ⟨0, [], [], 10⟩ := by unfold fireS; rw [if_pos hg]
    rw [this]; exact fire_no w t ta tc h state action party arg hv ha hg
  | true =>
    rcases find_cases t state action party vars arg with ⟨hf, -⟩ | ⟨-, k, hk, hf, -⟩
    · have : fireS t state action party vars arg = ⟨0, [], [], 13⟩ := by unfold fireS; rw [if_neg (by rw [hg]; simp), if_pos hf]
      rw [this]; exact fire_none w t ta tc h state action party arg hv ha hg hf
    · have : fireS t state action party vars arg = runS t.rules[k] vars arg := by
        unfold fireS
        rw [if_neg (by rw [hg]; simp), if_neg (by omega), hf, Int.toNat_natCast]
        simp [List.getD_eq_getElem?_getD, hk]
      unfold goodS at hg
      rw [Bool.and_eq_true] at hg
      rw [this]; exact fire_run w t ta tc h state action party arg hv ha hg.1 hg.2 hk hf
theorem fireR_any (w : World) (t : TabD) (ta : Option Addr) (tc : Nat) (h : TabAt w t ta tc) (state action party : Int) {va : Option Addr} {vc : Nat} {vars : List Int} (arg : Int) (hv : Ex.Ints w va vars.length vars) (ha : OkA arg) :
    Calls Try.prog 18 #[.agg (tabCs t ta tc).toArray, .int .i64 state, .int .i64 action, .int .i64 party, .slice va vars.length vc, .int .i64 arg] w (RetFr w (fireS t state action party vars arg)) := by
  cases hg : goodS t vars with
  | false =>
    have : fireS t state action party vars arg = ⟨0, [], [], 10⟩ := by unfold fireS; rw [if_pos hg]
    rw [this]; exact fireR_no w t ta tc h state action party arg hv ha hg
  | true =>
    rcases find_cases t state action party vars arg with ⟨hf, -⟩ | ⟨-, k, hk, hf, -⟩
    · have : fireS t state action party vars arg = ⟨0, [], [], 13⟩ := by unfold fireS; rw [if_neg (by rw [hg]; simp), if_pos hf]
      rw [this]; exact fireR_none w t ta tc h state action party arg hv ha hg hf
    · have : fireS t state action party vars arg = runS t.rules[k] vars arg := by
        unfold fireS
        rw [if_neg (by rw [hg]; simp), if_neg (by omega), hf, Int.toNat_natCast]
        simp [List.getD_eq_getElem?_getD, hk]
      unfold goodS at hg
      rw [Bool.and_eq_true] at hg
      rw [this]; exact fireR_run w t ta tc h state action party arg hv ha hg.1 hg.2 hk hf
theorem own_move {w' m' : World} {B : Nat} {e : TypeId} {size : Nat} {v : Value} {n : Nat} {xs : List Value} (h : Own w' B e size v n xs) (hm : ∀ b, B ≤ b → b < w'.heap.size → m'.heap[b]? = w'.heap[b]?) : Own m' B e size v n xs := by
  obtain ⟨a, cap, rfl, h1, h2, h3, h4⟩ := h
  refine ⟨a, cap, rfl, h1, h2, h3, ?_⟩
  rcases h4 with h4 | ⟨g, cur, ha, h5, h6, h7⟩
  · exact .inl h4
  · exact .inr ⟨g, cur, ha, h5, by rw [hm g h5 (Array.getElem?_eq_some_iff.1 h6).1]; exact h6, h7⟩
theorem nums_move {w' m' : World} {B : Nat} {a : Option Addr} {cap : Nat} {l : List Int} (h : OwnRows NumR 1 2 w' B a cap l) (hm : ∀ b, B ≤ b → b < w'.heap.size → m'.heap[b]? = w'.heap[b]?) : Nums m' a l := by
  obtain ⟨css, h1, h2⟩ := h
  have hx : OwnRows NumR 1 2 m' B a cap l := ⟨css, ⟨h1.1, fun i p q => h1.2 i p q⟩, own_move h2 hm⟩
  exact (OwnRows.rows (by omega) hx).1
theorem cells_move {w' m' : World} {B : Nat} {a : Option Addr} {cap : Nat} {l : List CellD} (h : OwnRows CellR 4 47 w' B a cap l) (hm : ∀ b, B ≤ b → b < w'.heap.size → m'.heap[b]? = w'.heap[b]?) : Rows CellR 4 m' a l := by
  obtain ⟨css, h1, h2⟩ := h
  have hx : OwnRows CellR 4 47 m' B a cap l := ⟨css, ⟨h1.1, fun i p q => h1.2 i p q⟩, own_move h2 hm⟩
  exact (OwnRows.rows (by omega) hx).1
def FireV (d : FireD) (m : World) (v : Value) : Prop := ∃ a1 c1 a2 c2, v = .tuple #[.int .i64 d.st, .slice a1 d.vs.length c1, .slice a2 d.cs.length c2, .int .i64 (d.e : Int)] ∧ Nums m a1 d.vs ∧ Rows CellR 4 m a2 d.cs
def FireW (d : FireD) (m : World) (v : Value) : Prop := ∃ a1 c1 a2 c2, v = .agg #[.int .i64 d.st, .slice a1 d.vs.length c1, .slice a2 d.cs.length c2, .int .i64 (d.e : Int)] ∧ Nums m a1 d.vs ∧ Rows CellR 4 m a2 d.cs
theorem fireM {w m : World} (hs : Sub m w) {t : TabD} {ta : Option Addr} {tc : Nat} (h : TabAt m t ta tc) (state action party : Int) {va : Option Addr} {vc : Nat} {vars : List Int} (arg : Int) (hv : Ex.Ints m va vars.length vars) (ha : OkA arg) :
    Calls Try.prog 16 #[.agg (tabCs t ta tc).toArray, .int .i64 state, .int .i64 action, .int .i64 party, .slice va vars.length vc, .int .i64 arg] w (RetM m w (FireV (fireS t state action party vars arg))) :=
  (fire_any w t ta tc (h.sub hs) state action party arg (hv.sub hs) ha).mono fun e w' ⟨a1, c1, a2, c2, he, hb, h1, h2⟩ => by
    obtain ⟨m', q1, q2, q3, q4⟩ := Sy.retM_of_own hs hb
    exact ⟨_, m', he, hb, q1, q2, q3, a1, c1, a2, c2, rfl, nums_move h1 q4, cells_move h2 q4⟩
theorem fireRM {w m : World} (hs : Sub m w) {t : TabD} {ta : Option Addr} {tc : Nat} (h : TabAt m t ta tc) (state action party : Int) {va : Option Addr} {vc : Nat} {vars : List Int} (arg : Int) (hv : Ex.Ints m va vars.length vars) (ha : OkA arg) :
    Calls Try.prog 18 #[.agg (tabCs t ta tc).toArray, .int .i64 state, .int .i64 action, .int .i64 party, .slice va vars.length vc, .int .i64 arg] w (RetM m w (FireW (fireS t state action party vars arg))) :=
  (fireR_any w t ta tc (h.sub hs) state action party arg (hv.sub hs) ha).mono fun e w' ⟨a1, c1, a2, c2, he, hb, h1, h2⟩ => by
    obtain ⟨m', q1, q2, q3, q4⟩ := Sy.retM_of_own hs hb
    exact ⟨_, m', he, hb, q1, q2, q3, a1, c1, a2, c2, rfl, nums_move h1 q4, cells_move h2 q4⟩
/-- what an action does leaves -/
theorem fire_stays {t : TabD} {state action party : Int} {vars : List Int} {arg : Int} :
    (fireS t state action party vars arg).e ≠ 0 ∧ (fireS t state action party vars arg).st = 0 ∧ (fireS t state action party vars arg).vs = [] ∧ (fireS t state action party vars arg).cs = [] ∨
    (fireS t state action party vars arg).e = 0 ∧ 0 ≤ (fireS t state action party vars arg).st ∧ (fireS t state action party vars arg).st < t.states ∧ ((fireS t state action party vars arg).vs.length : Int) = t.vars ∧ (fireS t state action party vars arg).cs.length ≤ 4 ∧ ∀ c ∈ (fireS t state action party vars arg).cs, c.n = 0 ∧ c.target ≤ 15 ∧ 0 ≤ c.action ∧ c.action ≤ 31 := by
  cases hg : goodS t vars with
  | false =>
    have : fireS t state action party vars arg = ⟨0, [], [], 10⟩ := by unfold fireS; rw [if_pos hg]
    rw [this]; exact .inl ⟨by simp, rfl, rfl, rfl⟩
  | true =>
    rcases find_cases t state action party vars arg with ⟨hf, -⟩ | ⟨-, k, hk, hf, -⟩
    · have : fireS t state action party vars arg = ⟨0, [], [], 13⟩ := by unfold fireS; rw [if_neg (by rw [hg]; simp), if_pos hf]
      rw [this]; exact .inl ⟨by simp, rfl, rfl, rfl⟩
    · have : fireS t state action party vars arg = runS t.rules[k] vars arg := by
        unfold fireS
        rw [if_neg (by rw [hg]; simp), if_neg (by omega), hf, Int.toNat_natCast]
        simp [List.getD_eq_getElem?_getD, hk]
      rw [this]
      unfold goodS at hg
      rw [Bool.and_eq_true] at hg
      have hvl : (vars.length : Int) = t.vars := by simpa using hg.2
      obtain ⟨hsets, hs8, he4, hbad, hdst⟩ := rule_sets (may_rule hg.1 (List.getElem_mem hk))
      unfold inS at hdst
      rw [Bool.and_eq_true, decide_eq_true_iff, decide_eq_true_iff] at hdst
      unfold runS
      split
      · rename_i h1; exact .inl ⟨h1, rfl, rfl, rfl⟩
      split
      · rename_i h1 h2; exact .inl ⟨h2, rfl, rfl, rfl⟩
      · refine .inr ⟨rfl, hdst.1, hdst.2, by simp only [apply_len]; exact hvl, by simpa using he4, fun c hc => ?_⟩
        obtain ⟨e, he, rfl⟩ := List.mem_map.1 hc
        rw [List.any_eq_false] at hbad
        have hb := hbad e he
        simp only [Bool.not_eq_true] at hb
        unfold badE at hb
        rw [Bool.or_eq_false_iff, Bool.or_eq_false_iff] at hb
        obtain ⟨x1, x2, -⟩ := hb
        replace x1 := of_decide_eq_false x1
        replace x2 := not_f x2
        unfold inS at x2
        rw [Bool.and_eq_true, decide_eq_true_iff, decide_eq_true_iff] at x2
        refine ⟨rfl, ?_, ?_, ?_⟩
        · show e.target ≤ 15
          omega
        · exact x2.1
        · show e.action ≤ 31
          omega
end Tb
end Go.Proofs.Ytdpmfjbhadapiaa
