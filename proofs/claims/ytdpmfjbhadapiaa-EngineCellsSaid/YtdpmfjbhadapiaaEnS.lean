/- The walks of the document's Right (of operations) and of the law's great. Conditions: what is handed in can be read; the register's lists are short. Plain law: what the document asks of a register gives what the code asks, and what an operation leaves may be again. No condition. Plain law: what is done twice, what was settled, which numbers cells have, what reading, creating and deleting leave. No condition. -/
import Derived.Test.YtdpmfjbhadapiaaEnP
import Derived.Test.YtdpmfjbhadapiaaEnA
import Derived.Test.YtdpmfjbhadapiaaTbQ
import Derived.Test.YtdpmfjbhadapiaaRfC
import Derived.Test.YtdpmfjbhadapiaaRegD
namespace Go.Proofs.Ytdpmfjbhadapiaa
open Go.RowKit
set_option linter.unusedVariables false
set_option linter.unusedSimpArgs false
namespace En
open Sy (RetV RetM Sub)
open Rg (eqT eqF U8 U64 I64 RegD RegA RegAt regCs OpD opCs greatS May06)
open Tb (TabD TabAt tabCs)
def Right07 (t : TabD) (r : RegD) (o : OpD) (count : Nat) : Prop := MayO o ∧ May06 r ∧ Tb.mayS t = true ∧ count ≠ 0 ∧ (r.kind = 1 → (r.vars.length : Int) = t.vars)
theorem b_no {b : Bool} {p : Prop} (hb : b = true ↔ p) (h : ¬p) : b = false := by
  cases b
  · rfl
  · exact absurd (hb.1 rfl) h
set_option maxRecDepth 20000 in
set_option maxHeartbeats 2000000 in
theorem right_any (w0 : World) (t : TabD) (ta : Option Addr) (tc : Nat) (ht : TabAt w0 t ta tc) (r : RegD) (p : RegA) (h : RegAt w0 r p) (hs : Rg.Short r) (o : OpD) (count : Nat) (b : Bool) (hb : b = true ↔ Right07 t r o count) :
    Calls Try.prog 24 #[.agg (tabCs t ta tc).toArray, .agg (regCs r p).toArray, .agg (opCs o).toArray, .int .u64 (count : Int)] w0 (RetV w0 (.bool b)) := by
  have F := Sy.Mem.start (Sub.refl w0)
  refine Sy.enter Try.func24 rfl Try.ntmps24 rfl ?_; intro ac T; simp only [Sy.enum, Nat.zero_add, Nat.reduceAdd] at T
  repeat (first
    | (((with_reducible refine Sy.is_load ?_); (refine Sy.st_loadAll T F (h := ?_)); clear T; intro ac T))
    | (((with_reducible refine Sy.is_box ?_); (refine Sy.st_boxAgg T F (h := ?_)); clear T F; intro ac g w T F))
    | (((with_reducible refine Sy.is_op ?_); refine Sy.st_pure T (h := ?_); clear T; intro ac T))
    | (with_reducible refine wpList_nil ?_)
    | (with_reducible refine wp_region_lit ?_)
    | ((with_reducible refine wp_seq_k ?_); intro _ _)
    | (go_at_K; go_step)
    | (simp only [Exit.then, Exit.inBlock, ↓reduceIte, Nat.reduceEqDiff]))
  by_cases c1 : MayO o
  case neg =>
    have G := opMayR_any w o
    rw [decide_eq_false c1] at G
    refine Sy.st_callV0 T F (hc := G) (h := ?_); (clear T F; intro ac w T F)
    clear G
    repeat (first
    | (((with_reducible refine Sy.is_guard ?_); ((refine Sy.st_unguard T (h := ?_); clear T; intro ac T))))
    | (((with_reducible refine Sy.is_op ?_); refine Sy.st_pure T (h := ?_); clear T; intro ac T))
    | (with_reducible refine wpList_nil ?_)
    | (with_reducible refine wp_ret ?_)
    | (go_at_K; go_step)
    | (simp only [Exit.then, Exit.inBlock, ↓reduceIte, Nat.reduceEqDiff]))
    ((try simp only [Exit.inBlock, Exit.then]); refine Sy.st_ret1 T F rfl (by repeat (first | exact Sy.ResV.nil | apply Sy.ResV.tmp rfl | apply Sy.ResV.row rfl rfl rfl (by repeat (first | exact Sy.Take.here | apply Sy.Take.there)) (by rfl) | apply Sy.ResV.one rfl rfl rfl (by repeat (first | exact Sy.Take.here | apply Sy.Take.there)) (by rfl))) ?_)
    rw [b_no hb (fun k => c1 k.1)]
    exact F.retV _
  have G := opMayR_any w o
  rw [decide_eq_true c1] at G
  refine Sy.st_callV0 T F (hc := G) (h := ?_); (clear T F; intro ac w T F)
  clear G
  repeat (first
    | (((with_reducible refine Sy.is_guard ?_); (refine Sy.st_guard T (h := ?_))))
    | (((with_reducible refine Sy.is_load ?_); (refine Sy.st_loadAll T F (h := ?_)); clear T; intro ac T))
    | (((with_reducible refine Sy.is_op ?_); refine Sy.st_pure T (h := ?_); clear T; intro ac T)))
  by_cases c2 : May06 r
  case neg =>
    have G := Rg.may06_any w r p (h.sub F.sub) hs false ⟨fun k => (by cases k), fun k => absurd k c2⟩; refine Sy.st_callV0 T F (hc := G) (h := ?_); (clear T F G; intro ac w T F)
    repeat (first
    | (((with_reducible refine Sy.is_guard ?_); ((refine Sy.st_unguard T (h := ?_); clear T; intro ac T))))
    | (((with_reducible refine Sy.is_op ?_); refine Sy.st_pure T (h := ?_); clear T; intro ac T))
    | (with_reducible refine wpList_nil ?_)
    | (with_reducible refine wp_ret ?_)
    | (go_at_K; go_step)
    | (simp only [Exit.then, Exit.inBlock, ↓reduceIte, Nat.reduceEqDiff]))
    ((try simp only [Exit.inBlock, Exit.then]); refine Sy.st_ret1 T F rfl (by repeat (first | exact Sy.ResV.nil | apply Sy.ResV.tmp rfl | apply Sy.ResV.row rfl rfl rfl (by repeat (first | exact Sy.Take.here | apply Sy.Take.there)) (by rfl) | apply Sy.ResV.one rfl rfl rfl (by repeat (first | exact Sy.Take.here | apply Sy.Take.there)) (by rfl))) ?_)
    rw [b_no hb (fun k => c2 k.2.1)]
    exact F.retV _
  have G := Rg.may06_any w r p (h.sub F.sub) hs true ⟨fun _ => c2, fun _ => rfl⟩; refine Sy.st_callV0 T F (hc := G) (h := ?_); (clear T F G; intro ac w T F)
  repeat (first
    | (((with_reducible refine Sy.is_guard ?_); (refine Sy.st_guard T (h := ?_))))
    | (((with_reducible refine Sy.is_load ?_); (refine Sy.st_loadAll T F (h := ?_)); clear T; intro ac T))
    | (((with_reducible refine Sy.is_op ?_); refine Sy.st_pure T (h := ?_); clear T; intro ac T)))
  cases c3 : Tb.mayS t with
  | false =>
    have G := Tb.mayRM F.sub ht c3; refine Sy.st_callV0 T F (hc := G) (h := ?_); (clear T F G; intro ac w T F)
    repeat (first
    | (((with_reducible refine Sy.is_guard ?_); ((refine Sy.st_unguard T (h := ?_); clear T; intro ac T))))
    | (((with_reducible refine Sy.is_op ?_); refine Sy.st_pure T (h := ?_); clear T; intro ac T))
    | (with_reducible refine wpList_nil ?_)
    | (with_reducible refine wp_ret ?_)
    | (go_at_K; go_step)
    | (simp only [Exit.then, Exit.inBlock, ↓reduceIte, Nat.reduceEqDiff]))
    ((try simp only [Exit.inBlock, Exit.then]); refine Sy.st_ret1 T F rfl (by repeat (first | exact Sy.ResV.nil | apply Sy.ResV.tmp rfl | apply Sy.ResV.row rfl rfl rfl (by repeat (first | exact Sy.Take.here | apply Sy.Take.there)) (by rfl) | apply Sy.ResV.one rfl rfl rfl (by repeat (first | exact Sy.Take.here | apply Sy.Take.there)) (by rfl))) ?_)
    rw [b_no hb (fun k => by have hk := k.2.2.1; rw [c3] at hk; cases hk)]
    exact F.retV _
  | true =>
    have G := Tb.mayRM F.sub ht c3; refine Sy.st_callV0 T F (hc := G) (h := ?_); (clear T F G; intro ac w T F)
    by_cases c4 : count = 0
    · have v4 := eqT (a := (count : Int)) (b := 0) (by omega)
      repeat (first
    | (((with_reducible refine Sy.is_guard ?_); (first
    | refine Sy.st_guard T (h := ?_)
    | (refine Sy.st_unguard T (h := ?_); clear T; intro ac T))))
    | (((with_reducible refine Sy.is_op ?_); refine Sy.st_pure T (h := ?_); clear T; intro ac T))
    | (with_reducible refine wpList_nil ?_)
    | (with_reducible refine wp_ret ?_)
    | (go_at_K; go_step)
    | (simp only [Exit.then, Exit.inBlock, ↓reduceIte, Nat.reduceEqDiff]))
      ((try simp only [Exit.inBlock, Exit.then]); refine Sy.st_ret1 T F rfl (by repeat (first | exact Sy.ResV.nil | apply Sy.ResV.tmp rfl | apply Sy.ResV.row rfl rfl rfl (by repeat (first | exact Sy.Take.here | apply Sy.Take.there)) (by rfl) | apply Sy.ResV.one rfl rfl rfl (by repeat (first | exact Sy.Take.here | apply Sy.Take.there)) (by rfl))) ?_)
      rw [b_no hb (fun k => k.2.2.2.1 c4)]
      exact F.retV _
    have v4 := eqF (a := (count : Int)) (b := 0) (by omega)
    by_cases c5 : r.kind = 1
    · have v5 := eqT (a := (r.kind : Int)) (b := 1) (by omega)
      by_cases c6 : (r.vars.length : Int) = t.vars
      · have v6 := eqT c6
        repeat (first
    | (((with_reducible refine Sy.is_guard ?_); (refine Sy.st_guard T (h := ?_))))
    | (((with_reducible refine Sy.is_load ?_); (refine Sy.st_loadOne T F (h := ?_)); clear T; intro ac T))
    | (((with_reducible refine Sy.is_op ?_); refine Sy.st_pure T (h := ?_); clear T; intro ac T))
    | (with_reducible refine wpList_nil ?_)
    | (with_reducible refine wp_ret ?_)
    | (go_at_K; go_step)
    | (simp only [Exit.then, Exit.inBlock, ↓reduceIte, Nat.reduceEqDiff]))
        ((try simp only [Exit.inBlock, Exit.then]); refine Sy.st_ret1 T F rfl (by repeat (first | exact Sy.ResV.nil | apply Sy.ResV.tmp rfl | apply Sy.ResV.row rfl rfl rfl (by repeat (first | exact Sy.Take.here | apply Sy.Take.there)) (by rfl) | apply Sy.ResV.one rfl rfl rfl (by repeat (first | exact Sy.Take.here | apply Sy.Take.there)) (by rfl))) ?_)
        rw [hb.2 ⟨c1, c2, c3, c4, fun _ => c6⟩]
        exact F.retV _
      · have v6 := eqF c6
        repeat (first
    | (((with_reducible refine Sy.is_guard ?_); (refine Sy.st_guard T (h := ?_))))
    | (((with_reducible refine Sy.is_load ?_); (refine Sy.st_loadOne T F (h := ?_)); clear T; intro ac T))
    | (((with_reducible refine Sy.is_op ?_); refine Sy.st_pure T (h := ?_); clear T; intro ac T))
    | (with_reducible refine wpList_nil ?_)
    | (with_reducible refine wp_ret ?_)
    | (go_at_K; go_step)
    | (simp only [Exit.then, Exit.inBlock, ↓reduceIte, Nat.reduceEqDiff]))
        ((try simp only [Exit.inBlock, Exit.then]); refine Sy.st_ret1 T F rfl (by repeat (first | exact Sy.ResV.nil | apply Sy.ResV.tmp rfl | apply Sy.ResV.row rfl rfl rfl (by repeat (first | exact Sy.Take.here | apply Sy.Take.there)) (by rfl) | apply Sy.ResV.one rfl rfl rfl (by repeat (first | exact Sy.Take.here | apply Sy.Take.there)) (by rfl))) ?_)
        rw [b_no hb (fun k => c6 (k.2.2.2.2 c5))]
        exact F.retV _
    · have v5 := eqF (a := (r.kind : Int)) (b := 1) (by omega)
      repeat (first
    | (((with_reducible refine Sy.is_guard ?_); (first
    | refine Sy.st_guard T (h := ?_)
    | (refine Sy.st_unguard T (h := ?_); clear T; intro ac T))))
    | (((with_reducible refine Sy.is_load ?_); (refine Sy.st_loadOne T F (h := ?_)); clear T; intro ac T))
    | (((with_reducible refine Sy.is_op ?_); refine Sy.st_pure T (h := ?_); clear T; intro ac T))
    | (with_reducible refine wpList_nil ?_)
    | (with_reducible refine wp_ret ?_)
    | (go_at_K; go_step)
    | (simp only [Exit.then, Exit.inBlock, ↓reduceIte, Nat.reduceEqDiff]))
      ((try simp only [Exit.inBlock, Exit.then]); refine Sy.st_ret1 T F rfl (by repeat (first | exact Sy.ResV.nil | apply Sy.ResV.tmp rfl | apply Sy.ResV.row rfl rfl rfl (by repeat (first | exact Sy.Take.here | apply Sy.Take.there)) (by rfl) | apply Sy.ResV.one rfl rfl rfl (by repeat (first | exact Sy.Take.here | apply Sy.Take.there)) (by rfl))) ?_)
      rw [hb.2 ⟨c1, c2, c3, c4, fun k => absurd k c5⟩]
      exact F.retV _
/-- some truth; where it is false, the register's lists are short -/
def RetG (w : World) (r : RegD) (e : Ending) (w' : World) : Prop := ∃ b, e = .returned (.bool b) ∧ Below w.heap.size w w' ∧ (b = false → greatS r = false)
set_option maxRecDepth 20000 in
set_option maxHeartbeats 1000000 in
theorem great07_any (w0 : World) (t : TabD) (ta : Option Addr) (tc : Nat) (ht : TabAt w0 t ta tc) (r : RegD) (p : RegA) (h : RegAt w0 r p) :
    Calls Try.prog 23 #[.agg (tabCs t ta tc).toArray, .agg (regCs r p).toArray] w0 (RetG w0 r) := by
  have F := Sy.Mem.start (Sub.refl w0)
  refine Sy.enter Try.func23 rfl Try.ntmps23 rfl ?_; intro ac T; simp only [Sy.enum, Nat.zero_add, Nat.reduceAdd] at T
  repeat (first
    | (((with_reducible refine Sy.is_load ?_); (refine Sy.st_loadAll T F (h := ?_)); clear T; intro ac T))
    | (((with_reducible refine Sy.is_box ?_); (refine Sy.st_boxAgg T F (h := ?_)); clear T F; intro ac g w T F))
    | (((with_reducible refine Sy.is_op ?_); refine Sy.st_pure T (h := ?_); clear T; intro ac T))
    | (with_reducible refine wpList_nil ?_)
    | (with_reducible refine wp_region_lit ?_)
    | ((with_reducible refine wp_seq_k ?_); intro _ _)
    | (go_at_K; go_step)
    | (simp only [Exit.then, Exit.inBlock, ↓reduceIte, Nat.reduceEqDiff]))
  refine Sy.st_call (us := []) (ks := []) T rfl rfl rfl rfl (Tb.great_any _ t ta tc (ht.sub F.sub)) ?_
  rintro e w' ⟨b, he, hb⟩
  refine ⟨_, he, fun ac T => ?_⟩
  replace F := F.below hb
  cases b with
  | true =>
    repeat (first
    | (((with_reducible refine Sy.is_guard ?_); ((refine Sy.st_unguard T (h := ?_); clear T; intro ac T))))
    | (((with_reducible refine Sy.is_op ?_); refine Sy.st_pure T (h := ?_); clear T; intro ac T))
    | (with_reducible refine wpList_nil ?_)
    | (with_reducible refine wp_ret ?_)
    | (go_at_K; go_step)
    | (simp only [Exit.then, Exit.inBlock, ↓reduceIte, Nat.reduceEqDiff]))
    ((try simp only [Exit.inBlock, Exit.then]); refine Sy.st_ret1 T F rfl (by repeat (first | exact Sy.ResV.nil | apply Sy.ResV.tmp rfl | apply Sy.ResV.row rfl rfl rfl (by repeat (first | exact Sy.Take.here | apply Sy.Take.there)) (by rfl) | apply Sy.ResV.one rfl rfl rfl (by repeat (first | exact Sy.Take.here | apply Sy.Take.there)) (by rfl))) ?_)
    exact ⟨true, rfl, F.end_, fun k => by cases k⟩
  | false =>
    repeat (first
    | (((with_reducible refine Sy.is_guard ?_); (refine Sy.st_guard T (h := ?_))))
    | (((with_reducible refine Sy.is_load ?_); (refine Sy.st_loadAll T F (h := ?_)); clear T; intro ac T))
    | (((with_reducible refine Sy.is_op ?_); refine Sy.st_pure T (h := ?_); clear T; intro ac T)))
    have G : Calls Try.prog 30 #[.agg (regCs r p).toArray] w' (RetV w' (.bool (greatS r))) := Rg.great_any w' r p (h.sub F.sub)
    refine Sy.st_callV0 T F (hc := G) (h := ?_); (clear T F; intro ac w T F)
    repeat (first
    | (((with_reducible refine Sy.is_op ?_); refine Sy.st_pure T (h := ?_); clear T; intro ac T))
    | (with_reducible refine wpList_nil ?_)
    | (with_reducible refine wp_ret ?_)
    | (go_at_K; go_step)
    | (simp only [Exit.then, Exit.inBlock, ↓reduceIte, Nat.reduceEqDiff]))
    ((try simp only [Exit.inBlock, Exit.then]); refine Sy.st_ret1 T F rfl (by repeat (first | exact Sy.ResV.nil | apply Sy.ResV.tmp rfl | apply Sy.ResV.row rfl rfl rfl (by repeat (first | exact Sy.Take.here | apply Sy.Take.there)) (by rfl) | apply Sy.ResV.one rfl rfl rfl (by repeat (first | exact Sy.Take.here | apply Sy.Take.there)) (by rfl))) ?_)
    exact ⟨greatS r, rfl, F.end_, fun k => k⟩
end En
end Go.Proofs.Ytdpmfjbhadapiaa
namespace Go.Proofs.Ytdpmfjbhadapiaa
open Go.RowKit
set_option linter.unusedVariables false
set_option linter.unusedSimpArgs false
namespace En
open Rg (U8 U64 I64 RegD RegA RegAt regCs DoneD MarkD CellD OpD OpOk RepD greatS mayS May06 ListsP goodD goodC goodM risesS Short replyS zeroReg)
open Tb (TabD fireS FireD OkA)
open Rc (posN posN_spec)
def DG (d : DoneD) : Prop := 1 ≤ d.client ∧ d.client ≤ 8 ∧ d.seq ≠ 0 ∧ replyS d.rep = true
def CG (last : Nat) (c : CellD) : Prop := 1 ≤ c.n ∧ c.n ≤ last ∧ c.target ≤ 15 ∧ 0 ≤ c.action ∧ c.action ≤ 31
def MG (m : MarkD) : Prop := m.source ≤ 15 ∧ m.inc ≠ 0 ∧ m.cell ≠ 0
def Up {α : Type} (key : α → Nat) (l : List α) : Prop := (l.map key).Pairwise (· < ·)
section
variable {α : Type} {key : α → Nat} {l : List α} {x y z : α}
theorem up_of (h : ∀ i (hi : i < l.length), 0 < i → key (l[i - 1]'(by omega)) < key l[i]) : Up key l := by
  have H : ∀ d i (hi : i + 1 + d < l.length), key (l[i]'(by omega)) < key l[i + 1 + d] := by
    intro d
    induction d with
    | zero => intro i hi; exact h (i + 1) hi (by omega)
    | succ d ih =>
      intro i hi
      have h1 := ih i (by omega)
      have h2 := h (i + 1 + (d + 1)) hi (by omega)
      have e : i + 1 + (d + 1) - 1 = i + 1 + d := by omega
      simp only [e] at h2
      omega
  unfold Up
  rw [List.pairwise_iff_getElem]
  intro i j hi hj hij
  rw [List.length_map] at hi hj
  rw [List.getElem_map, List.getElem_map]
  have := H (j - i - 1) i (by omega)
  have e : i + 1 + (j - i - 1) = j := by omega
  simp only [e] at this
  exact this
theorem up_at (h : Up key l) {i j : Nat} (hi : i < l.length) (hj : j < l.length) (hij : i < j) : key l[i] < key l[j] := by
  unfold Up at h
  rw [List.pairwise_iff_getElem] at h
  have := h i j (by simpa using hi) (by simpa using hj) hij
  simpa using this
theorem up_ge {a : Nat} (h : Up key l) (ha : ∀ x ∈ l, a ≤ key x) : ∀ i (hi : i < l.length), a + i ≤ key l[i] := by
  intro i
  induction i with
  | zero => intro hi; exact ha _ (List.getElem_mem hi)
  | succ i ih =>
    intro hi
    have h1 := ih (by omega)
    have h2 := up_at h (by omega) hi (Nat.lt_succ_self i)
    omega
theorem up_len {a b : Nat} (h : Up key l) (ha : ∀ x ∈ l, a ≤ key x ∧ key x ≤ b) : l.length ≤ b + 1 - a := by
  by_cases h0 : l.length = 0
  · omega
  have h1 := up_ge h (fun x hx => (ha x hx).1) (l.length - 1) (by omega)
  have h2 := (ha _ (List.getElem_mem (show l.length - 1 < l.length by omega))).2
  omega
theorem up_uniq (h : Up key l) (hy : y ∈ l) (hz : z ∈ l) (e : key y = key z) : y = z := by
  obtain ⟨i, hi, rfl⟩ := List.getElem_of_mem hy
  obtain ⟨j, hj, rfl⟩ := List.getElem_of_mem hz
  rcases Nat.lt_trichotomy i j with h1 | h1 | h1
  · have := up_at h hi hj h1; omega
  · subst h1; rfl
  · have := up_at h hj hi h1; omega
theorem up_filter {p : α → Bool} (h : Up key l) : Up key (l.filter p) := by
  unfold Up at *
  exact h.sublist (List.Sublist.map _ List.filter_sublist)
theorem mem_insK (h : y ∈ insK key l x) : y = x ∨ y ∈ l := by
  unfold insK at h
  split at h
  · rcases List.mem_or_eq_of_mem_set h with h | h
    · exact .inr h
    · exact .inl h
  · rw [List.mem_append, List.mem_cons] at h
    rcases h with h | h | h
    · exact .inr (List.mem_of_mem_take h)
    · exact .inl h
    · exact .inr (List.mem_of_mem_drop h)
theorem self_insK (h : Up key l) : x ∈ insK key l x := by
  by_cases hm : key x ∈ l.map key
  · rw [insK_in hm]
    obtain ⟨hp, he⟩ := (key_pos h).1 hm
    exact List.mem_iff_getElem.2 ⟨posN (l.map key) (key x), by simpa using hp, by simp⟩
  · rw [insK_out hm]
    simp
theorem old_insK (h : Up key l) (hy : y ∈ l) (hne : key y ≠ key x) : y ∈ insK key l x := by
  by_cases hm : key x ∈ l.map key
  · rw [insK_in hm]
    obtain ⟨hp, he⟩ := (key_pos h).1 hm
    obtain ⟨j, hj, rfl⟩ := List.getElem_of_mem hy
    refine List.mem_iff_getElem.2 ⟨j, by simpa using hj, ?_⟩
    rw [List.getElem_set, if_neg]
    intro e
    subst e
    exact hne he
  · rw [insK_out hm, List.mem_append, List.mem_cons]
    rw [← List.take_append_drop (posN (l.map key) (key x)) l, List.mem_append] at hy
    rcases hy with hy | hy
    · exact .inl hy
    · exact .inr (.inr hy)
theorem insK_up (h : Up key l) : Up key (insK key l x) := by
  have hs := posN_spec (key x) h
  by_cases hm : key x ∈ l.map key
  · rw [insK_in hm]
    obtain ⟨hp, he⟩ := (key_pos h).1 hm
    have e : (l.set (posN (l.map key) (key x)) x).map key = l.map key := by
      apply List.ext_getElem
      · simp
      · intro i h1 h2
        rw [List.getElem_map, List.getElem_set, List.getElem_map]
        by_cases hi : posN (l.map key) (key x) = i
        · subst hi; rw [if_pos rfl, he]
        · rw [if_neg hi]
    unfold Up
    rw [e]
    exact h
  · rw [insK_out hm]
    unfold Up at *
    rw [List.map_append, List.map_cons, List.map_take, List.map_drop]
    generalize l.map key = L at *
    generalize key x = k at *
    rw [List.pairwise_append, List.pairwise_cons]
    refine ⟨h.sublist (List.take_sublist _ _), ⟨fun y hy => ?_, h.sublist (List.drop_sublist _ _)⟩, fun a ha b hb => ?_⟩
    · obtain ⟨j, hj, rfl⟩ := List.getElem_of_mem hy
      rw [List.getElem_drop]
      rw [List.length_drop] at hj
      have h1 := hs.2.2 (posN L k + j) (by omega) (by omega)
      have h2 : L[posN L k + j]'(by omega) ≠ k := fun e => hm (e ▸ List.getElem_mem _)
      omega
    · obtain ⟨j, hj, rfl⟩ := List.getElem_of_mem ha
      rw [List.getElem_take]
      rw [List.length_take] at hj
      have h1 := hs.2.1 j (by omega) (by omega)
      rcases List.mem_cons.1 hb with rfl | hb
      · exact h1
      · obtain ⟨i, hi, rfl⟩ := List.getElem_of_mem hb
        rw [List.getElem_drop]
        rw [List.length_drop] at hi
        have h2 := hs.2.2 (posN L k + i) (by omega) (by omega)
        omega
theorem rises_of : ∀ {l : List α} {b : Nat}, Up key l → (∀ x ∈ l, b ≤ key x ∧ key x < 18446744073709551616) → risesS key l b = true
  | [], _, _, _ => rfl
  | x :: r, b, hu, hb => by
    rw [risesS, if_neg (by have := (hb x (List.mem_cons_self ..)).1; omega)]
    unfold Up at hu
    rw [List.map_cons, List.pairwise_cons] at hu
    refine rises_of hu.2 fun z hz => ⟨?_, (hb z (List.mem_cons_of_mem _ hz)).2⟩
    have h1 := hu.1 (key z) (List.mem_map_of_mem hz)
    have h2 := (hb z (List.mem_cons_of_mem _ hz)).2
    rw [Nat.mod_eq_of_lt (by omega)]
    omega
end
theorem goodD_iff (l : List DoneD) : goodD l ↔ (∀ d ∈ l, DG d) ∧ Up (·.client) l := by
  constructor
  · intro h
    refine ⟨fun d hd => ?_, up_of fun i hi h0 => (h i hi).2.2.2.2 h0⟩
    obtain ⟨i, hi, rfl⟩ := List.getElem_of_mem hd
    have := h i hi
    exact ⟨this.1, this.2.1, this.2.2.1, this.2.2.2.1⟩
  · rintro ⟨h1, h2⟩ i hi
    have a := h1 _ (List.getElem_mem hi)
    exact ⟨a.1, a.2.1, a.2.2.1, a.2.2.2, fun h0 => up_at h2 (by omega) hi (by omega)⟩
theorem goodC_iff (last : Nat) (l : List CellD) : goodC last l ↔ (∀ d ∈ l, CG last d) ∧ Up (·.n) l := by
  constructor
  · intro h
    refine ⟨fun d hd => ?_, up_of fun i hi h0 => (h i hi).2.2.2.2.2 h0⟩
    obtain ⟨i, hi, rfl⟩ := List.getElem_of_mem hd
    have := h i hi
    exact ⟨this.1, this.2.1, this.2.2.1, this.2.2.2.1, this.2.2.2.2.1⟩
  · rintro ⟨h1, h2⟩ i hi
    have a := h1 _ (List.getElem_mem hi)
    exact ⟨a.1, a.2.1, a.2.2.1, a.2.2.2.1, a.2.2.2.2, fun h0 => up_at h2 (by omega) hi (by omega)⟩
theorem goodM_iff (l : List MarkD) : goodM l ↔ (∀ d ∈ l, MG d) ∧ Up (·.source) l := by
  constructor
  · intro h
    refine ⟨fun d hd => ?_, up_of fun i hi h0 => (h i hi).2.2.2 h0⟩
    obtain ⟨i, hi, rfl⟩ := List.getElem_of_mem hd
    have := h i hi
    exact ⟨this.1, this.2.1, this.2.2.1⟩
  · rintro ⟨h1, h2⟩ i hi
    have a := h1 _ (List.getElem_mem hi)
    exact ⟨a.1, a.2.1, a.2.2, fun h0 => up_at h2 (by omega) hi (by omega)⟩
/-- the lists of a register that may be -/
structure LG (r : RegD) : Prop where
  v : r.vars.length ≤ 8
  o : r.out.length ≤ 8
  d1 : ∀ d ∈ r.done, DG d
  d2 : Up (·.client) r.done
  c1 : ∀ c ∈ r.out, CG r.last c
  c2 : Up (·.n) r.out
  m1 : ∀ m ∈ r.marks, MG m
  m2 : Up (·.source) r.marks
theorem LG.d {r : RegD} (h : LG r) : r.done.length ≤ 8 := by
  have := up_len h.d2 (a := 1) (b := 8) fun x hx => ⟨(h.d1 x hx).1, (h.d1 x hx).2.1⟩
  omega
theorem LG.m {r : RegD} (h : LG r) : r.marks.length ≤ 16 := by
  have := up_len h.m2 (a := 0) (b := 15) fun x hx => ⟨Nat.zero_le _, (h.m1 x hx).1⟩
  omega
theorem lists_iff (r : RegD) : ListsP r ↔ LG r := by
  constructor
  · rintro ⟨h1, h2, h3, h4, h5, h6, h7⟩
    rw [goodD_iff] at h5
    rw [goodC_iff] at h6
    rw [goodM_iff] at h7
    exact ⟨h1, h3, h5.1, h5.2, h6.1, h6.2, h7.1, h7.2⟩
  · intro h
    exact ⟨h.v, h.d, h.o, h.m, (goodD_iff _).2 ⟨h.d1, h.d2⟩, (goodC_iff _ _).2 ⟨h.c1, h.c2⟩, (goodM_iff _).2 ⟨h.m1, h.m2⟩⟩
/-- a register that may be, and is something -/
structure SG (r : RegD) : Prop where
  k : r.kind = 1 ∨ r.kind = 2 ∧ r.state = 0 ∧ r.vars.length = 0 ∧ r.out.length = 0
  i : r.inc ≠ 0
  s0 : 0 ≤ r.state
  s1 : r.state < 32
  l : LG r
theorem may_iff {r : RegD} : May06 r ↔ (r.kind = 0 ∧ r.inc = 0 ∧ r.state = 0 ∧ r.last = 0 ∧ r.vars = [] ∧ r.done = [] ∧ r.out = [] ∧ r.marks = []) ∨ SG r := by
  unfold May06
  by_cases hk : r.kind = 0
  · rw [if_pos hk]
    simp only [List.length_eq_zero_iff]
    constructor
    · intro h
      exact .inl ⟨hk, h⟩
    · rintro (h | h)
      · exact h.2
      · exfalso
        rcases h.k with h | h <;> omega
  · rw [if_neg hk, lists_iff]
    constructor
    · rintro ⟨h1, h2, h3, h4, h5, h6⟩
      refine .inr ⟨?_, h3, h4, h5, h6⟩
      by_cases hk2 : r.kind = 2
      · exact .inr ⟨hk2, h2 hk2⟩
      · left; omega
    · rintro (h | h)
      · exact absurd h.1 hk
      · refine ⟨?_, ?_, h.i, h.s0, h.s1, h.l⟩
        · rcases h.k with h | h <;> omega
        · intro k2
          rcases h.k with h | h
          · omega
          · exact h.2
theorem may_zero {r : RegD} (h : May06 r) (hk : r.kind = 0) : r = zeroReg := by
  rcases may_iff.1 h with h | h
  · obtain ⟨k, i, s, v, d, o, l, m⟩ := r
    obtain ⟨h0, h1, h2, h3, h4, h5, h6, h7⟩ := h
    simp only at h0 h1 h2 h3 h4 h5 h6 h7
    subst h0 h1 h2 h3 h4 h5 h6 h7
    rfl
  · exfalso
    rcases h.k with h | h <;> omega
theorem may_SG {r : RegD} (h : May06 r) (hk : r.kind ≠ 0) : SG r := by
  rcases may_iff.1 h with h | h
  · exact absurd h.1 hk
  · exact h
theorem zero_LG : LG zeroReg := by
  constructor <;> simp [zeroReg, Up]
theorem may_LG {r : RegD} (h : May06 r) : LG r := by
  by_cases hk : r.kind = 0
  · rw [may_zero h hk]; exact zero_LG
  · exact (may_SG h hk).l
theorem may_S {r : RegD} (h : May06 r) (hl : U64 r.last) : mayS r = true := by
  by_cases hk : r.kind = 0
  · rw [may_zero h hk]; decide
  have hs := may_SG h hk
  have hg := hs.l
  have hd := hg.d
  have hc : Rg.coreS r = true := by
    unfold Rg.coreS
    rw [Bool.and_eq_true, Bool.and_eq_true, Bool.and_eq_true, Bool.and_eq_true, Bool.and_eq_true]
    refine ⟨decide_eq_true (by have := hs.i; omega), ?_, decide_eq_true (by have := hg.v; omega), ?_, ?_, ?_⟩
    · unfold Rg.inS
      rw [Bool.and_eq_true]
      exact ⟨decide_eq_true hs.s0, decide_eq_true hs.s1⟩
    · unfold Rg.donesS
      rw [Bool.and_eq_true, Bool.and_eq_true]
      refine ⟨?_, decide_eq_true (by omega), rises_of hg.d2 fun x hx => ?_⟩
      · rw [Bool.not_eq_true', List.any_eq_false]
        intro x hx
        obtain ⟨h1, h2, h3, h4⟩ := hg.d1 x hx
        unfold Rg.dbadS
        rw [h4, decide_eq_false (by omega), Rg.eqF (by omega)]
        simp
      · have := hg.d1 x hx
        unfold DG at this
        omega
    · unfold Rg.cellsS
      rw [Bool.and_eq_true, Bool.and_eq_true]
      refine ⟨?_, decide_eq_true (by have := hg.o; omega), rises_of hg.c2 fun x hx => ?_⟩
      · rw [Bool.not_eq_true', List.any_eq_false]
        intro x hx
        obtain ⟨h1, h2, h3, h4, h5⟩ := hg.c1 x hx
        unfold Rg.cbadS Rg.inS
        rw [decide_eq_false (by omega), decide_eq_false (by omega), decide_eq_true (by omega), decide_eq_true (by omega)]
        simp
      · have := hg.c1 x hx
        unfold CG at this
        unfold U64 at hl
        omega
    · unfold Rg.marksS
      rw [Bool.and_eq_true]
      refine ⟨?_, rises_of hg.m2 fun x hx => ?_⟩
      · rw [Bool.not_eq_true', List.any_eq_false]
        intro x hx
        obtain ⟨h1, h2, h3⟩ := hg.m1 x hx
        unfold Rg.mbadS
        rw [decide_eq_false (by omega), Rg.eqF (by omega), Rg.eqF (by omega)]
        simp
      · have := hg.m1 x hx
        unfold MG at this
        omega
  unfold mayS
  rw [if_neg hk]
  rcases hs.k with k1 | ⟨k2, k3, k4, k5⟩
  · rw [if_neg (by omega), if_pos k1, hc]
  · rw [if_pos k2, hc]
    unfold Rg.tombS
    rw [decide_eq_false (by omega), decide_eq_false (by omega), Rg.eqT k3]
    rfl
theorem may_great {r : RegD} (h : May06 r) : greatS r = false := by
  have hg := may_LG h
  have hd := hg.d
  have hm := hg.m
  have h1 := hg.v
  have h2 := hg.o
  unfold greatS
  rw [decide_eq_false (by omega), Bool.false_or, List.any_eq_false]
  intro x hx
  have h4 := (hg.d1 x hx).2.2.2
  unfold replyS at h4
  simp only [Bool.and_eq_true, decide_eq_true_eq] at h4
  simp
  omega
/-- what the document asks of a register under a contract -/
def PG (t : TabD) (r : RegD) : Prop := May06 r ∧ (r.kind = 1 → (r.vars.length : Int) = t.vars)
theorem tab_of {t : TabD} (h : Tb.mayS t = true) : 1 ≤ t.states ∧ t.states ≤ 32 ∧ 0 ≤ t.vars ∧ t.vars ≤ 8 := by
  unfold Tb.mayS at h
  simp only [Bool.and_eq_true, Bool.not_eq_true', decide_eq_false_iff_not] at h
  obtain ⟨h1, h2, h3, h4, _⟩ := h
  omega
theorem good_of {t : TabD} {r : RegD} {o : OpD} {count n : Nat} (hp : PG t r) (ho : MayO o) (hk : OpOk o) (ht : Tb.mayS t = true) (c0 : count ≠ 0) (c64 : U64 count) (hl : U64 r.last) (hn : t.vars = (n : Int)) : Good t r o count n := by
  have hg := may_LG hp.1
  have htt := tab_of ht
  refine ⟨?_, hk.seq, hk.inc, hk.cell, ho, may_S hp.1 hl, ht, c0, c64, hn, by omega, fun k => by have := hp.2 k; omega, may_great hp.1, hg.m2, hg.d2⟩
  have := hk.arg
  unfold I64 at this
  unfold OkA Ex.least Ex.most
  omega
theorem numC_mem {n : Nat} {l : List CellD} {c : CellD} (h : c ∈ numC n l) : ∃ i, ∃ h : i < l.length, c = ⟨n + i + 1, l[i].target, l[i].action, l[i].arg⟩ := by
  obtain ⟨i, hi, rfl⟩ := List.getElem_of_mem h
  refine ⟨i, by simpa [numC] using hi, ?_⟩
  simp [numC]
theorem numC_up2 {n : Nat} {l : List CellD} : Up (·.n) (numC n l) := by
  unfold Up
  rw [List.pairwise_iff_getElem]
  intro i j hi hj hij
  simp only [numC, List.getElem_map, List.getElem_mapIdx]
  omega
theorem fire_pg {t : TabD} {r : RegD} (ht : Tb.mayS t = true) (hp : PG t r) (hk : r.kind = 1) (o : OpD) (party : Int) : PG t (fireR t r o party).1 ∧ (fireR t r o party).1.kind = 1 := by
  have htt := tab_of ht
  have hst := Tb.fire_stays (t := t) (state := r.state) (action := o.action) (party := party) (vars := r.vars) (arg := o.arg)
  simp only [fireR]
  split
  · exact ⟨hp, hk⟩
  split
  · exact ⟨hp, hk⟩
  · rename_i he hc
    rcases hst with hst | hst
    · exact absurd hst.1 he
    obtain ⟨-, s0, s1, s2, s3, s4⟩ := hst
    generalize fireS t r.state o.action party r.vars o.arg = f at *
    have hs := may_SG hp.1 (by omega)
    have hg := hs.l
    refine ⟨⟨may_iff.2 (.inr ⟨.inl hk, hs.i, s0, ?_, ?_⟩), fun _ => s2⟩, hk⟩
    · show f.st < 32
      omega
    · refine ⟨?_, ?_, hg.d1, hg.d2, ?_, ?_, hg.m1, hg.m2⟩
      · show f.vs.length ≤ 8
        omega
      · simp only [firedS, List.length_append, numC_len]
        omega
      · intro c hcm
        simp only [firedS, List.mem_append] at hcm ⊢
        rcases hcm with hcm | hcm
        · have := hg.c1 c hcm
          unfold CG at this ⊢
          omega
        · obtain ⟨i, hi, rfl⟩ := numC_mem hcm
          have := s4 _ (List.getElem_mem hi)
          unfold CG
          simp only
          omega
      · unfold Up
        simp only [firedS, List.map_append]
        rw [List.pairwise_append]
        refine ⟨hg.c2, numC_up2, fun a ha b hb => ?_⟩
        obtain ⟨c, hcm, rfl⟩ := List.mem_map.1 ha
        obtain ⟨d, hdm, rfl⟩ := List.mem_map.1 hb
        obtain ⟨i, hi, rfl⟩ := numC_mem hdm
        have := (hg.c1 c hcm).2.1
        simp only
        omega
theorem marked_pg {t : TabD} {r : RegD} (hp : PG t r) (hk : r.kind = 1) (o : OpD) (ho : MayO o) (h5 : o.kind = 5) : PG t (marked r o) := by
  have hs := may_SG hp.1 (by omega)
  have hg := hs.l
  refine ⟨may_iff.2 (.inr ⟨hs.k, hs.i, hs.s0, hs.s1, hg.v, hg.o, hg.d1, hg.d2, hg.c1, hg.c2, fun m hm => ?_, insK_up hg.m2⟩), hp.2⟩
  rcases mem_insK hm with rfl | hm
  · have h1 := ho.2.1
    have h2 := ho.2.2.2.2.2.2.2.2.2.2.2.2 (.inl h5)
    unfold MG
    simp only
    omega
  · exact hg.m1 m hm
theorem does_pg {t : TabD} {r : RegD} (ht : Tb.mayS t = true) (hp : PG t r) (o : OpD) (ho : MayO o) (count n : Nat) (c0 : count ≠ 0) (hn : t.vars = (n : Int)) : PG t (doesR t r o count n).1 := by
  have htt := tab_of ht
  have hg := may_LG hp.1
  unfold doesR
  split
  · exact hp
  split
  · unfold createR
    split
    · exact hp
    · refine ⟨may_iff.2 (.inr ⟨.inl rfl, c0, Int.le_refl _, by simp [createS], ?_, Nat.zero_le _, hg.d1, hg.d2, by simp [createS], by simp [createS, Up], hg.m1, hg.m2⟩), fun _ => ?_⟩
      · simp only [createS, List.length_replicate]
        omega
      · simp only [createS, List.length_replicate]
        omega
  split
  · rename_i h5
    unfold consumeR
    split
    · exact hp
    split
    · exact hp
    · rename_i hk
      have := fire_pg ht hp (by omega) o 0
      exact marked_pg this.1 this.2 o ho h5
  split
  · split
    · rename_i hk
      have hs := may_SG hp.1 (by omega)
      refine ⟨may_iff.2 (.inr ⟨.inl hk.1, hs.i, hs.s0, hs.s1, hg.v, ?_, hg.d1, hg.d2, fun c hc => ?_, up_filter hg.c2, hg.m1, hg.m2⟩), hp.2⟩
      · exact Nat.le_trans (List.length_filter_le _ _) hg.o
      · exact hg.c1 c (List.mem_filter.1 hc).1
    · exact hp
  split
  · exact hp
  rename_i hk
  split
  · exact (fire_pg ht hp (by omega) o _).1
  split
  · unfold removeR
    split
    · exact hp
    · have hs := may_SG hp.1 (by omega)
      exact ⟨may_iff.2 (.inr ⟨.inr ⟨rfl, rfl, rfl, rfl⟩, hs.i, Int.le_refl _, by simp [tombS], Nat.zero_le _, Nat.zero_le _, hg.d1, hg.d2, by simp [tombS], by simp [tombS, Up], hg.m1, hg.m2⟩), fun h => by simp [tombS] at h⟩
  · exact hp
theorem note_pg {t : TabD} {x : RegD} (hp : PG t x) (o : OpD) (ho : MayO o) (p : RepD) (hr : replyS p = true) : PG t (noteS x o p) := by
  unfold noteS
  split
  · rename_i h
    have hs := may_SG hp.1 h.2
    have hg := hs.l
    refine ⟨may_iff.2 (.inr ⟨hs.k, hs.i, hs.s0, hs.s1, hg.v, hg.o, fun d hd => ?_, insK_up hg.d2, hg.c1, hg.c2, hg.m1, hg.m2⟩), hp.2⟩
    rcases mem_insK hd with rfl | hd
    · have h1 := ho.2.2.1
      have h2 := ho.2.2.2.1
      refine ⟨?_, ?_, ?_, hr⟩ <;> (simp only; omega)
    · exact hg.d1 d hd
  · exact hp
theorem rep_of {t : TabD} {r : RegD} (ht : Tb.mayS t = true) (hp : PG t r) (o : OpD) (ho : MayO o) (count n : Nat) (c0 : count ≠ 0) (hn : t.vars = (n : Int)) : replyS (repOf (doesR t r o count n)) = true := by
  have h1 := does_pg ht hp o ho count n c0 hn
  have h2 := does_le t r o count n
  unfold repOf replyS Rg.inS
  split
  · rename_i h
    have hs := may_SG h1.1 (by omega)
    have h3 := hs.s0
    have h4 := hs.s1
    have h5 := hs.l.v
    simp only [Bool.and_eq_true, decide_eq_true_eq]
    omega
  · simp only [Bool.and_eq_true, decide_eq_true_eq, List.length_nil]
    omega
theorem apply_pg {t : TabD} {r : RegD} (ht : Tb.mayS t = true) (hp : PG t r) (o : OpD) (ho : MayO o) (count n : Nat) (c0 : count ≠ 0) (hn : t.vars = (n : Int)) : PG t (applyR t r o count n).1 := by
  unfold applyR
  split
  · split <;> exact hp
  · exact note_pg (does_pg ht hp o ho count n c0 hn) o ho _ (rep_of ht hp o ho count n c0 hn)
end En
end Go.Proofs.Ytdpmfjbhadapiaa
namespace Go.Proofs.Ytdpmfjbhadapiaa
open Go.RowKit
set_option linter.unusedVariables false
set_option linter.unusedSimpArgs false
namespace En
open Rg (U8 U64 I64 RegD DoneD MarkD CellD OpD RepD May06 zeroReg)
open Tb (TabD fireS FireD)
theorem find_one {α : Type} {l : List α} {p : α → Bool} {x : α} (hx : x ∈ l) (hp : p x = true) (hu : ∀ y ∈ l, p y = true → y = x) : l.find? p = some x := by
  cases h : l.find? p with
  | none =>
    rw [List.find?_eq_none] at h
    exact absurd hp (h x hx)
  | some y => rw [hu y (List.mem_of_find?_eq_some h) (List.find?_some h)]
theorem hit_client {o : OpD} {d : DoneD} (h : hitS o d = true) : d.client = o.client ∧ o.client ≠ 0 ∧ o.seq ≤ d.seq := by
  obtain ⟨h1, h2, h3⟩ := hit_t h
  have h2 := eq_of_beq h2
  have h3 := of_decide_eq_false h3
  have h1 : (o.client : Int) ≠ 0 := fun e => by rw [e] at h1; cases h1
  omega
theorem hit_self {o : OpD} {p : RepD} (hc : o.client ≠ 0) : hitS o ⟨o.client, o.seq, p⟩ = true := by
  unfold hitS
  rw [Rg.eqF (by omega), Rg.eqT rfl, decide_eq_false (by simp)]
  rfl
/-- the error where nothing is alive -/
def absE (r : RegD) (o : OpD) : Nat := if o.kind = 7 then 0 else if o.kind = 5 then (if settledS r o.source o.inc o.cell = true then 14 else 11) else if o.kind = 6 then 0 else 11
theorem does_abs {t : TabD} {r : RegD} {o : OpD} (hr : r.kind ≠ 1) (ho : o.kind ≠ 1) (count n : Nat) : doesR t r o count n = (r, absE r o) := by
  unfold doesR absE
  by_cases h7 : o.kind = 7
  · rw [if_pos h7, if_pos h7]
  rw [if_neg h7, if_neg h7, if_neg ho]
  by_cases h5 : o.kind = 5
  · rw [if_pos h5, if_pos h5]
    unfold consumeR
    by_cases hs : settledS r o.source o.inc o.cell = true
    · rw [if_pos hs, if_pos hs]
    · rw [if_neg hs, if_neg hs, if_pos hr]
  rw [if_neg h5, if_neg h5]
  by_cases h6 : o.kind = 6
  · rw [if_pos h6, if_pos h6, if_neg (fun k => hr k.1)]
  rw [if_neg h6, if_neg h6, if_pos hr]
theorem fire_kind (t : TabD) (r : RegD) (o : OpD) (party : Int) : (fireR t r o party).1.kind = r.kind := by
  simp only [fireR]
  split
  · rfl
  · split <;> rfl
theorem does_kind {t : TabD} {r : RegD} {o : OpD} {count n : Nat} (h : r.kind ≠ 0) : (doesR t r o count n).1.kind ≠ 0 := by
  unfold doesR
  repeat' split
  all_goals first
    | exact h
    | (rw [fire_kind]; exact h)
    | (unfold createR; split; · exact h
       simp [createS])
    | (unfold removeR; split; · exact h
       simp [tombS])
    | (unfold consumeR; split; · exact h
       split; · exact h
       simp only [marked]
       rw [fire_kind]; exact h)
theorem create_kind {t : TabD} {r : RegD} {o : OpD} {count n : Nat} (h : o.kind = 1) : (doesR t r o count n).1.kind = 1 := by
  unfold doesR createR
  rw [if_neg (by omega), if_pos h]
  split
  · assumption
  · rfl
theorem apply_none {t : TabD} {r : RegD} {o : OpD} (h : r.done.find? (hitS o) = none) (c n : Nat) : applyR t r o c n = (noteS (doesR t r o c n).1 o (repOf (doesR t r o c n)), repOf (doesR t r o c n)) := by
  unfold applyR
  rw [h]
theorem apply_some {t : TabD} {r : RegD} {o : OpD} {d : DoneD} (h : r.done.find? (hitS o) = some d) (c n : Nat) : applyR t r o c n = (r, if o.seq < d.seq then ⟨15, 0, 0, []⟩ else d.rep) := by
  unfold applyR
  rw [h]
  simp only
  split <;> rfl
theorem twice_law {t : TabD} {r : RegD} {o : OpD} {count n : Nat} (ht : Tb.mayS t = true) (hp : PG t r) (ho : MayO o) (c0 : count ≠ 0) (hn : t.vars = (n : Int)) (hc : o.client ≠ 0) (again : Nat) :
    applyR t (applyR t r o count n).1 o again n = applyR t r o count n := by
  cases hf : r.done.find? (hitS o) with
  | some d =>
    rw [apply_some hf count n]
    exact apply_some hf again n
  | none =>
    rw [apply_none hf count n]
    by_cases hk : (doesR t r o count n).1.kind = 0
    · have hr : r.kind = 0 := Decidable.byContradiction fun k => does_kind k hk
      have h1 : o.kind ≠ 1 := fun k => by rw [create_kind k] at hk; cases hk
      have e : ∀ c, doesR t r o c n = (r, absE r o) := fun c => does_abs (by omega) h1 c n
      have hz : ∀ p, noteS r o p = r := fun p => by unfold noteS; rw [if_neg (fun k => k.2 hr)]
      rw [e count]
      simp only [hz]
      rw [apply_none hf again n, e again]
      simp only [hz]
    · have hpg := does_pg ht hp o ho count n c0 hn
      generalize doesR t r o count n = x at *
      have hu := (may_LG hpg.1).d2
      have hfd : (noteS x.1 o (repOf x)).done.find? (hitS o) = some ⟨o.client, o.seq, repOf x⟩ := by
        unfold noteS
        rw [if_pos ⟨by omega, hk⟩]
        exact find_one (self_insK hu) (hit_self hc) fun y hy hh => up_uniq (insK_up hu) hy (self_insK hu) (hit_client hh).1
      rw [apply_some hfd again n]
      simp only [Nat.lt_irrefl, if_false]
theorem note_marks (x : RegD) (o : OpD) (p : RepD) : (noteS x o p).marks = x.marks := by
  unfold noteS
  split <;> rfl
theorem does_marks (t : TabD) (r : RegD) (o : OpD) (count n : Nat) : (doesR t r o count n).1.marks = r.marks ∨ settledS r o.source o.inc o.cell = false ∧ (doesR t r o count n).1.marks = insK (·.source) r.marks ⟨o.source, o.inc, o.cell⟩ := by
  unfold doesR
  repeat' split
  all_goals first
    | exact .inl rfl
    | exact .inl (fire_marks _ _ _ _)
    | (left; unfold createR; split <;> rfl)
    | (left; unfold removeR; split <;> rfl)
    | (unfold consumeR
       split
       · exact .inl rfl
       split
       · exact .inl rfl
       · rename_i hs hk
         refine .inr ⟨by simpa using hs, ?_⟩
         simp only [marked]
         rw [fire_marks])
theorem apply_marks (t : TabD) (r : RegD) (o : OpD) (count n : Nat) : (applyR t r o count n).1.marks = r.marks ∨ settledS r o.source o.inc o.cell = false ∧ (applyR t r o count n).1.marks = insK (·.source) r.marks ⟨o.source, o.inc, o.cell⟩ := by
  cases hf : r.done.find? (hitS o) with
  | some d => rw [apply_some hf]; exact .inl rfl
  | none =>
    rw [apply_none hf]
    simp only [note_marks]
    exact does_marks t r o count n
theorem stl_iff {s i c : Int} {m : MarkD} : stl s i c m = true ↔ (m.source : Int) = s ∧ (i < (m.inc : Int) ∨ (m.inc : Int) = i ∧ c ≤ (m.cell : Int)) := by
  unfold stl
  simp only [Bool.and_eq_true, Bool.or_eq_true, beq_iff_eq, decide_eq_true_eq, gt_iff_lt, ge_iff_le]
theorem settled_iff {r : RegD} {s i c : Int} : settledS r s i c = true ↔ ∃ m ∈ r.marks, stl s i c m = true := by
  unfold settledS
  rw [List.any_eq_true]
theorem settled_keeps {t : TabD} {r : RegD} {o : OpD} {count n : Nat} (hp : PG t r) {s i c : Int} (h : settledS r s i c = true) : settledS (applyR t r o count n).1 s i c = true := by
  rw [settled_iff] at h ⊢
  obtain ⟨m, hm, hs⟩ := h
  have hu := (may_LG hp.1).m2
  rcases apply_marks t r o count n with e | ⟨hno, e⟩
  · rw [e]; exact ⟨m, hm, hs⟩
  · rw [e]
    by_cases hk : m.source = o.source
    · refine ⟨_, self_insK hu, ?_⟩
      have h2 : ¬ stl o.source o.inc o.cell m = true := fun k => by
        have := settled_iff.2 ⟨m, hm, k⟩
        rw [hno] at this
        cases this
      rw [stl_iff] at hs h2 ⊢
      simp only
      omega
    · exact ⟨m, old_insK hu hm hk, hs⟩
theorem find_free {r : RegD} {o : OpD} (hc : o.client = 0) : r.done.find? (hitS o) = none := by
  rw [List.find?_eq_none]
  intro d hd hh
  exact (hit_client hh).2.1 hc
theorem note_free {x : RegD} {o : OpD} {p : RepD} (hc : o.client = 0) : noteS x o p = x := by
  unfold noteS
  rw [if_neg (fun k => by omega)]
theorem once_told {t : TabD} {r : RegD} {o : OpD} {count n : Nat} (hk : o.kind = 5) (hc : o.client = 0) (h : settledS r o.source o.inc o.cell = true) : applyR t r o count n = (r, ⟨14, 0, 0, []⟩) := by
  rw [apply_none (find_free hc)]
  have e : doesR t r o count n = (r, 14) := by
    unfold doesR consumeR
    rw [if_neg (by omega), if_neg (by omega), if_pos hk, if_pos h]
  rw [e, note_free hc]
  rfl
theorem once_first {t : TabD} {r : RegD} {o : OpD} {count n : Nat} (hp : PG t r) (hk : o.kind = 5) (hc : o.client = 0) (hl : r.kind = 1) : settledS (applyR t r o count n).1 o.source o.inc o.cell = true := by
  cases hs : settledS r o.source o.inc o.cell with
  | true => rw [once_told hk hc hs]; exact hs
  | false =>
    rw [apply_none (find_free hc), note_free hc]
    have e : (doesR t r o count n).1.marks = insK (·.source) r.marks ⟨o.source, o.inc, o.cell⟩ := by
      unfold doesR consumeR
      rw [if_neg (by omega), if_neg (by omega), if_pos hk, if_neg (by rw [hs]; simp), if_neg (by omega)]
      simp only [marked]
      rw [fire_marks]
    rw [settled_iff, e]
    exact ⟨_, self_insK (may_LG hp.1).m2, stl_iff.2 ⟨rfl, .inr ⟨rfl, Int.le_refl _⟩⟩⟩
theorem note_rest (x : RegD) (o : OpD) (p : RepD) : (noteS x o p).kind = x.kind ∧ (noteS x o p).inc = x.inc ∧ (noteS x o p).state = x.state ∧ (noteS x o p).vars = x.vars ∧ (noteS x o p).out = x.out ∧ (noteS x o p).last = x.last := by
  unfold noteS
  split <;> exact ⟨rfl, rfl, rfl, rfl, rfl, rfl⟩
theorem fire_cells (t : TabD) (r : RegD) (o : OpD) (party : Int) : r.last ≤ (fireR t r o party).1.last ∧ ∀ c ∈ (fireR t r o party).1.out, c ∈ r.out ∨ r.last < c.n := by
  simp only [fireR]
  split
  · exact ⟨Nat.le_refl _, fun c h => .inl h⟩
  split
  · exact ⟨Nat.le_refl _, fun c h => .inl h⟩
  · refine ⟨by simp only [firedS]; omega, fun c h => ?_⟩
    simp only [firedS, List.mem_append] at h
    rcases h with h | h
    · exact .inl h
    · obtain ⟨i, hi, rfl⟩ := numC_mem h
      right
      simp only
      omega
theorem cells_law {t : TabD} {r : RegD} {o : OpD} {count n : Nat} (hk : r.kind = 1) : ((applyR t r o count n).1.kind = 1 → r.last ≤ (applyR t r o count n).1.last) ∧ ∀ c ∈ (applyR t r o count n).1.out, c ∈ r.out ∨ r.last < c.n := by
  have hd : ((doesR t r o count n).1.kind = 1 → r.last ≤ (doesR t r o count n).1.last) ∧ ∀ c ∈ (doesR t r o count n).1.out, c ∈ r.out ∨ r.last < c.n := by
    unfold doesR
    repeat' split
    all_goals first
      | exact ⟨fun _ => Nat.le_refl _, fun c h => .inl h⟩
      | exact ⟨fun _ => (fire_cells t r o _).1, (fire_cells t r o _).2⟩
      | (unfold createR; rw [if_pos hk]; exact ⟨fun _ => Nat.le_refl _, fun c h => .inl h⟩)
      | (unfold removeR; split; · exact ⟨fun _ => Nat.le_refl _, fun c h => .inl h⟩
         exact ⟨fun h => by simp [tombS] at h, fun c h => by simp [tombS] at h⟩)
      | (unfold consumeR; split; · exact ⟨fun _ => Nat.le_refl _, fun c h => .inl h⟩
         split; · exact ⟨fun _ => Nat.le_refl _, fun c h => .inl h⟩
         exact ⟨fun _ => (fire_cells t r o _).1, (fire_cells t r o _).2⟩)
      | exact ⟨fun _ => Nat.le_refl _, fun c h => .inl (List.mem_filter.1 h).1⟩
  cases hf : r.done.find? (hitS o) with
  | some d => rw [apply_some hf]; exact ⟨fun _ => Nat.le_refl _, fun c h => .inl h⟩
  | none =>
    rw [apply_none hf]
    obtain ⟨e1, _, _, _, e5, e6⟩ := note_rest (doesR t r o count n).1 o (repOf (doesR t r o count n))
    simp only [e1, e5, e6]
    exact hd
theorem reads_law {t : TabD} {r : RegD} {o : OpD} {count n : Nat} (ho : MayO o) (hk : o.kind = 3 ∨ o.kind = 7) : { (applyR t r o count n).1 with done := [] } = { r with done := [] } ∧ (o.kind = 7 → (applyR t r o count n).1 = r ∧ (applyR t r o count n).2.err = 0) := by
  have h4 := ho.2.2.2.2.2.2.2.2.2.2.1
  have hd : (doesR t r o count n).1 = r ∧ (o.kind = 7 → doesR t r o count n = (r, 0)) := by
    unfold doesR
    rcases hk with hk | hk
    · rw [if_neg (by omega), if_neg (by omega), if_neg (by omega), if_neg (by omega)]
      refine ⟨?_, by omega⟩
      split
      · rfl
      · rw [if_neg (by omega), if_neg (by omega)]
    · rw [if_pos hk]
      exact ⟨rfl, fun _ => rfl⟩
  cases hf : r.done.find? (hitS o) with
  | some d =>
    rw [apply_some hf]
    refine ⟨rfl, fun h7 => ?_⟩
    have hc : o.client = 0 := by omega
    rw [find_free hc] at hf
    cases hf
  | none =>
    rw [apply_none hf]
    refine ⟨?_, fun h7 => ?_⟩
    · rw [hd.1]
      unfold noteS
      split <;> rfl
    · have hc : o.client = 0 := by omega
      rw [note_free hc, hd.2 h7]
      refine ⟨rfl, ?_⟩
      unfold repOf
      split <;> rfl
theorem absent_law {t : TabD} {o : OpD} {count n : Nat} (ho : MayO o) (hk : o.kind ≠ 1) : (applyR t zeroReg o count n).1 = zeroReg ∧ ((applyR t zeroReg o count n).2.err = 11 ↔ o.kind ≠ 7 ∧ o.kind ≠ 6) := by
  have hf : zeroReg.done.find? (hitS o) = none := rfl
  rw [apply_none hf, does_abs (by simp [zeroReg]) hk]
  refine ⟨?_, ?_⟩
  · unfold noteS
    rw [if_neg (fun k => k.2 rfl)]
  · have hs : settledS zeroReg o.source o.inc o.cell = false := rfl
    have h4 := ho.2.2.2.2.2.2.2.2.2.2.1
    have e : (repOf (zeroReg, absE zeroReg o)).err = (absE zeroReg o : Int) := by
      unfold repOf
      rw [if_neg (fun k => by simp [zeroReg] at k)]
    rw [e]
    unfold absE
    rw [hs]
    by_cases h7 : o.kind = 7
    · rw [if_pos h7]; simp [h7]
    rw [if_neg h7]
    by_cases h5 : o.kind = 5
    · rw [if_pos h5]; simp [h5]
    rw [if_neg h5]
    by_cases h6 : o.kind = 6
    · rw [if_pos h6]; simp [h6]
    rw [if_neg h6]
    simp [h6, h7]
theorem absent_create {t : TabD} {o : OpD} {count n : Nat} (hk : o.kind = 1) : (applyR t zeroReg o count n).1.kind = 1 ∧ (applyR t zeroReg o count n).1.inc = count ∧ (applyR t zeroReg o count n).1.vars = List.replicate n 0 ∧ (applyR t zeroReg o count n).2.inc = count := by
  have hf : zeroReg.done.find? (hitS o) = none := rfl
  have e : doesR t zeroReg o count n = (createS zeroReg count n, 0) := by
    unfold doesR createR
    rw [if_neg (by omega), if_pos hk, if_neg (by simp [zeroReg])]
  rw [apply_none hf, e]
  obtain ⟨e1, e2, e3, e4, -, -⟩ := note_rest (createS zeroReg count n) o (repOf (createS zeroReg count n, 0))
  refine ⟨e1, e2, e4, rfl⟩
/-- a deletion of something alive without cells: answered ahead, or done -/
theorem gone_first {t : TabD} {r : RegD} {o : OpD} {count n : Nat} (hk : o.kind = 4) (hr : r.kind = 1) (h0 : r.out = []) :
    (∃ d, r.done.find? (hitS o) = some d ∧ applyR t r o count n = (r, if o.seq < d.seq then ⟨15, 0, 0, []⟩ else d.rep)) ∨ applyR t r o count n = (noteS (tombS r) o ⟨0, 0, 0, []⟩, ⟨0, 0, 0, []⟩) := by
  cases hf : r.done.find? (hitS o) with
  | some d => exact .inl ⟨d, rfl, apply_some hf _ _⟩
  | none =>
    right
    have e : doesR t r o count n = (tombS r, 0) := by
      unfold doesR removeR
      rw [if_neg (by omega), if_neg (by omega), if_neg (by omega), if_neg (by omega), if_neg (by omega), if_neg (by omega), if_pos hk, if_neg (by simp [h0])]
    rw [apply_none hf, e]
    rfl
/-- a creation behind it -/
theorem gone_then {t : TabD} {r : RegD} {o o2 : OpD} {count n : Nat} (ht : Tb.mayS t = true) (hp : PG t r) (hr : r.kind = 1) (ho : MayO o) (hk : o.kind = 4) (hk2 : o2.kind = 1) (hc : o2.client = o.client) (hs : o.seq < o2.seq) :
    let y := applyR t (noteS (tombS r) o ⟨0, 0, 0, []⟩) o2 count n
    y.1.kind = 1 ∧ y.1.inc = count ∧ y.2.inc = count ∧ y.1.out = [] ∧ y.1.last = 0 ∧ y.1.marks = r.marks := by
  have hu := (may_LG hp.1).d2
  have hc0 : o.client ≠ 0 := by
    have h4 := ho.2.2.2.2.2.2.2.2.2.2.1
    omega
  have hx : noteS (tombS r) o ⟨0, 0, 0, []⟩ = { tombS r with done := insK (·.client) r.done ⟨o.client, o.seq, ⟨0, 0, 0, []⟩⟩ } := by
    unfold noteS
    rw [if_pos ⟨by omega, by simp [tombS]⟩]
    rfl
  have hf : (noteS (tombS r) o ⟨0, 0, 0, []⟩).done.find? (hitS o2) = none := by
    rw [hx, List.find?_eq_none]
    intro d hd hh
    have h1 := hit_client hh
    have := up_uniq (insK_up hu) hd (self_insK hu) (by simp only; omega)
    subst this
    simp only at h1
    omega
  intro y
  have hy : y = applyR t (noteS (tombS r) o ⟨0, 0, 0, []⟩) o2 count n := rfl
  rw [apply_none hf] at hy
  have e : doesR t (noteS (tombS r) o ⟨0, 0, 0, []⟩) o2 count n = (createS (noteS (tombS r) o ⟨0, 0, 0, []⟩) count n, 0) := by
    unfold doesR createR
    rw [if_neg (by omega), if_pos hk2, if_neg (by rw [(note_rest _ _ _).1]; simp [tombS])]
  rw [e] at hy
  obtain ⟨e1, e2, e3, e4, e5, e6⟩ := note_rest (createS (noteS (tombS r) o ⟨0, 0, 0, []⟩) count n) o2 (repOf (createS (noteS (tombS r) o ⟨0, 0, 0, []⟩) count n, 0))
  rw [hy]
  refine ⟨e1, e2, rfl, e5, e6, ?_⟩
  rw [note_marks]
  show (noteS (tombS r) o ⟨0, 0, 0, []⟩).marks = _
  rw [note_marks]
  rfl
/-- a creation behind a deletion that was answered ahead -/
theorem gone_other {t : TabD} {r : RegD} {o o2 : OpD} {d : DoneD} {count n : Nat} (hp : PG t r) (hr : r.kind = 1) (hk2 : o2.kind = 1) (hc : o2.client = o.client) (hs : o.seq < o2.seq) (hd : r.done.find? (hitS o) = some d) (he : ¬ o.seq < d.seq) :
    (applyR t r o2 count n).1.kind = 1 ∧ (applyR t r o2 count n).2 = ⟨12, 0, 0, []⟩ := by
  have hu := (may_LG hp.1).d2
  have h1 := hit_client (List.find?_some hd)
  have h2 := List.mem_of_find?_eq_some hd
  have hf : r.done.find? (hitS o2) = none := by
    rw [List.find?_eq_none]
    intro y hy hh
    have h3 := hit_client hh
    have := up_uniq hu hy h2 (by omega)
    subst this
    omega
  have e : doesR t r o2 count n = (r, 12) := by
    unfold doesR createR
    rw [if_neg (by omega), if_pos hk2, if_pos hr]
  rw [apply_none hf, e]
  exact ⟨(note_rest _ _ _).1.trans hr, rfl⟩
end En
end Go.Proofs.Ytdpmfjbhadapiaa
