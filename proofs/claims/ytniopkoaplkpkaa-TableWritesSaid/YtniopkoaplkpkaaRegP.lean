/- The walks of reg.nums, reg.vars and the document's num, vars. Conditions: what is handed in can be read; it is short. -/
import Derived.Test.YtniopkoaplkpkaaPkM
import Derived.Test.YtniopkoaplkpkaaFacts
namespace Go.Proofs.Ytniopkoaplkpkaa
open Go.RowKit
set_option linter.unusedVariables false
set_option linter.unusedSimpArgs false
namespace Rg
open Sy (RetV RetM Sub)
open Pk
theorem fm_up {α : Type} {f : α → List UInt8} {l : List α} {k : Nat} (h : k < l.length) : (l.take (k + 1)).flatMap f = (l.take k).flatMap f ++ f l[k] := by
  rw [List.take_succ_eq_append_getElem h, List.flatMap_append]
  simp
theorem fm_len {α : Type} {f : α → List UInt8} {c : Nat} : ∀ {l : List α}, (∀ x ∈ l, (f x).length ≤ c) → (l.flatMap f).length ≤ c * l.length
  | [], _ => by simp
  | x :: r, h => by
    have h1 := h x (by simp)
    have h2 := fm_len (l := r) (fun y hy => h y (by simp [hy]))
    simp only [List.flatMap_cons, List.length_append, List.length_cons, Nat.mul_add]
    omega
/-- numbers of 64 bits in memory -/
def U64s (w : World) (a : Option Addr) (ns : List Nat) : Prop := Cells w a (ns.map fun (n : Nat) => Value.int .u64 (n : Int)) ∧ ∀ n ∈ ns, n < 18446744073709551616
theorem U64s.get {w : World} {a : Option Addr} {ns : List Nat} (h : U64s w a ns) {k : Nat} (hk : k < ns.length) : ∃ b o, a = some ⟨b, o, none⟩ ∧ w.cell? ⟨b, o + k * 1, none⟩ = some (.int .u64 (ns[k] : Int)) := by
  rcases h.1 with h1 | ⟨b, o, ha, hc⟩
  · simp at h1; subst h1; simp at hk
  · refine ⟨b, o, ha, ?_⟩
    have := hc k (by simpa using hk)
    rw [Nat.mul_one, this]; simp

set_option maxRecDepth 20000 in
theorem nums_any (w : World) {a : Option Addr} {cap : Nat} {l : List UInt8} (hb : Bytes w a l.length l) {a2 : Option Addr} {c2 : Nat} {ns : List Nat} (h2 : U64s w a2 ns) (hne : 0 < ns.length) (hs : ns.length ≤ 1000) (hsl : l.length ≤ 70368744000000) :
    Calls Try.prog 52 #[.slice a l.length cap, .slice a2 ns.length c2] w (RetF w (l ++ ns.flatMap numB)) := by
  have F := Sy.Mem.start (Sub.refl w)
  refine Sy.enter Try.func52 rfl Try.ntmps52 rfl ?_; intro ac T; simp only [Sy.enum, Nat.zero_add, Nat.reduceAdd] at T
  repeat (first
    | (((with_reducible refine Sy.is_load ?_); (first | refine Sy.st_loadOne T F (h := ?_) | refine Sy.st_oldOne T F (h := ?_) | refine Sy.st_loadAll T F (h := ?_) | (refine Sy.st_loadCut T F (h := ?_); conv => whnf) | refine Sy.st_oldAgg T F (h := ?_) | (refine Sy.st_oldCut T F (h := ?_); conv => whnf)); clear T; intro ac T))
    | (((with_reducible refine Sy.is_op ?_); refine Sy.st_pure T (h := ?_); clear T; intro ac T))
    | ((with_reducible refine Sy.atK (hK _ _ ?_)))
    | ((with_reducible refine Sy.is_cond ?_); (first | refine Sy.st_true T (h := ?_) | refine Sy.st_false T (h := ?_)))
    | (with_reducible refine wpList_nil ?_)
    | (with_reducible refine wp_region_lit ?_)
    | (with_reducible refine wp_block ?_)
    | (with_reducible refine wp_skip ?_)
    | (with_reducible refine wp_exit ?_)
    | (with_reducible refine wp_ret ?_)
    | ((with_reducible refine wp_seq_k ?_); intro _ _)
    | (go_at_K; go_step)
    | (simp only [Exit.then, Exit.inBlock, ↓reduceIte, Nat.reduceEqDiff]))
  refine wp_loop_ghost_k (fun i ac w' => ∃ (k : Nat) (m : World) (v : Value), i = ns.length - k ∧ k ≤ ns.length ∧ Sub w m ∧ (∃ a cap, v = .slice a (l ++ (ns.take k).flatMap numB).length cap ∧ Bytes m a (l ++ (ns.take k).flatMap numB).length (l ++ (ns.take k).flatMap numB)) ∧ (k = 0 ∨ BytF w.heap.size (l ++ (ns.take k).flatMap numB) m v) ∧
    Sy.Tm ac 18 [(0, v), (7, .slice a2 ns.length c2), (8, .int .i64 (ns.length : Int)), (9, .int .i64 (k : Int))] ∧ Sy.Mem ⟨w, [], w⟩ m [] w') ns.length ?_ ?_
  · exact ⟨0, w, .slice a l.length cap, rfl, Nat.zero_le _, Sub.refl w, ⟨a, cap, by simp, by simpa using hb⟩, .inl rfl, (T.part (by repeat (first | exact Sy.Part.nil | apply Sy.Part.cons rfl))), F⟩
  intro i ac w' hI J K hJ hK
  obtain ⟨k, m, v, rfl, hk, hsub, ⟨a, cap, rfl, hbk⟩, hf, T, F⟩ := hI
  by_cases hlt : k < ns.length
  · have t1 : decide ((k : Int) < (ns.length : Int)) = true := decide_eq_true (by omega)
    have t2 : IntKind.i64.wrap ((k : Int) + 1) = ((k + 1 : Nat) : Int) := by rw [i64_wrap (by omega) (by omega)]; omega
    obtain ⟨b, o, ha, hc⟩ := h2.get hlt
    replace hc := hsub _ _ hc
    subst ha
    have hlen := fm_len (l := ns.take k) (f := numB) (c := 10) (fun x hx => numB_len (h2.2 x (List.mem_of_mem_take hx)))
    have hup := fm_up (f := numB) hlt
    have hx := h2.2 ns[k] (List.getElem_mem _)
    have hsz : (l ++ (ns.take k).flatMap numB).length ≤ 70368744177664 := by simp at hlen ⊢; omega
    repeat (first
    | (((with_reducible refine Sy.is_load ?_); (first | refine Sy.st_loadOne T F (h := ?_) | refine Sy.st_oldOne T F (h := ?_) | refine Sy.st_loadAll T F (h := ?_) | (refine Sy.st_loadCut T F (h := ?_); conv => whnf) | refine Sy.st_oldAgg T F (h := ?_) | (refine Sy.st_oldCut T F (h := ?_); conv => whnf)); clear T; intro ac T))
    | (((with_reducible refine Sy.is_op ?_); refine Sy.st_pure T (h := ?_); clear T; intro ac T))
    | ((with_reducible refine Sy.atK (hK _ _ ?_)))
    | ((with_reducible refine Sy.is_cond ?_); (first | refine Sy.st_true T (h := ?_) | refine Sy.st_false T (h := ?_)))
    | (with_reducible refine wpList_nil ?_)
    | (with_reducible refine wp_region_lit ?_)
    | (with_reducible refine wp_block ?_)
    | (with_reducible refine wp_skip ?_)
    | (with_reducible refine wp_exit ?_)
    | (with_reducible refine wp_ret ?_)
    | ((with_reducible refine wp_seq_k ?_); intro _ _)
    | (go_at_K; go_step)
    | (simp only [Exit.then, Exit.inBlock, ↓reduceIte, Nat.reduceEqDiff]))
    have hF := F.size
    refine Sy.st_callM0 T F (hc := callsF F.sub (Pk.putNumF ns[k] (hbk.sub F.sub) hx hsz)) (h := ?_); (clear T F; intro v m ac w hR hS T F)
    replace hR := hR.base hF
    rw [List.append_assoc, ← hup] at hR
    have hv := hR
    obtain ⟨a', cap', rfl, hb', _⟩ := hv
    repeat (first
    | (((with_reducible refine Sy.is_load ?_); (first | refine Sy.st_loadOne T F (h := ?_) | refine Sy.st_oldOne T F (h := ?_) | refine Sy.st_loadAll T F (h := ?_) | (refine Sy.st_loadCut T F (h := ?_); conv => whnf) | refine Sy.st_oldAgg T F (h := ?_) | (refine Sy.st_oldCut T F (h := ?_); conv => whnf)); clear T; intro ac T))
    | (((with_reducible refine Sy.is_op ?_); refine Sy.st_pure T (h := ?_); clear T; intro ac T))
    | ((with_reducible refine Sy.atK (hK _ _ ?_)))
    | ((with_reducible refine Sy.is_cond ?_); (first | refine Sy.st_true T (h := ?_) | refine Sy.st_false T (h := ?_)))
    | (with_reducible refine wpList_nil ?_)
    | (with_reducible refine wp_region_lit ?_)
    | (with_reducible refine wp_block ?_)
    | (with_reducible refine wp_skip ?_)
    | (with_reducible refine wp_exit ?_)
    | (with_reducible refine wp_ret ?_)
    | ((with_reducible refine wp_seq_k ?_); intro _ _)
    | (go_at_K; go_step)
    | (simp only [Exit.then, Exit.inBlock, ↓reduceIte, Nat.reduceEqDiff]))
    exact Sy.handed hJ (k := ns.length - (k + 1)) (by omega) ⟨k + 1, m, _, rfl, by omega, hsub.trans hS, ⟨a', cap', rfl, hb'⟩, .inr hR, (T.part (by repeat (first | exact Sy.Part.nil | apply Sy.Part.cons rfl))), F⟩
  · obtain rfl : k = ns.length := by omega
    have t1 : decide ((ns.length : Int) < (ns.length : Int)) = false := decide_eq_false (by omega)
    repeat (first
    | (((with_reducible refine Sy.is_load ?_); (first | refine Sy.st_loadOne T F (h := ?_) | refine Sy.st_oldOne T F (h := ?_) | refine Sy.st_loadAll T F (h := ?_) | (refine Sy.st_loadCut T F (h := ?_); conv => whnf) | refine Sy.st_oldAgg T F (h := ?_) | (refine Sy.st_oldCut T F (h := ?_); conv => whnf)); clear T; intro ac T))
    | (((with_reducible refine Sy.is_op ?_); refine Sy.st_pure T (h := ?_); clear T; intro ac T))
    | ((with_reducible refine Sy.atK (hK _ _ ?_)))
    | ((with_reducible refine Sy.is_cond ?_); (first | refine Sy.st_true T (h := ?_) | refine Sy.st_false T (h := ?_)))
    | (with_reducible refine wpList_nil ?_)
    | (with_reducible refine wp_region_lit ?_)
    | (with_reducible refine wp_block ?_)
    | (with_reducible refine wp_skip ?_)
    | (with_reducible refine wp_exit ?_)
    | (with_reducible refine wp_ret ?_)
    | ((with_reducible refine wp_seq_k ?_); intro _ _)
    | (go_at_K; go_step)
    | (simp only [Exit.then, Exit.inBlock, ↓reduceIte, Nat.reduceEqDiff]))
    ((try simp only [Exit.inBlock, Exit.then]); refine Sy.st_ret1 T F rfl (by repeat (first | exact Sy.ResV.nil | apply Sy.ResV.tmp rfl | apply Sy.ResV.row rfl rfl rfl (by repeat (first | exact Sy.Take.here | apply Sy.Take.there)) (by rfl) | apply Sy.ResV.one rfl rfl rfl (by repeat (first | exact Sy.Take.here | apply Sy.Take.there)) (by rfl))) ?_)
    have := hf.resolve_left (by omega)
    rw [List.take_length] at this ⊢
    exact MemE.retF F this

def intsB (l : List Int) : List UInt8 := l.flatMap fun x => numB (zig x)
theorem ints_len {l : List Int} (h : ∀ x ∈ l, -9223372036854775808 ≤ x ∧ x ≤ 9223372036854775807) : (intsB l).length ≤ 10 * l.length := fm_len fun x hx => numB_len (zig_lt (h x hx).1 (h x hx).2)
theorem nums_bd {m : World} {a : Option Addr} {l : List Int} (h : Nums m a l) : ∀ x ∈ l, -9223372036854775808 ≤ x ∧ x ≤ 9223372036854775807 := by
  intro x hx
  obtain ⟨k, hk, rfl⟩ := List.getElem_of_mem hx
  obtain ⟨_, _, _, _, _, h1⟩ := Nums.at h k hk
  exact h1
theorem u64_len {n : Nat} (h : n ≤ 9223372036854775807) : IntKind.u64.wrap (n : Int) = (n : Int) := by rw [IntKind.wrap_u64]; omega

set_option maxRecDepth 20000 in
theorem vars_any (w0 : World) {a : Option Addr} {cap : Nat} {l : List UInt8} (hb : Bytes w0 a l.length l) {a2 : Option Addr} {c2 : Nat} {ns : List Int} (h2 : Nums w0 a2 ns) (hs : ns.length ≤ 1000) (hsl : l.length ≤ 70368744000000) :
    Calls Try.prog 53 #[.slice a l.length cap, .slice a2 ns.length c2] w0 (RetF w0 (l ++ (numB ns.length ++ intsB ns))) := by
  have F := Sy.Mem.start (Sub.refl w0)
  have t0 := u64_len (n := ns.length) (by omega)
  have hbd := nums_bd h2
  refine Sy.enter Try.func53 rfl Try.ntmps53 rfl ?_; intro ac T; simp only [Sy.enum, Nat.zero_add, Nat.reduceAdd] at T
  repeat (first
    | (((with_reducible refine Sy.is_load ?_); (first | refine Sy.st_loadOne T F (h := ?_) | refine Sy.st_oldOne T F (h := ?_) | refine Sy.st_loadAll T F (h := ?_) | (refine Sy.st_loadCut T F (h := ?_); conv => whnf) | refine Sy.st_oldAgg T F (h := ?_) | (refine Sy.st_oldCut T F (h := ?_); conv => whnf)); clear T; intro ac T))
    | (((with_reducible refine Sy.is_op ?_); refine Sy.st_pure T (h := ?_); clear T; intro ac T))
    | ((with_reducible refine Sy.atK (hK _ _ ?_)))
    | ((with_reducible refine Sy.is_cond ?_); (first | refine Sy.st_true T (h := ?_) | refine Sy.st_false T (h := ?_)))
    | (with_reducible refine wpList_nil ?_)
    | (with_reducible refine wp_region_lit ?_)
    | (with_reducible refine wp_block ?_)
    | (with_reducible refine wp_skip ?_)
    | (with_reducible refine wp_exit ?_)
    | (with_reducible refine wp_ret ?_)
    | ((with_reducible refine wp_seq_k ?_); intro _ _)
    | (go_at_K; go_step)
    | (simp only [Exit.then, Exit.inBlock, ↓reduceIte, Nat.reduceEqDiff]))
  have hF := F.size
  refine Sy.st_callM0 T F (hc := callsF F.sub (Pk.putNumF ns.length (hb.sub F.sub) (by omega) (by omega))) (h := ?_); (clear T F; intro v m ac w hR hS T F)
  replace hR := hR.base hF
  have hv := hR
  obtain ⟨a, cap, rfl, hb', _⟩ := hv
  repeat (first
    | (((with_reducible refine Sy.is_load ?_); (first | refine Sy.st_loadOne T F (h := ?_) | refine Sy.st_oldOne T F (h := ?_) | refine Sy.st_loadAll T F (h := ?_) | (refine Sy.st_loadCut T F (h := ?_); conv => whnf) | refine Sy.st_oldAgg T F (h := ?_) | (refine Sy.st_oldCut T F (h := ?_); conv => whnf)); clear T; intro ac T))
    | (((with_reducible refine Sy.is_op ?_); refine Sy.st_pure T (h := ?_); clear T; intro ac T))
    | ((with_reducible refine Sy.atK (hK _ _ ?_)))
    | ((with_reducible refine Sy.is_cond ?_); (first | refine Sy.st_true T (h := ?_) | refine Sy.st_false T (h := ?_)))
    | (with_reducible refine wpList_nil ?_)
    | (with_reducible refine wp_region_lit ?_)
    | (with_reducible refine wp_block ?_)
    | (with_reducible refine wp_skip ?_)
    | (with_reducible refine wp_exit ?_)
    | (with_reducible refine wp_ret ?_)
    | ((with_reducible refine wp_seq_k ?_); intro _ _)
    | (go_at_K; go_step)
    | (simp only [Exit.then, Exit.inBlock, ↓reduceIte, Nat.reduceEqDiff]))
  refine wp_loop_ghost_k (fun i ac w' => ∃ (k : Nat) (m : World) (v : Value), i = ns.length - k ∧ k ≤ ns.length ∧ Sub w0 m ∧ BytF w0.heap.size (l ++ (numB ns.length ++ intsB (ns.take k))) m v ∧
    Sy.Tm ac 23 [(0, v), (12, .slice a2 ns.length c2), (13, .int .i64 (ns.length : Int)), (14, .int .i64 (k : Int))] ∧ Sy.Mem ⟨w0, [], w0⟩ m [] w') ns.length ?_ ?_
  · exact ⟨0, m, .slice a (l ++ numB ns.length).length cap, rfl, Nat.zero_le _, hS, by rw [show l ++ (numB ns.length ++ intsB (ns.take 0)) = l ++ numB ns.length from by simp [intsB]]; exact hR, (T.part (by repeat (first | exact Sy.Part.nil | apply Sy.Part.cons rfl))), F⟩
  intro i ac w' hI J K hJ hK
  obtain ⟨k, m, v, rfl, hk, hsub, hbk, T, F⟩ := hI
  by_cases hlt : k < ns.length
  · have t1 : decide ((k : Int) < (ns.length : Int)) = true := decide_eq_true (by omega)
    have t2 : IntKind.i64.wrap ((k : Int) + 1) = ((k + 1 : Nat) : Int) := by rw [i64_wrap (by omega) (by omega)]; omega
    obtain ⟨b, o, ha, hc⟩ := nums_get (h2.sub hsub) hlt
    subst ha
    have hlen := ints_len (l := ns.take k) (fun x hx => hbd x (List.mem_of_mem_take hx))
    have hup := fm_up (f := fun x => numB (zig x)) hlt
    have hn10 := numB_len (n := ns.length) (by omega)
    have hx := hbd ns[k] (List.getElem_mem _)
    have hsz : (l ++ (numB ns.length ++ intsB (ns.take k))).length ≤ 70368744177664 := by simp at hlen ⊢; omega
    obtain ⟨a, cap, rfl, hbb, _⟩ := hbk
    have hF := F.size
    repeat (first
    | (((with_reducible refine Sy.is_load ?_); (first | refine Sy.st_loadOne T F (h := ?_) | refine Sy.st_oldOne T F (h := ?_) | refine Sy.st_loadAll T F (h := ?_) | (refine Sy.st_loadCut T F (h := ?_); conv => whnf) | refine Sy.st_oldAgg T F (h := ?_) | (refine Sy.st_oldCut T F (h := ?_); conv => whnf)); clear T; intro ac T))
    | (((with_reducible refine Sy.is_op ?_); refine Sy.st_pure T (h := ?_); clear T; intro ac T))
    | ((with_reducible refine Sy.atK (hK _ _ ?_)))
    | ((with_reducible refine Sy.is_cond ?_); (first | refine Sy.st_true T (h := ?_) | refine Sy.st_false T (h := ?_)))
    | (with_reducible refine wpList_nil ?_)
    | (with_reducible refine wp_region_lit ?_)
    | (with_reducible refine wp_block ?_)
    | (with_reducible refine wp_skip ?_)
    | (with_reducible refine wp_exit ?_)
    | (with_reducible refine wp_ret ?_)
    | ((with_reducible refine wp_seq_k ?_); intro _ _)
    | (go_at_K; go_step)
    | (simp only [Exit.then, Exit.inBlock, ↓reduceIte, Nat.reduceEqDiff]))
    refine Sy.st_callM0 T F (hc := callsF F.sub (Pk.putIntF ns[k] (hbb.sub F.sub) hx.1 hx.2 hsz)) (h := ?_); (clear T F; intro v m ac w hR hS T F)
    replace hR := hR.base hF
    have e1 : (l ++ (numB ns.length ++ intsB (ns.take k))) ++ numB (zig ns[k]) = l ++ (numB ns.length ++ intsB (ns.take (k + 1))) := by
      unfold intsB
      rw [hup]
      simp
    rw [e1] at hR
    repeat (first
    | (((with_reducible refine Sy.is_load ?_); (first | refine Sy.st_loadOne T F (h := ?_) | refine Sy.st_oldOne T F (h := ?_) | refine Sy.st_loadAll T F (h := ?_) | (refine Sy.st_loadCut T F (h := ?_); conv => whnf) | refine Sy.st_oldAgg T F (h := ?_) | (refine Sy.st_oldCut T F (h := ?_); conv => whnf)); clear T; intro ac T))
    | (((with_reducible refine Sy.is_op ?_); refine Sy.st_pure T (h := ?_); clear T; intro ac T))
    | ((with_reducible refine Sy.atK (hK _ _ ?_)))
    | ((with_reducible refine Sy.is_cond ?_); (first | refine Sy.st_true T (h := ?_) | refine Sy.st_false T (h := ?_)))
    | (with_reducible refine wpList_nil ?_)
    | (with_reducible refine wp_region_lit ?_)
    | (with_reducible refine wp_block ?_)
    | (with_reducible refine wp_skip ?_)
    | (with_reducible refine wp_exit ?_)
    | (with_reducible refine wp_ret ?_)
    | ((with_reducible refine wp_seq_k ?_); intro _ _)
    | (go_at_K; go_step)
    | (simp only [Exit.then, Exit.inBlock, ↓reduceIte, Nat.reduceEqDiff]))
    exact Sy.handed hJ (k := ns.length - (k + 1)) (by omega) ⟨k + 1, m, _, rfl, by omega, hsub.trans hS, hR, (T.part (by repeat (first | exact Sy.Part.nil | apply Sy.Part.cons rfl))), F⟩
  · obtain rfl : k = ns.length := by omega
    have t1 : decide ((ns.length : Int) < (ns.length : Int)) = false := decide_eq_false (by omega)
    rw [List.take_length] at hbk
    repeat (first
    | (((with_reducible refine Sy.is_load ?_); (first | refine Sy.st_loadOne T F (h := ?_) | refine Sy.st_oldOne T F (h := ?_) | refine Sy.st_loadAll T F (h := ?_) | (refine Sy.st_loadCut T F (h := ?_); conv => whnf) | refine Sy.st_oldAgg T F (h := ?_) | (refine Sy.st_oldCut T F (h := ?_); conv => whnf)); clear T; intro ac T))
    | (((with_reducible refine Sy.is_op ?_); refine Sy.st_pure T (h := ?_); clear T; intro ac T))
    | ((with_reducible refine Sy.atK (hK _ _ ?_)))
    | ((with_reducible refine Sy.is_cond ?_); (first | refine Sy.st_true T (h := ?_) | refine Sy.st_false T (h := ?_)))
    | (with_reducible refine wpList_nil ?_)
    | (with_reducible refine wp_region_lit ?_)
    | (with_reducible refine wp_block ?_)
    | (with_reducible refine wp_skip ?_)
    | (with_reducible refine wp_exit ?_)
    | (with_reducible refine wp_ret ?_)
    | ((with_reducible refine wp_seq_k ?_); intro _ _)
    | (go_at_K; go_step)
    | (simp only [Exit.then, Exit.inBlock, ↓reduceIte, Nat.reduceEqDiff]))
    ((try simp only [Exit.inBlock, Exit.then]); refine Sy.st_ret1 T F rfl (by repeat (first | exact Sy.ResV.nil | apply Sy.ResV.tmp rfl | apply Sy.ResV.row rfl rfl rfl (by repeat (first | exact Sy.Take.here | apply Sy.Take.there)) (by rfl) | apply Sy.ResV.one rfl rfl rfl (by repeat (first | exact Sy.Take.here | apply Sy.Take.there)) (by rfl))) ?_)
    exact MemE.retF F hbk
end Rg
end Go.Proofs.Ytniopkoaplkpkaa
