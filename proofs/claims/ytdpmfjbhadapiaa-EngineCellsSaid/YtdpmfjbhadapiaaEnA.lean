/- The walks of engine.May and the document's May at operations. No condition. The walk of the document's May at operations. No condition. -/
import Derived.Test.YtdpmfjbhadapiaaRegD
import Derived.Test.YtdpmfjbhadapiaaRowS
namespace Go.Proofs.Ytdpmfjbhadapiaa
open Go.RowKit
set_option linter.unusedVariables false
set_option linter.unusedSimpArgs false
namespace En
open Sy (RetV RetM Sub)
open Rg (and2 or2 retBb not_t not_f eqT eqF OpD opCs)
def inE (n a b : Int) : Bool := decide (n ≥ a) && decide (n < b)
set_option maxRecDepth 20000 in
theorem in_any (w : World) (n a b : Int) {r0 : Bool} (hres : inE n a b = r0) : Calls Try.prog 55 #[.int .i64 n, .int .i64 a, .int .i64 b] w (RetV w (.bool r0)) := by
  have F := Sy.Mem.start (Sub.refl w)
  subst hres
  rcases and2 (decide (n ≥ a)) (decide (n < b)) with t1 | ⟨t1, t2⟩ | ⟨t1, t2⟩
  all_goals
    refine Sy.enter Try.func55 rfl Try.ntmps55 rfl ?_; intro ac T; simp only [Sy.enum, Nat.zero_add, Nat.reduceAdd] at T
    repeat (first
    | (((with_reducible refine Sy.is_guard ?_); (first
    | refine Sy.st_guard T (h := ?_)
    | (refine Sy.st_unguard T (h := ?_); clear T; intro ac T))))
    | (((with_reducible refine Sy.is_op ?_); refine Sy.st_pure T (h := ?_); clear T; intro ac T))
    | (with_reducible refine wpList_nil ?_)
    | (with_reducible refine wp_region_lit ?_)
    | (with_reducible refine wp_ret ?_)
    | ((with_reducible refine wp_seq_k ?_); intro _ _)
    | (go_at_K; go_step)
    | (simp only [Exit.then, Exit.inBlock, ↓reduceIte, Nat.reduceEqDiff]))
    ((try simp only [Exit.inBlock, Exit.then]); refine Sy.st_ret1 T F rfl (by repeat (first | exact Sy.ResV.nil | apply Sy.ResV.tmp rfl | apply Sy.ResV.row rfl rfl rfl (by repeat (first | exact Sy.Take.here | apply Sy.Take.there)) (by rfl) | apply Sy.ResV.one rfl rfl rfl (by repeat (first | exact Sy.Take.here | apply Sy.Take.there)) (by rfl))) ?_)
    exact retBb F (by first | (unfold inE; rw [t1, t2]; rfl) | (unfold inE; rw [t1]; rfl))
theorem in_t {n a b : Int} (h1 : a ≤ n) (h2 : n < b) : inE n a b = true := by unfold inE; rw [decide_eq_true (show n ≥ a from h1), decide_eq_true h2]; rfl
theorem in_f {n a b : Int} (h : ¬ (a ≤ n ∧ n < b)) : inE n a b = false := by
  unfold inE
  rw [Bool.and_eq_false_iff, decide_eq_false_iff_not, decide_eq_false_iff_not]
  omega
def MayO (o : OpD) : Prop := o.key < 16 ∧ o.source < 16 ∧ o.client ≤ 8 ∧ (o.seq = 0 ↔ o.client = 0) ∧ 0 ≤ o.action ∧ o.action < 32 ∧ 0 ≤ o.party ∧ o.party < 8 ∧ 1 ≤ o.kind ∧ o.kind ≤ 7 ∧ (o.kind ≤ 4 ↔ o.client ≠ 0) ∧ (o.kind = 2 → o.party ≠ 0) ∧ (o.kind = 5 ∨ o.kind = 6 → o.inc ≠ 0 ∧ o.cell ≠ 0)
instance (o : OpD) : Decidable (MayO o) := by unfold MayO; infer_instance
set_option maxRecDepth 20000 in
set_option maxHeartbeats 4000000 in
theorem opMay_any (w : World) (o : OpD) : Calls Try.prog 31 #[.agg (opCs o).toArray] w (RetV w (.bool (decide (MayO o)))) := by
  have F := Sy.Mem.start (Sub.refl w)
  have hB := Try.underlying4
  refine Sy.enter Try.func31 rfl Try.ntmps31 rfl ?_; intro ac T; simp only [Sy.enum, Nat.zero_add, Nat.reduceAdd] at T
  rcases (show (o.key < 16 ∧ o.source < 16 ∧ o.client ≤ 8 ∧ (o.seq = 0 ↔ o.client = 0)) ∨ 16 ≤ o.key ∨ (o.key < 16 ∧ 16 ≤ o.source) ∨ (o.key < 16 ∧ o.source < 16 ∧ 8 < o.client) ∨ (o.key < 16 ∧ o.source < 16 ∧ o.client ≤ 8 ∧ ¬(o.seq = 0 ↔ o.client = 0)) by omega) with z | z | z | z | z
  case inl =>
    obtain ⟨z1, z2, z3, z4⟩ := z
    have t1 : decide ((o.key : Int) ≥ 16) = false := decide_eq_false (by omega)
    have t2 : decide ((o.source : Int) ≥ 16) = false := decide_eq_false (by omega)
    have t3 : decide ((o.client : Int) > 8) = false := decide_eq_false (by omega)
    have t4 : (((o.seq : Int) == 0) == ((o.client : Int) == 0)) = true := by rw [beq_iff_eq, Bool.eq_iff_iff, beq_iff_eq, beq_iff_eq]; omega
    repeat (first
    | (((with_reducible refine Sy.is_guard ?_); (refine Sy.st_guard T (h := ?_))))
    | (((with_reducible refine Sy.is_load ?_); (refine Sy.st_loadOne T F (h := ?_)); clear T; intro ac T))
    | (((with_reducible refine Sy.is_box ?_); (refine Sy.st_boxAgg T F (h := ?_)); clear T F; intro ac g w T F))
    | (((with_reducible refine Sy.is_op ?_); refine Sy.st_pure T (h := ?_); clear T; intro ac T))
    | (with_reducible refine wpList_nil ?_)
    | (with_reducible refine wp_region_lit ?_)
    | ((with_reducible refine wp_seq_k ?_); intro _ _)
    | (go_at_K; go_step)
    | (simp only [Exit.then, Exit.inBlock, ↓reduceIte, Nat.reduceEqDiff]))
    by_cases k6 : 0 ≤ o.action ∧ o.action < 32
    case neg =>
      refine Sy.st_callV0 T F (hc := in_any _ _ _ _ (in_f k6)) (h := ?_); (clear T F; intro ac w T F)
      repeat (first
    | (((with_reducible refine Sy.is_guard ?_); (first
    | refine Sy.st_guard T (h := ?_)
    | (refine Sy.st_unguard T (h := ?_); clear T; intro ac T))))
    | (((with_reducible refine Sy.is_op ?_); refine Sy.st_pure T (h := ?_); clear T; intro ac T))
    | ((with_reducible refine Sy.is_cond ?_); (refine Sy.st_true T (h := ?_)))
    | (with_reducible refine wpList_nil ?_)
    | (with_reducible refine wp_region_lit ?_)
    | (with_reducible refine wp_ret ?_)
    | ((with_reducible refine wp_seq_k ?_); intro _ _)
    | (go_at_K; go_step)
    | (simp only [Exit.then, Exit.inBlock, ↓reduceIte, Nat.reduceEqDiff]))
      ((try simp only [Exit.inBlock, Exit.then]); refine Sy.st_ret1 T F rfl (by repeat (first | exact Sy.ResV.nil | apply Sy.ResV.tmp rfl | apply Sy.ResV.row rfl rfl rfl (by repeat (first | exact Sy.Take.here | apply Sy.Take.there)) (by rfl) | apply Sy.ResV.one rfl rfl rfl (by repeat (first | exact Sy.Take.here | apply Sy.Take.there)) (by rfl))) ?_)
      exact retBb F (by first | exact decide_eq_true (by unfold MayO; omega) | exact decide_eq_false (by unfold MayO; omega) | exact decide_eq_decide.2 (by unfold MayO; omega))
    refine Sy.st_callV0 T F (hc := in_any _ _ _ _ (in_t k6.1 k6.2)) (h := ?_); (clear T F; intro ac w T F)
    repeat (first
    | (((with_reducible refine Sy.is_guard ?_); (refine Sy.st_guard T (h := ?_))))
    | (((with_reducible refine Sy.is_load ?_); (refine Sy.st_loadOne T F (h := ?_)); clear T; intro ac T))
    | (((with_reducible refine Sy.is_op ?_); refine Sy.st_pure T (h := ?_); clear T; intro ac T)))
    by_cases k7 : 0 ≤ o.party ∧ o.party < 8
    case neg =>
      refine Sy.st_callV0 T F (hc := in_any _ _ _ _ (in_f k7)) (h := ?_); (clear T F; intro ac w T F)
      repeat (first
    | (((with_reducible refine Sy.is_guard ?_); (refine Sy.st_guard T (h := ?_))))
    | (((with_reducible refine Sy.is_op ?_); refine Sy.st_pure T (h := ?_); clear T; intro ac T))
    | ((with_reducible refine Sy.is_cond ?_); (refine Sy.st_true T (h := ?_)))
    | (with_reducible refine wpList_nil ?_)
    | (with_reducible refine wp_region_lit ?_)
    | (with_reducible refine wp_ret ?_)
    | ((with_reducible refine wp_seq_k ?_); intro _ _)
    | (go_at_K; go_step)
    | (simp only [Exit.then, Exit.inBlock, ↓reduceIte, Nat.reduceEqDiff]))
      ((try simp only [Exit.inBlock, Exit.then]); refine Sy.st_ret1 T F rfl (by repeat (first | exact Sy.ResV.nil | apply Sy.ResV.tmp rfl | apply Sy.ResV.row rfl rfl rfl (by repeat (first | exact Sy.Take.here | apply Sy.Take.there)) (by rfl) | apply Sy.ResV.one rfl rfl rfl (by repeat (first | exact Sy.Take.here | apply Sy.Take.there)) (by rfl))) ?_)
      exact retBb F (by first | exact decide_eq_true (by unfold MayO; omega) | exact decide_eq_false (by unfold MayO; omega) | exact decide_eq_decide.2 (by unfold MayO; omega))
    refine Sy.st_callV0 T F (hc := in_any _ _ _ _ (in_t k7.1 k7.2)) (h := ?_); (clear T F; intro ac w T F)
    rcases (show o.kind = 1 ∨ o.kind = 2 ∨ o.kind = 3 ∨ o.kind = 4 ∨ o.kind = 5 ∨ o.kind = 6 ∨ o.kind = 7 ∨ (o.kind = 0 ∨ 7 < o.kind) by omega) with q | q | q | q | q | q | q | q
    all_goals
      try have f1 := eqT (a := (o.kind : Int)) (b := 1) (by omega)
      try have f1 := eqF (a := (o.kind : Int)) (b := 1) (by omega)
      try have f2 := eqT (a := (o.kind : Int)) (b := 2) (by omega)
      try have f2 := eqF (a := (o.kind : Int)) (b := 2) (by omega)
      try have f3 := eqT (a := (o.kind : Int)) (b := 3) (by omega)
      try have f3 := eqF (a := (o.kind : Int)) (b := 3) (by omega)
      try have f4 := eqT (a := (o.kind : Int)) (b := 4) (by omega)
      try have f4 := eqF (a := (o.kind : Int)) (b := 4) (by omega)
      try have f5 := eqT (a := (o.kind : Int)) (b := 5) (by omega)
      try have f5 := eqF (a := (o.kind : Int)) (b := 5) (by omega)
      try have f6 := eqT (a := (o.kind : Int)) (b := 6) (by omega)
      try have f6 := eqF (a := (o.kind : Int)) (b := 6) (by omega)
      try have f7 := eqT (a := (o.kind : Int)) (b := 7) (by omega)
      try have f7 := eqF (a := (o.kind : Int)) (b := 7) (by omega)
      by_cases hz : o.client = 0
      all_goals
        try have g0 := eqT (a := (o.client : Int)) (b := 0) (by omega)
        try have g0 := eqF (a := (o.client : Int)) (b := 0) (by omega)
        try have g1 : decide ((o.client : Int) > 0) = true := decide_eq_true (by omega)
        try have g1 : decide ((o.client : Int) > 0) = false := decide_eq_false (by omega)
        repeat (first
    | (((with_reducible refine Sy.is_guard ?_); (first
    | refine Sy.st_guard T (h := ?_)
    | (refine Sy.st_unguard T (h := ?_); clear T; intro ac T))))
    | (((with_reducible refine Sy.is_load ?_); (refine Sy.st_loadOne T F (h := ?_)); clear T; intro ac T))
    | (((with_reducible refine Sy.is_op ?_); refine Sy.st_pure T (h := ?_); clear T; intro ac T))
    | ((with_reducible refine Sy.is_cond ?_); (first
    | refine Sy.st_true T (h := ?_)
    | refine Sy.st_false T (h := ?_)))
    | (with_reducible refine wpList_nil ?_)
    | (with_reducible refine wp_region_lit ?_)
    | (with_reducible refine wp_block ?_)
    | (with_reducible refine wp_skip ?_)
    | (with_reducible refine wp_ret ?_)
    | ((with_reducible refine wp_seq_k ?_); intro _ _)
    | (go_at_K; go_step)
    | (simp only [Exit.then, Exit.inBlock, ↓reduceIte, Nat.reduceEqDiff]))
        try
          ((try simp only [Exit.inBlock, Exit.then]); refine Sy.st_ret1 T F rfl (by repeat (first | exact Sy.ResV.nil | apply Sy.ResV.tmp rfl | apply Sy.ResV.row rfl rfl rfl (by repeat (first | exact Sy.Take.here | apply Sy.Take.there)) (by rfl) | apply Sy.ResV.one rfl rfl rfl (by repeat (first | exact Sy.Take.here | apply Sy.Take.there)) (by rfl))) ?_)
          exact retBb F (by first | exact decide_eq_true (by unfold MayO; omega) | exact decide_eq_false (by unfold MayO; omega) | exact decide_eq_decide.2 (by unfold MayO; omega))
    all_goals
      by_cases hi : o.inc = 0
      all_goals
        try have g2 : decide ((o.inc : Int) > 0) = true := decide_eq_true (by omega)
        try have g2 : decide ((o.inc : Int) > 0) = false := decide_eq_false (by omega)
        try rw [g2] at T
        repeat (first
    | (((with_reducible refine Sy.is_guard ?_); (first
    | refine Sy.st_guard T (h := ?_)
    | (refine Sy.st_unguard T (h := ?_); clear T; intro ac T))))
    | (((with_reducible refine Sy.is_load ?_); (refine Sy.st_loadOne T F (h := ?_)); clear T; intro ac T))
    | (((with_reducible refine Sy.is_op ?_); refine Sy.st_pure T (h := ?_); clear T; intro ac T))
    | (with_reducible refine wpList_nil ?_)
    | (with_reducible refine wp_ret ?_)
    | (go_at_K; go_step)
    | (simp only [Exit.then, Exit.inBlock, ↓reduceIte, Nat.reduceEqDiff]))
        ((try simp only [Exit.inBlock, Exit.then]); refine Sy.st_ret1 T F rfl (by repeat (first | exact Sy.ResV.nil | apply Sy.ResV.tmp rfl | apply Sy.ResV.row rfl rfl rfl (by repeat (first | exact Sy.Take.here | apply Sy.Take.there)) (by rfl) | apply Sy.ResV.one rfl rfl rfl (by repeat (first | exact Sy.Take.here | apply Sy.Take.there)) (by rfl))) ?_)
        exact retBb F (by first | exact decide_eq_true (by unfold MayO; omega) | exact decide_eq_false (by unfold MayO; omega) | exact decide_eq_decide.2 (by unfold MayO; omega))
  all_goals
    try have t1 : decide ((o.key : Int) ≥ 16) = true := decide_eq_true (by omega)
    try have t1 : decide ((o.key : Int) ≥ 16) = false := decide_eq_false (by omega)
    try have t2 : decide ((o.source : Int) ≥ 16) = true := decide_eq_true (by omega)
    try have t2 : decide ((o.source : Int) ≥ 16) = false := decide_eq_false (by omega)
    try have t3 : decide ((o.client : Int) > 8) = true := decide_eq_true (by omega)
    try have t3 : decide ((o.client : Int) > 8) = false := decide_eq_false (by omega)
    try have t4 : (((o.seq : Int) == 0) == ((o.client : Int) == 0)) = false := by rw [beq_eq_false_iff_ne]; intro k; rw [Bool.eq_iff_iff, beq_iff_eq, beq_iff_eq] at k; omega
    repeat (first
    | (((with_reducible refine Sy.is_guard ?_); (first
    | refine Sy.st_guard T (h := ?_)
    | (refine Sy.st_unguard T (h := ?_); clear T; intro ac T))))
    | (((with_reducible refine Sy.is_load ?_); (refine Sy.st_loadOne T F (h := ?_)); clear T; intro ac T))
    | (((with_reducible refine Sy.is_box ?_); (refine Sy.st_boxAgg T F (h := ?_)); clear T F; intro ac g w T F))
    | (((with_reducible refine Sy.is_op ?_); refine Sy.st_pure T (h := ?_); clear T; intro ac T))
    | ((with_reducible refine Sy.is_cond ?_); (refine Sy.st_true T (h := ?_)))
    | (with_reducible refine wpList_nil ?_)
    | (with_reducible refine wp_region_lit ?_)
    | (with_reducible refine wp_ret ?_)
    | ((with_reducible refine wp_seq_k ?_); intro _ _)
    | (go_at_K; go_step)
    | (simp only [Exit.then, Exit.inBlock, ↓reduceIte, Nat.reduceEqDiff]))
    ((try simp only [Exit.inBlock, Exit.then]); refine Sy.st_ret1 T F rfl (by repeat (first | exact Sy.ResV.nil | apply Sy.ResV.tmp rfl | apply Sy.ResV.row rfl rfl rfl (by repeat (first | exact Sy.Take.here | apply Sy.Take.there)) (by rfl) | apply Sy.ResV.one rfl rfl rfl (by repeat (first | exact Sy.Take.here | apply Sy.Take.there)) (by rfl))) ?_)
    exact retBb F (by first | exact decide_eq_true (by unfold MayO; omega) | exact decide_eq_false (by unfold MayO; omega) | exact decide_eq_decide.2 (by unfold MayO; omega))
end En
end Go.Proofs.Ytdpmfjbhadapiaa
namespace Go.Proofs.Ytdpmfjbhadapiaa
open Go.RowKit
set_option linter.unusedVariables false
set_option linter.unusedSimpArgs false
namespace En
open Sy (RetV RetM Sub)
open Rg (and2 or2 retBb not_t not_f eqT eqF OpD opCs)
set_option maxRecDepth 20000 in
set_option maxHeartbeats 4000000 in
theorem opMayR_any (w : World) (o : OpD) : Calls Try.prog 32 #[.agg (opCs o).toArray] w (RetV w (.bool (decide (MayO o)))) := by
  have F := Sy.Mem.start (Sub.refl w)
  have hB := Try.underlying4
  refine Sy.enter Try.func32 rfl Try.ntmps32 rfl ?_; intro ac T; simp only [Sy.enum, Nat.zero_add, Nat.reduceAdd] at T
  rcases (show (o.key < 16 ∧ o.source < 16 ∧ o.client ≤ 8 ∧ 0 ≤ o.action ∧ o.action ≤ 31 ∧ 0 ≤ o.party ∧ o.party ≤ 7) ∨ (16 ≤ o.key) ∨ (o.key < 16 ∧ 16 ≤ o.source) ∨ (o.key < 16 ∧ o.source < 16 ∧ 8 < o.client) ∨ (o.key < 16 ∧ o.source < 16 ∧ o.client ≤ 8 ∧ o.action < 0) ∨ (o.key < 16 ∧ o.source < 16 ∧ o.client ≤ 8 ∧ 0 ≤ o.action ∧ 31 < o.action) ∨ (o.key < 16 ∧ o.source < 16 ∧ o.client ≤ 8 ∧ 0 ≤ o.action ∧ o.action ≤ 31 ∧ o.party < 0) ∨ (o.key < 16 ∧ o.source < 16 ∧ o.client ≤ 8 ∧ 0 ≤ o.action ∧ o.action ≤ 31 ∧ 0 ≤ o.party ∧ 7 < o.party) by omega) with z | z | z | z | z | z | z | z
  case inl =>
    obtain ⟨z1, z2, z3, z4, z5, z6, z7⟩ := z
    have t1 : decide ((o.key : Int) > 15) = false := decide_eq_false (by omega)
    have t2 : decide ((o.source : Int) > 15) = false := decide_eq_false (by omega)
    have t3 : decide ((o.client : Int) > 8) = false := decide_eq_false (by omega)
    have t4 : decide (o.action < 0) = false := decide_eq_false (by omega)
    have t5 : decide (o.action > 31) = false := decide_eq_false (by omega)
    have t6 : decide (o.party < 0) = false := decide_eq_false (by omega)
    have t7 : decide (o.party > 7) = false := decide_eq_false (by omega)
    by_cases hz : o.client = 0
    all_goals
      by_cases hs : o.seq = 0
      all_goals
        try have c1 := eqT (a := (o.client : Int)) (b := 0) (by omega)
        try have c1 := eqF (a := (o.client : Int)) (b := 0) (by omega)
        try have s1 := eqT (a := (o.seq : Int)) (b := 0) (by omega)
        try have s1 := eqF (a := (o.seq : Int)) (b := 0) (by omega)
        repeat (first
    | (((with_reducible refine Sy.is_guard ?_); (first
    | refine Sy.st_guard T (h := ?_)
    | (refine Sy.st_unguard T (h := ?_); clear T; intro ac T))))
    | (((with_reducible refine Sy.is_load ?_); (refine Sy.st_loadOne T F (h := ?_)); clear T; intro ac T))
    | (((with_reducible refine Sy.is_box ?_); (refine Sy.st_boxAgg T F (h := ?_)); clear T F; intro ac g w T F))
    | (((with_reducible refine Sy.is_op ?_); refine Sy.st_pure T (h := ?_); clear T; intro ac T))
    | ((with_reducible refine Sy.is_cond ?_); (first
    | refine Sy.st_true T (h := ?_)
    | refine Sy.st_false T (h := ?_)))
    | (with_reducible refine wpList_nil ?_)
    | (with_reducible refine wp_region_lit ?_)
    | (with_reducible refine wp_skip ?_)
    | (with_reducible refine wp_ret ?_)
    | ((with_reducible refine wp_seq_k ?_); intro _ _)
    | (go_at_K; go_step)
    | (simp only [Exit.then, Exit.inBlock, ↓reduceIte, Nat.reduceEqDiff]))
        try
          ((try simp only [Exit.inBlock, Exit.then]); refine Sy.st_ret1 T F rfl (by repeat (first | exact Sy.ResV.nil | apply Sy.ResV.tmp rfl | apply Sy.ResV.row rfl rfl rfl (by repeat (first | exact Sy.Take.here | apply Sy.Take.there)) (by rfl) | apply Sy.ResV.one rfl rfl rfl (by repeat (first | exact Sy.Take.here | apply Sy.Take.there)) (by rfl))) ?_)
          exact retBb F (by first | exact decide_eq_true (by unfold MayO; omega) | exact decide_eq_false (by unfold MayO; omega) | exact decide_eq_decide.2 (by unfold MayO; omega))
    all_goals
      rcases (show o.kind = 0 ∨ o.kind = 1 ∨ o.kind = 2 ∨ o.kind = 3 ∨ o.kind = 4 ∨ o.kind = 5 ∨ o.kind = 6 ∨ o.kind = 7 ∨ 7 < o.kind by omega) with q | q | q | q | q | q | q | q | q
      all_goals
        try have e2 := eqT (a := (o.kind : Int)) (b := 2) (by omega)
        try have e2 := eqF (a := (o.kind : Int)) (b := 2) (by omega)
        try have e5 := eqT (a := (o.kind : Int)) (b := 5) (by omega)
        try have e5 := eqF (a := (o.kind : Int)) (b := 5) (by omega)
        try have e6 := eqT (a := (o.kind : Int)) (b := 6) (by omega)
        try have e6 := eqF (a := (o.kind : Int)) (b := 6) (by omega)
        try have y1 : decide ((o.kind : Int) < 1) = true := decide_eq_true (by omega)
        try have y1 : decide ((o.kind : Int) < 1) = false := decide_eq_false (by omega)
        try have y2 : decide ((o.kind : Int) > 7) = true := decide_eq_true (by omega)
        try have y2 : decide ((o.kind : Int) > 7) = false := decide_eq_false (by omega)
        try have y3 : decide ((o.kind : Int) ≤ 4) = true := decide_eq_true (by omega)
        try have y3 : decide ((o.kind : Int) ≤ 4) = false := decide_eq_false (by omega)
        try rw [y1] at T
        have et : (true == true) = true := rfl
        have ef : (false == false) = true := rfl
        have e1 : (true == false) = false := rfl
        have e0 : (false == true) = false := rfl
        repeat (first
    | (((with_reducible refine Sy.is_guard ?_); (first
    | refine Sy.st_guard T (h := ?_)
    | (refine Sy.st_unguard T (h := ?_); clear T; intro ac T))))
    | (((with_reducible refine Sy.is_load ?_); (refine Sy.st_loadOne T F (h := ?_)); clear T; intro ac T))
    | (((with_reducible refine Sy.is_op ?_); refine Sy.st_pure T (h := ?_); clear T; intro ac T))
    | ((with_reducible refine Sy.is_cond ?_); (first
    | refine Sy.st_true T (h := ?_)
    | refine Sy.st_false T (h := ?_)))
    | (with_reducible refine wpList_nil ?_)
    | (with_reducible refine wp_region_lit ?_)
    | (with_reducible refine wp_skip ?_)
    | (with_reducible refine wp_ret ?_)
    | ((with_reducible refine wp_seq_k ?_); intro _ _)
    | (go_at_K; go_step)
    | (simp only [Exit.then, Exit.inBlock, ↓reduceIte, Nat.reduceEqDiff]))
        try
          ((try simp only [Exit.inBlock, Exit.then]); refine Sy.st_ret1 T F rfl (by repeat (first | exact Sy.ResV.nil | apply Sy.ResV.tmp rfl | apply Sy.ResV.row rfl rfl rfl (by repeat (first | exact Sy.Take.here | apply Sy.Take.there)) (by rfl) | apply Sy.ResV.one rfl rfl rfl (by repeat (first | exact Sy.Take.here | apply Sy.Take.there)) (by rfl))) ?_)
          exact retBb F (by first | exact decide_eq_true (by unfold MayO; omega) | exact decide_eq_false (by unfold MayO; omega) | exact decide_eq_decide.2 (by unfold MayO; omega))
    all_goals
      by_cases hp : o.party = 0
      all_goals
        try have p1 := eqT (a := (o.party : Int)) (b := 0) (by omega)
        try have p1 := eqF (a := (o.party : Int)) (b := 0) (by omega)
        try rw [p1] at T
        repeat (first
    | (((with_reducible refine Sy.is_guard ?_); (first
    | refine Sy.st_guard T (h := ?_)
    | (refine Sy.st_unguard T (h := ?_); clear T; intro ac T))))
    | (((with_reducible refine Sy.is_load ?_); (refine Sy.st_loadOne T F (h := ?_)); clear T; intro ac T))
    | (((with_reducible refine Sy.is_op ?_); refine Sy.st_pure T (h := ?_); clear T; intro ac T))
    | ((with_reducible refine Sy.is_cond ?_); (first
    | refine Sy.st_true T (h := ?_)
    | refine Sy.st_false T (h := ?_)))
    | (with_reducible refine wpList_nil ?_)
    | (with_reducible refine wp_region_lit ?_)
    | (with_reducible refine wp_skip ?_)
    | (with_reducible refine wp_ret ?_)
    | ((with_reducible refine wp_seq_k ?_); intro _ _)
    | (go_at_K; go_step)
    | (simp only [Exit.then, Exit.inBlock, ↓reduceIte, Nat.reduceEqDiff]))
        try
          ((try simp only [Exit.inBlock, Exit.then]); refine Sy.st_ret1 T F rfl (by repeat (first | exact Sy.ResV.nil | apply Sy.ResV.tmp rfl | apply Sy.ResV.row rfl rfl rfl (by repeat (first | exact Sy.Take.here | apply Sy.Take.there)) (by rfl) | apply Sy.ResV.one rfl rfl rfl (by repeat (first | exact Sy.Take.here | apply Sy.Take.there)) (by rfl))) ?_)
          exact retBb F (by first | exact decide_eq_true (by unfold MayO; omega) | exact decide_eq_false (by unfold MayO; omega) | exact decide_eq_decide.2 (by unfold MayO; omega))
    all_goals
      by_cases hi : o.inc = 0
      all_goals
        by_cases hj : o.cell = 0
        all_goals
          try have i1 := eqT (a := (o.inc : Int)) (b := 0) (by omega)
          try have i1 := eqF (a := (o.inc : Int)) (b := 0) (by omega)
          try have i2 := eqT (a := (o.cell : Int)) (b := 0) (by omega)
          try have i2 := eqF (a := (o.cell : Int)) (b := 0) (by omega)
          try rw [i1] at T
          repeat (first
    | (((with_reducible refine Sy.is_guard ?_); (first
    | refine Sy.st_guard T (h := ?_)
    | (refine Sy.st_unguard T (h := ?_); clear T; intro ac T))))
    | (((with_reducible refine Sy.is_load ?_); (refine Sy.st_loadOne T F (h := ?_)); clear T; intro ac T))
    | (((with_reducible refine Sy.is_op ?_); refine Sy.st_pure T (h := ?_); clear T; intro ac T))
    | (with_reducible refine wpList_nil ?_)
    | (with_reducible refine wp_ret ?_)
    | (go_at_K; go_step)
    | (simp only [Exit.then, Exit.inBlock, ↓reduceIte, Nat.reduceEqDiff]))
          ((try simp only [Exit.inBlock, Exit.then]); refine Sy.st_ret1 T F rfl (by repeat (first | exact Sy.ResV.nil | apply Sy.ResV.tmp rfl | apply Sy.ResV.row rfl rfl rfl (by repeat (first | exact Sy.Take.here | apply Sy.Take.there)) (by rfl) | apply Sy.ResV.one rfl rfl rfl (by repeat (first | exact Sy.Take.here | apply Sy.Take.there)) (by rfl))) ?_)
          exact retBb F (by first | exact decide_eq_true (by unfold MayO; omega) | exact decide_eq_false (by unfold MayO; omega) | exact decide_eq_decide.2 (by unfold MayO; omega))
  all_goals
    try have t1 : decide ((o.key : Int) > 15) = true := decide_eq_true (by omega)
    try have t1 : decide ((o.key : Int) > 15) = false := decide_eq_false (by omega)
    try have t2 : decide ((o.source : Int) > 15) = true := decide_eq_true (by omega)
    try have t2 : decide ((o.source : Int) > 15) = false := decide_eq_false (by omega)
    try have t3 : decide ((o.client : Int) > 8) = true := decide_eq_true (by omega)
    try have t3 : decide ((o.client : Int) > 8) = false := decide_eq_false (by omega)
    try have t4 : decide (o.action < 0) = true := decide_eq_true (by omega)
    try have t4 : decide (o.action < 0) = false := decide_eq_false (by omega)
    try have t5 : decide (o.action > 31) = true := decide_eq_true (by omega)
    try have t5 : decide (o.action > 31) = false := decide_eq_false (by omega)
    try have t6 : decide (o.party < 0) = true := decide_eq_true (by omega)
    try have t6 : decide (o.party < 0) = false := decide_eq_false (by omega)
    try have t7 : decide (o.party > 7) = true := decide_eq_true (by omega)
    try have t7 : decide (o.party > 7) = false := decide_eq_false (by omega)
    repeat (first
    | (((with_reducible refine Sy.is_guard ?_); (first
    | refine Sy.st_guard T (h := ?_)
    | (refine Sy.st_unguard T (h := ?_); clear T; intro ac T))))
    | (((with_reducible refine Sy.is_load ?_); (refine Sy.st_loadOne T F (h := ?_)); clear T; intro ac T))
    | (((with_reducible refine Sy.is_box ?_); (refine Sy.st_boxAgg T F (h := ?_)); clear T F; intro ac g w T F))
    | (((with_reducible refine Sy.is_op ?_); refine Sy.st_pure T (h := ?_); clear T; intro ac T))
    | ((with_reducible refine Sy.is_cond ?_); (refine Sy.st_true T (h := ?_)))
    | (with_reducible refine wpList_nil ?_)
    | (with_reducible refine wp_region_lit ?_)
    | (with_reducible refine wp_ret ?_)
    | ((with_reducible refine wp_seq_k ?_); intro _ _)
    | (go_at_K; go_step)
    | (simp only [Exit.then, Exit.inBlock, ↓reduceIte, Nat.reduceEqDiff]))
    ((try simp only [Exit.inBlock, Exit.then]); refine Sy.st_ret1 T F rfl (by repeat (first | exact Sy.ResV.nil | apply Sy.ResV.tmp rfl | apply Sy.ResV.row rfl rfl rfl (by repeat (first | exact Sy.Take.here | apply Sy.Take.there)) (by rfl) | apply Sy.ResV.one rfl rfl rfl (by repeat (first | exact Sy.Take.here | apply Sy.Take.there)) (by rfl))) ?_)
    exact retBb F (by first | exact decide_eq_true (by unfold MayO; omega) | exact decide_eq_false (by unfold MayO; omega) | exact decide_eq_decide.2 (by unfold MayO; omega))
end En
end Go.Proofs.Ytdpmfjbhadapiaa
