/- The walks of Holds, the document's Holds, the example; slices of signs that the call makes, and append on them. Conditions: the signs and the variables can be read. -/
import Derived.Test.YtbmejebnicaaiaaExpE
namespace Go.Proofs.Ytbmejebnicaaiaa
open Go.RowKit
set_option linter.unusedVariables false
namespace Ex

theorem holds_any (a : Option Addr) (n cap : Nat) (l : List Tok) (av : Option Addr) (nv cv : Nat) (vars : List Int) (arg : Int) (w : World) (hl : Toks w a n l) (hv : Ints w av nv vars) (harg : least ≤ arg ∧ arg ≤ most) :
    Calls Try.prog 18 #[.slice a n cap, .slice av nv cv, .int .i64 arg] w (RetBo w (holdsS l vars arg)) := by
  obtain rfl := hl.1
  have hfin : holdsS l vars arg = decide (l.length = 0 ∨ ((evalS l vars arg).2 = 0 ∧ (evalS l vars arg).1 ≠ 0)) := rfl
  generalize holdsS l vars arg = res at *
  have HE := Lib.hid (eval_any a l.length cap l av nv cv vars arg w hl hv harg)
  have B0 := Lib.hid (Below.refl w.heap.size w)
  generalize evalS l vars arg = r at *
  obtain ⟨x, e⟩ := r
  simp only at hfin
  by_cases h0 : l.length = 0
  · have t0 : ((l.length : Int) == 0) = true := by rw [beq_iff_eq]; omega
    rw [decide_eq_true (.inl h0)] at hfin
    subst hfin
    clear h0 hl hv
    go_enter Try.func18, Try.ntmps18
    go_wp2_with fail
    go_ret
    exact retBo rfl B0.out
  · have t0 : ((l.length : Int) == 0) = false := by rw [beq_eq_false_iff_ne]; omega
    have H0 := Lib.hid h0
    have HF := Lib.hid hfin
    rcases beq_cases (e : Int) 0 with ⟨h1, t1⟩ | ⟨h1, t1⟩ <;> rcases beq_cases x 0 with ⟨h2, t2⟩ | ⟨h2, t2⟩
    all_goals
      have t3 : (x != 0) = !(x == 0) := rfl
      rw [t2] at t3
      have H12 := Lib.hid (And.intro h1 h2)
      clear h0 hl hv hfin h1 h2
      go_enter Try.func18, Try.ntmps18
      go_wp2_with fail
      refine HE.out.mono ?_
      rintro en w1 ⟨rfl, b1⟩
      go_wp2_with fail
      go_ret
      refine retBo ?_ b1
      rw [HF.out]
      have := H0.out
      have := H12.out
      first
      | (rw [decide_eq_true (by omega)]; done)
      | (rw [decide_eq_false (by omega)]; done)

theorem holdsR_any (a : Option Addr) (n cap : Nat) (l : List Tok) (av : Option Addr) (nv cv : Nat) (vars : List Int) (arg : Int) (w : World) (hl : Toks w a n l) (hv : Ints w av nv vars) (harg : least ≤ arg ∧ arg ≤ most) :
    Calls Try.prog 19 #[.slice a n cap, .slice av nv cv, .int .i64 arg] w (RetBo w (holdsS l vars arg)) := by
  obtain rfl := hl.1
  have hfin : holdsS l vars arg = decide (l.length = 0 ∨ ((evalS l vars arg).2 = 0 ∧ (evalS l vars arg).1 ≠ 0)) := rfl
  generalize holdsS l vars arg = res at *
  have HE := Lib.hid (evalR_any a l.length cap l av nv cv vars arg w hl hv harg)
  rw [← eval_eq] at HE
  generalize evalS l vars arg = r at *
  obtain ⟨x, e⟩ := r
  simp only at hfin
  have t0 : ((l.length : Int) == 0) = decide (l.length = 0) := by
    by_cases h : l.length = 0
    · rw [decide_eq_true h, beq_iff_eq]; omega
    · rw [decide_eq_false h, beq_eq_false_iff_ne]; omega
  by_cases h0 : l.length = 0 <;> rcases beq_cases (e : Int) 0 with ⟨h1, t1⟩ | ⟨h1, t1⟩ <;> rcases beq_cases x 0 with ⟨h2, t2⟩ | ⟨h2, t2⟩
  all_goals
    first | rw [decide_eq_true h0] at t0 | rw [decide_eq_false h0] at t0
    have H0 := Lib.hid h0
    have HF := Lib.hid hfin
    have t3 : (x != 0) = !(x == 0) := rfl
    rw [t2] at t3
    have H12 := Lib.hid (And.intro h1 h2)
    clear h0 hl hv hfin h1 h2
    go_enter Try.func19, Try.ntmps19
    go_wp2_with fail
    refine HE.out.mono ?_
    rintro en w1 ⟨rfl, b1⟩
    go_wp2_with fail
    go_ret
    refine retBo ?_ b1
    rw [HF.out]
    have := H0.out
    have := H12.out
    first
    | (rw [decide_eq_true (by omega)]; done)
    | (rw [decide_eq_false (by omega)]; done)

/-! ### slices of signs that the call makes -/
def flat : List Tok → List Value
  | [] => []
  | t :: l => .int .u8 (t.op : Int) :: .int .i64 t.n :: flat l
theorem flat_app (l m : List Tok) : flat (l ++ m) = flat l ++ flat m := by
  induction l with
  | nil => rfl
  | cons t l ih => simp [flat, ih]
theorem flat_len (l : List Tok) : (flat l).length = l.length * 2 := by
  induction l with
  | nil => rfl
  | cons t l ih => simp only [flat, List.length_cons, ih]; omega
theorem flat_get : ∀ (l : List Tok) (i : Nat) (h : i < l.length), (flat l)[i * 2]? = some (.int .u8 (l[i].op : Int)) ∧ (flat l)[i * 2 + 1]? = some (.int .i64 l[i].n)
  | t :: l, 0, _ => ⟨rfl, rfl⟩
  | t :: l, i + 1, h => by
    rw [show (i + 1) * 2 = i * 2 + 2 from by omega]
    exact flat_get l i (by simpa using h)
theorem flat_one (l : List Tok) : ∀ u ∈ flat l, u.oneCell' = true := by
  induction l with
  | nil => simp [flat]
  | cons t l ih =>
    intro u hu
    simp only [flat, List.mem_cons] at hu
    rcases hu with rfl | rfl | hu
    · rfl
    · rfl
    · exact ih u hu

theorem toks_of {w : World} {a : Option Addr} {l : List Tok} (hc : Cells w a (flat l)) (hm : l.length ≤ maxLen) (hok : ∀ t ∈ l, okT t) : Toks w a l.length l := by
  refine ⟨rfl, hm, hok, ?_⟩
  rcases hc with h | ⟨b, o, ha, hc⟩
  · left
    cases l with
    | nil => rfl
    | cons t l => simp [flat] at h
  · refine .inr ⟨b, o, ha, fun i hi => ?_⟩
    obtain ⟨g0, g1⟩ := flat_get l i hi
    have l0 : i * 2 < (flat l).length := by rw [flat_len]; omega
    have l1 : i * 2 + 1 < (flat l).length := by rw [flat_len]; omega
    have h0 := hc (i * 2) l0
    have h1 := hc (i * 2 + 1) l1
    rw [List.getElem?_eq_getElem l0] at g0
    rw [List.getElem?_eq_getElem l1] at g1
    exact ⟨h0.trans g0, h1.trans g1⟩
theorem cells_of {w : World} {a : Option Addr} {n : Nat} {l : List Tok} (h : Toks w a n l) : Cells w a (flat l) := by
  obtain ⟨h1, h2, h3, h4⟩ := h
  rcases h4 with h | ⟨b, o, ha, hc⟩
  · subst h; exact .inl rfl
  · refine .inr ⟨b, o, ha, fun j hj => ?_⟩
    rw [flat_len] at hj
    obtain ⟨q, hq, hjq⟩ : ∃ q, q < l.length ∧ (j = q * 2 ∨ j = q * 2 + 1) := ⟨j / 2, by omega, by omega⟩
    obtain ⟨g0, g1⟩ := flat_get l q hq
    obtain ⟨c0, c1⟩ := hc q hq
    rcases hjq with rfl | rfl
    · rw [List.getElem?_eq_getElem (by rw [flat_len]; exact hj)] at g0
      rw [c0, ← g0]
    · rw [List.getElem?_eq_getElem (by rw [flat_len]; exact hj)] at g1
      rw [← Nat.add_assoc, c1, ← g1]

theorem newToks (w : World) (l : List Tok) (T : TypeId) (fz : Nat × Nat) (hl : l.length ≤ maxLen) (hok : ∀ t ∈ l, okT t) : Toks (w.alloc (.cells (flat l).toArray T fz)) (some ⟨w.heap.size, 0, none⟩) l.length l :=
  toks_of (.inr ⟨_, _, rfl, fun i hi => by simp only [World.cell?, heap_alloc_new, Nat.zero_add]; simp⟩) hl hok

/-- signs that the call owns -/
def OwnT (w : World) (base : Nat) (v : Value) (l : List Tok) : Prop := Own w base 23 2 v l.length (flat l)
theorem OwnT.toks {w : World} {base : Nat} {a : Option Addr} {n cap : Nat} {l : List Tok} (h : OwnT w base (.slice a n cap) l) (hok : ∀ t ∈ l, okT t) : Toks w a n l ∧ n = l.length ∧ n ≤ cap ∧ cap ≤ maxLen := by
  obtain ⟨a', cap', hv, hl, hn, hm, h'⟩ := h
  simp at hv; obtain ⟨rfl, rfl, rfl⟩ := hv
  exact ⟨toks_of (Own.cells (n := l.length) (cap := cap) (base := base) (e := 23) (size := 2) ⟨a, cap, rfl, hl, hn, hm, h'⟩) (by omega) hok, rfl, hn, hm⟩
theorem OwnT.nil (w : World) (base : Nat) (a : Option Addr) : OwnT w base (.slice a 0 0) [] := Own.empty w base _ 2 a
theorem OwnT.below {w w' : World} {base : Nat} {v : Value} {l : List Tok} (h : OwnT w base v l) (hb : Below w.heap.size w w') : OwnT w' base v l := Own.below h hb

theorem info_tok : (Try.prog.info? 23).map (fun i => (i.zero, i.size, i.bytes)) = some (some (.agg #[.int .u8 0, .int .i64 0]), 2, 16) := by kernel_rfl

theorem appT {w : World} {ops : Array Oper} {rest : List Oper} {o : Oper} {a : Act} {Q : Exit → Act → World → Prop} (hgd : Region.wanted o (yielded ops a.tmps) = true) (s x : Operand)
    (ho : o.op = .call { callee := .builtin .append, args := #[s, x], argTypes := #[24, 24] })
    {base : Nat} {v : Value} {l : List Tok} (hown : OwnT w base v l) {ad : Option Addr} {mn c : Nat} {m : List Tok} (hsrc : Toks w ad mn m) (hs : a.eval s = v) (hx : a.eval x = .slice ad mn c)
    (hbase : base ≤ w.heap.size) (hsmall : l.length + m.length ≤ 1000000)
    (h : ∀ a' m' cap' w', OwnT w' base (.slice a' m' cap') (l ++ m) → w.grownBy w' (blk v) → wpList Try.prog ops Q rest (a.put o.dst (.slice a' m' cap')) w') : wpList Try.prog ops Q (o :: rest) a w := by
  obtain ⟨i, hi, hz, hs1, hb1⟩ := info_parts info_tok
  have hc := cells_of hsrc
  obtain rfl := hsrc.1
  refine wpList_append_Own w hgd s x _ ho base 23 i _ 2 16 Try.underlying24 hi hz hs1 hb1 rfl (by omega) v l.length (flat l) hs hown ad m.length c (flat m) hx (flat_len m) hc (flat_one m) (by omega) (by omega) hbase ?_
  intro a' cap' w' h1 h2 _
  have e1 : l.length + m.length = (l ++ m).length := by simp
  rw [e1] at h1 ⊢
  exact h a' _ cap' w' (by unfold OwnT; rw [flat_app]; exact h1) h2

theorem awake_any (w : World) : Calls Try.prog 15 #[] w (RetBo w true) := by
  have hok : ∀ t ∈ ([⟨1, 2⟩, ⟨1, 3⟩, ⟨4, 0⟩, ⟨3, 0⟩, ⟨7, 0⟩] : List Tok), okT t := by
    intro t ht
    simp at ht
    unfold okT least most
    rcases ht with rfl | rfl | rfl | rfl | rfl <;> simp
  have HT := Lib.hid (newToks w [⟨1, 2⟩, ⟨1, 3⟩, ⟨4, 0⟩, ⟨3, 0⟩, ⟨7, 0⟩] 23 (0, 0) (by decide) hok)
  have hv : evalS [⟨1, 2⟩, ⟨1, 3⟩, ⟨4, 0⟩, ⟨3, 0⟩, ⟨7, 0⟩] [] 6 = (1, 0) := by decide +kernel
  have HV := Lib.hid hv
  have BA := Lib.hid (fun o => balloc w o)
  clear hv hok
  go_enter Try.func15, Try.ntmps15
  go_wp2_with fail
  refine (eval_any _ _ _ [⟨1, 2⟩, ⟨1, 3⟩, ⟨4, 0⟩, ⟨3, 0⟩, ⟨7, 0⟩] _ _ _ [] 6 _ HT.out (Ints.nil _ _) (by unfold least most; omega)).mono ?_
  rintro en w1 ⟨rfl, b1⟩
  rw [HV.out]
  go_wp2_with fail
  go_ret
  exact retBo rfl (bthen (BA.out _) b1)
end Ex
end Go.Proofs.Ytbmejebnicaaiaa
