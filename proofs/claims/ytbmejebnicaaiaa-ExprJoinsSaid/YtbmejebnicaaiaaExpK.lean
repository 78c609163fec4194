/- The walks of the law ExprNots: it returns true. -/
import Derived.Test.YtbmejebnicaaiaaExpL
namespace Go.Proofs.Ytbmejebnicaaiaa
open Go.RowKit
set_option linter.unusedVariables false
namespace Ex

/-- an append to what the call owns, behind what it did before -/
theorem tapp {w wA w' : World} {base : Nat} {v : Value} {l : List Tok} (hB : Below w.heap.size w wA) (ho : OwnT wA base v l) (hb : w.heap.size ≤ base) (hg : wA.grownBy w' (blk v)) : Below w.heap.size w w' :=
  hB.trans (below_grown hg hB.size fun k hk => Nat.le_trans hb (Own.lt ho k hk).1)

theorem ok_app {l m : List Tok} (h1 : ∀ t ∈ l, okT t) (h2 : ∀ t ∈ m, okT t) : ∀ t ∈ l ++ m, okT t := by
  intro t ht
  rcases List.mem_append.1 ht with h | h
  · exact h1 t h
  · exact h2 t h

/-- a formula's outcome -/
theorem eval_cases {l : List Tok} {vars : List Int} (arg : Int) (h : mayS l vars.length = true) :
    (one vars arg l = none ∧ evalS l vars arg = (0, 18)) ∨ ∃ v, one vars arg l = some v ∧ evalS l vars arg = (v, 0) := by
  rw [eval_one arg h]
  cases one vars arg l with
  | none => exact .inl ⟨rfl, rfl⟩
  | some v => exact .inr ⟨v, rfl, rfl⟩

theorem nots_far (w : World) (a : Option Addr) (cap : Nat) (l : List Tok) (hl : Toks w a l.length l) (av : Option Addr) (cv : Nat) (vars : List Int) (hv : Ints w av vars.length vars) (arg : Int) (h : 22 < l.length ∨ 100 < vars.length ∨ mayS l vars.length = false) :
    Calls Try.prog 7 #[.slice a l.length cap, .slice av vars.length cv, .int .i64 arg] w (RetBo w true) := by
  have HL := Lib.hid hl
  have HM := Lib.hid (may_eq l vars.length)
  clear hl hv
  by_cases h1 : 22 < l.length
  · clear h
    go_enter Try.func7, Try.ntmps7
    go_wp2_with fail
    refine (awake_any _).mono ?_
    rintro e w1 ⟨rfl, b1⟩
    go_wp2_with fail
    go_ret
    exact retBo rfl b1
  by_cases h2 : 100 < vars.length
  · clear h
    go_enter Try.func7, Try.ntmps7
    go_wp2_with fail
    refine (awake_any _).mono ?_
    rintro e w1 ⟨rfl, b1⟩
    go_wp2_with fail
    go_ret
    exact retBo rfl b1
  have h3 : refMayS l vars.length = false := by
    rw [← HM.out]
    rcases h with h | h | h
    · omega
    · omega
    · exact h
  have H3 := Lib.hid h3
  clear h h3
  go_enter Try.func7, Try.ntmps7
  go_wp2_with fail
  refine (mayR_any _ _ _ l _ _ HL.out).mono ?_
  rintro e w1 ⟨rfl, b1⟩
  rw [H3.out]
  go_wp2_with fail
  refine (awake_any _).mono ?_
  rintro e w2 ⟨rfl, b2⟩
  go_wp2_with fail
  go_ret
  exact retBo rfl (bthen b1 b2)

theorem nots_near (w : World) (a : Option Addr) (cap : Nat) (l : List Tok) (hl : Toks w a l.length l) (av : Option Addr) (cv : Nat) (vars : List Int) (hv : Ints w av vars.length vars) (arg : Int) (harg : least ≤ arg ∧ arg ≤ most) (h1 : l.length ≤ 22) (h2 : vars.length ≤ 100) (h3 : mayS l vars.length = true) :
    Calls Try.prog 7 #[.slice a l.length cap, .slice av vars.length cv, .int .i64 arg] w (RetBo w true) := by
  have HL := Lib.hid hl
  have HV := Lib.hid hv
  have HA := Lib.hid harg
  have H3 := Lib.hid (show refMayS l vars.length = true by rw [← may_eq]; exact h3)
  have hlen : l.length ≠ 0 := by
    intro h0
    have : l = [] := List.eq_nil_of_length_eq_zero h0
    subst this
    have := may_go h3
    simp [mayGo] at this
  have hnm := nots_may h3 h1
  have hno := nots_one (vars := vars) arg h3
  have hn1 := eval_one (vars := vars) arg hnm
  rw [hno] at hn1
  have B0 := Lib.hid (Below.refl w.heap.size w)
  have BA := Lib.hid (fun w o => balloc w o)
  have hok11 : ∀ t ∈ ([⟨11, 0⟩, ⟨11, 0⟩] : List Tok), okT t := by
    intro t ht
    simp at ht
    subst ht
    unfold okT least most; simp
  have N11 := Lib.hid (fun w => newToks w [⟨11, 0⟩, ⟨11, 0⟩] 23 (0, 0) (by simp [maxLen]) hok11)
  have OK := Lib.hid (ok_app hl.2.2.1 hok11)
  have hh : holdsS l vars arg = decide (l.length = 0 ∨ ((evalS l vars arg).2 = 0 ∧ (evalS l vars arg).1 ≠ 0)) := rfl
  have hcases := eval_cases (vars := vars) arg h3
  have hlen2 := Lib.hid hlen
  -- the two outcomes
  have hfin : ∃ (n m : Int) (e : Nat), evalS (l ++ [⟨11, 0⟩, ⟨11, 0⟩]) vars arg = (n, e) ∧ evalS l vars arg = (m, e) ∧ ((n == 1) == (m != 0)) = true ∧ ((n == 0) == (m == 0)) = true ∧ (holdsS l vars arg == (n == 1)) = true := by
    rcases hcases with ⟨ho, he⟩ | ⟨v, ho, he⟩
    · rw [ho] at hn1
      refine ⟨0, 0, 18, hn1, he, rfl, rfl, ?_⟩
      rw [hh, he, decide_eq_false (by rintro (h | ⟨h, _⟩); exact hlen h; simp at h)]; rfl
    · rw [ho] at hn1
      refine ⟨truth (decide (v ≠ 0)), v, 0, hn1, he, ?_, ?_, ?_⟩
      · by_cases h : v = 0 <;> simp [truth, h]
      · by_cases h : v = 0 <;> simp [truth, h]
      · rw [hh, he]
        by_cases h : v = 0 <;> simp [truth, h, hlen]
  obtain ⟨n, m, e, f1, f2, f3, f4, f5⟩ := hfin
  have F1 := Lib.hid f1
  have F2 := Lib.hid f2
  have HH := Lib.hid (fun w' (b : Below w.heap.size w w') => holds_any a l.length cap l av vars.length cv vars arg w' (HL.out.mono b) (HV.out.mono b) harg)
  generalize holdsS l vars arg = hs at *
  have k1 := beq_refl_i (e : Int)
  clear f1 f2 hh hcases hn1 hno hnm hok11 hlen h3 hl hv
  go_enter Try.func7, Try.ntmps7
  go_wp2_with fail
  refine (mayR_any _ _ _ l _ _ HL.out).mono ?_
  rintro en w1 ⟨rfl, b1⟩
  rw [H3.out]
  go_wp2_with (at_builtin; refine stopHere ?_)
  have c1 := bthen b1 (BA.out w1 (.cells #[] 23))
  refine atStop (appT rfl (.tmp 28) (.tmp 29) rfl (l := []) (m := l) (OwnT.nil _ w.heap.size _) (HL.out.mono c1) rfl rfl c1.size (by simp; omega) ?_)
  intro a2 m2 cp2 w2 o2 g2
  have c2 := c1.trans (below_grown g2 c1.size (fun k hk => by simp [blk] at hk))
  simp only [List.nil_append] at o2
  go_wp2_with (at_builtin; refine stopHere ?_)
  refine atStop (appT rfl (.tmp 30) (.tmp 33) rfl (l := l) (m := [⟨11, 0⟩, ⟨11, 0⟩]) (o2.below (BA.out w2 _)) (N11.out w2) rfl rfl (bthen c2 (BA.out w2 _)).size (by simp; omega) ?_)
  intro a3 m3 cp3 w3 o3 g3
  have c3 := tapp (bthen c2 (BA.out w2 _)) (o2.below (BA.out w2 _)) (Nat.le_refl _) g3
  obtain ⟨t3, e3, _, _⟩ := o3.toks OK.out
  have T3 := Lib.hid t3
  clear o2 g2 g3 o3 t3 e3 c2 c1
  go_wp2_with fail
  refine (eval_any _ _ _ _ _ _ _ vars arg _ T3.out (HV.out.mono c3) HA.out).mono ?_
  rintro en w4 ⟨rfl, b4⟩
  rw [F1.out]
  have c4 := bthen c3 b4
  go_wp2_with fail
  refine (eval_any _ _ _ l _ _ _ vars arg _ (HL.out.mono c4) (HV.out.mono c4) HA.out).mono ?_
  rintro en w5 ⟨rfl, b5⟩
  rw [F2.out]
  have c5 := bthen c4 b5
  simp only
  go_wp2_with fail
  refine (HH.out _ c5).mono ?_
  rintro en w6 ⟨rfl, b6⟩
  have c6 := bthen c5 b6
  go_wp2_with fail
  refine (awake_any _).mono ?_
  rintro en w7 ⟨rfl, b7⟩
  go_wp2_with fail
  go_ret
  exact retBo rfl (bthen c6 b7)

theorem exprNots (w : World) (a : Option Addr) (cap : Nat) (l : List Tok) (hl : Toks w a l.length l) (av : Option Addr) (cv : Nat) (vars : List Int) (hv : Ints w av vars.length vars) (arg : Int) (ha : -9223372036854775808 ≤ arg ∧ arg ≤ 9223372036854775807) :
    Calls Try.prog 7 #[.slice a l.length cap, .slice av vars.length cv, .int .i64 arg] w (RetBo w true) := by
  by_cases h : 22 < l.length ∨ 100 < vars.length ∨ mayS l vars.length = false
  · exact nots_far w a cap l hl av cv vars hv arg h
  · have h1 : ¬ 22 < l.length := fun h1 => h (.inl h1)
    have h2 : ¬ 100 < vars.length := fun h2 => h (.inr (.inl h2))
    have h3 : ¬ mayS l vars.length = false := fun h3 => h (.inr (.inr h3))
    exact nots_near w a cap l hl av cv vars hv arg ha (by omega) (by omega) (by simpa using h3)

end Ex
end Go.Proofs.Ytbmejebnicaaiaa
