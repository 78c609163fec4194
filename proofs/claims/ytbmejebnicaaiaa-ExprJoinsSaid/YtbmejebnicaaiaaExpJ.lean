/- The walk of the law ExprJoins: it returns true. -/
import Derived.Test.YtbmejebnicaaiaaExpK
namespace Go.Proofs.Ytbmejebnicaaiaa
open Go.RowKit
set_option linter.unusedVariables false
namespace Ex

set_option maxHeartbeats 1600000 in
theorem joins_far (w : World) (op : Nat) (hop : op < 256) (a : Option Addr) (cap : Nat) (l : List Tok) (hl : Toks w a l.length l) (a2 : Option Addr) (cap2 : Nat) (m : List Tok) (hm : Toks w a2 m.length m) (av : Option Addr) (cv : Nat) (vars : List Int) (hv : Ints w av vars.length vars) (arg : Int)
    (h : op < 4 ∨ 10 < op ∨ 23 < l.length + m.length ∨ 100 < vars.length ∨ mayS l vars.length = false ∨ mayS m vars.length = false) :
    Calls Try.prog 5 #[.int .u8 (op : Int), .slice a l.length cap, .slice a2 m.length cap2, .slice av vars.length cv, .int .i64 arg] w (RetBo w true) := by
  have hml := hl.2.1
  have hmm := hm.2.1
  unfold maxLen at hml hmm
  have HL := Lib.hid hl
  have HM := Lib.hid hm
  have M1 := Lib.hid (may_eq l vars.length)
  have M2 := Lib.hid (may_eq m vars.length)
  clear hl hm hv
  have d1 : decide ((op : Int) < 4) = decide (op < 4) := by rw [Bool.eq_iff_iff]; simp; omega
  have d2 : decide (10 < (op : Int)) = decide (10 < op) := by rw [Bool.eq_iff_iff]; simp; omega
  by_cases h1 : op < 4
  · rw [decide_eq_true h1] at d1
    clear h d2
    go_enter Try.func5, Try.ntmps5
    go_wp2_with fail
    refine (awake_any _).mono ?_
    rintro e w1 ⟨rfl, b1⟩
    go_wp2_with fail
    go_ret
    exact retBo rfl b1
  rw [decide_eq_false h1] at d1
  by_cases h2 : 10 < op
  · rw [decide_eq_true h2] at d2
    clear h
    go_enter Try.func5, Try.ntmps5
    go_wp2_with fail
    refine (awake_any _).mono ?_
    rintro e w1 ⟨rfl, b1⟩
    go_wp2_with fail
    go_ret
    exact retBo rfl b1
  rw [decide_eq_false h2] at d2
  by_cases h5 : 100 < vars.length
  · have hsum : (l.length + m.length ≤ 9223372036854775807 ∧ (23 < l.length + m.length ∨ l.length + m.length ≤ 23)) ∨ (9223372036854775807 < l.length + m.length ∧ decide (23 < wrap64 ((l.length : Int) + (m.length : Int))) = false) := by
      by_cases h : l.length + m.length ≤ 9223372036854775807
      · exact .inl ⟨h, by omega⟩
      · exact .inr ⟨by omega, decide_eq_false (by unfold wrap64; omega)⟩
    clear h
    rcases hsum with ⟨g1, g2 | g2⟩ | ⟨g1, g2⟩
    · go_enter Try.func5, Try.ntmps5
      go_wp2_with fail
      refine (awake_any _).mono ?_
      rintro e w1 ⟨rfl, b1⟩
      go_wp2_with fail
      go_ret
      exact retBo rfl b1
    · go_enter Try.func5, Try.ntmps5
      go_wp2_with fail
      refine (awake_any _).mono ?_
      rintro e w1 ⟨rfl, b1⟩
      go_wp2_with fail
      go_ret
      exact retBo rfl b1
    · go_enter Try.func5, Try.ntmps5
      go_wp2_with fail
      refine (awake_any _).mono ?_
      rintro e w1 ⟨rfl, b1⟩
      go_wp2_with fail
      go_ret
      exact retBo rfl b1
    
  have hlong : 9223372036854775807 < l.length + m.length → mayS l vars.length = false ∨ mayS m vars.length = false := by
    intro h
    unfold mayS
    rcases Nat.lt_or_ge 24 l.length with h1 | h1
    · left; rw [decide_eq_false_iff_not]; omega
    · right; rw [decide_eq_false_iff_not]; omega
  have hsum : (l.length + m.length ≤ 9223372036854775807 ∧ 23 < l.length + m.length) ∨ ((mayS l vars.length = false ∨ mayS m vars.length = false) ∧ ((l.length + m.length ≤ 23) ∨ (9223372036854775807 < l.length + m.length ∧ decide (23 < wrap64 ((l.length : Int) + (m.length : Int))) = false))) := by
    by_cases g : l.length + m.length ≤ 9223372036854775807
    · by_cases g2 : 23 < l.length + m.length
      · exact .inl ⟨g, g2⟩
      · refine .inr ⟨?_, .inl (by omega)⟩
        rcases h with h | h | h | h | h | h
        · omega
        · omega
        · omega
        · omega
        · exact .inl h
        · exact .inr h
    · exact .inr ⟨hlong (by omega), .inr ⟨by omega, decide_eq_false (by unfold wrap64; omega)⟩⟩
  clear h hlong
  rcases hsum with ⟨g1, g2⟩ | ⟨hf, g⟩
  · go_enter Try.func5, Try.ntmps5
    go_wp2_with fail
    refine (awake_any _).mono ?_
    rintro e w1 ⟨rfl, b1⟩
    go_wp2_with fail
    go_ret
    exact retBo rfl b1
  rw [M1.out, M2.out] at hf
  have HF := Lib.hid hf
  clear hf
  cases hc1 : refMayS l vars.length
  · rcases g with g | ⟨g1, g2⟩
    all_goals
      go_enter Try.func5, Try.ntmps5
      go_wp2_with fail
      refine (mayR_any _ _ _ l _ _ HL.out).mono ?_
      rintro e w1 ⟨rfl, b1⟩
      rw [hc1]
      go_wp2_with fail
      refine (awake_any _).mono ?_
      rintro e w2 ⟨rfl, b2⟩
      go_wp2_with fail
      go_ret
      exact retBo rfl (bthen b1 b2)
  · have hc2 : refMayS m vars.length = false := by
      rcases HF.out with h | h
      · rw [hc1] at h; cases h
      · exact h
    rcases g with g | ⟨g1, g2⟩
    all_goals
      go_enter Try.func5, Try.ntmps5
      go_wp2_with fail
      refine (mayR_any _ _ _ l _ _ HL.out).mono ?_
      rintro e w1 ⟨rfl, b1⟩
      rw [hc1]
      go_wp2_with fail
      refine (mayR_any _ _ _ m _ _ (HM.out.mono b1)).mono ?_
      rintro e w2 ⟨rfl, b2⟩
      rw [hc2]
      go_wp2_with fail
      refine (awake_any _).mono ?_
      rintro e w3 ⟨rfl, b3⟩
      go_wp2_with fail
      go_ret
      exact retBo rfl (bthen (bthen b1 b2) b3)

theorem leaf_bd {vars : List Int} {arg : Int} {t : Tok} (hv : ∀ x ∈ vars, least ≤ x ∧ x ≤ most) (ha : least ≤ arg ∧ arg ≤ most) (ht : okT t) : least ≤ leafS vars arg t ∧ leafS vars arg t ≤ most := by
  unfold leafS
  split
  · exact ht.2
  · split
    · unfold varAt
      rw [List.getD_eq_getElem?_getD]
      cases h : vars[t.n.toNat]? with
      | none => simp only [Option.getD_none]; unfold least most; omega
      | some x => exact hv x (List.mem_of_getElem? h)
    · exact ha
theorem two_bd {op : Nat} {a b v : Int} (h : twoS op a b = some v) : least ≤ v ∧ v ≤ most := by
  rw [two_C] at h
  split at h
  · simp at h; rw [← h]; exact twoC_bd op a b
  · cases h
theorem ev_bd {vars : List Int} {arg : Int} (hv : ∀ x ∈ vars, least ≤ x ∧ x ≤ most) (ha : least ≤ arg ∧ arg ≤ most) : ∀ (l : List Tok) (st s : List Int), (∀ t ∈ l, okT t) → (∀ x ∈ st, least ≤ x ∧ x ≤ most) → evGo vars arg l st = some s → ∀ x ∈ s, least ≤ x ∧ x ≤ most
  | [], st, s, _, hs, h => by simp [evGo] at h; subst h; exact hs
  | t :: l, st, s, hl, hs, h => by
    simp only [evGo] at h
    cases he : evStep vars arg t st with
    | none => rw [he] at h; simp at h
    | some s1 =>
      rw [he] at h
      refine ev_bd hv ha l s1 s (fun t ht => hl t (List.mem_cons_of_mem _ ht)) ?_ h
      have htl : ∀ x ∈ st.tail, least ≤ x ∧ x ≤ most := fun x hx => hs x (List.mem_of_mem_tail hx)
      have htt : ∀ x ∈ st.tail.tail, least ≤ x ∧ x ≤ most := fun x hx => htl x (List.mem_of_mem_tail hx)
      unfold evStep at he
      split at he
      · simp at he; subst he
        intro x hx
        rcases List.mem_cons.1 hx with rfl | hx
        · exact leaf_bd hv ha (hl t List.mem_cons_self)
        · exact hs x hx
      · split at he
        · simp at he; subst he
          intro x hx
          rcases List.mem_cons.1 hx with rfl | hx
          · exact truth_bd _
          · exact htl x hx
        · cases h2 : twoS t.op (st.tail.headD 0) (st.headD 0) with
          | none => rw [h2] at he; simp at he
          | some v =>
            rw [h2] at he
            simp at he; subst he
            intro x hx
            rcases List.mem_cons.1 hx with rfl | hx
            · exact two_bd h2
            · exact htt x (by simpa using hx)
theorem eval_bd {vars : List Int} {arg : Int} (hv : ∀ x ∈ vars, least ≤ x ∧ x ≤ most) (ha : least ≤ arg ∧ arg ≤ most) {l : List Tok} (hl : ∀ t ∈ l, okT t) : least ≤ (evalS l vars arg).1 ∧ (evalS l vars arg).1 ≤ most := by
  have z : least ≤ 0 ∧ (0 : Int) ≤ most := by unfold least most; omega
  unfold evalS
  split
  · cases h : evGo vars arg l [] with
    | none => exact z
    | some st =>
      have hb := ev_bd hv ha l [] st hl (by simp) h
      cases st with
      | nil => exact z
      | cons v st => exact hb v List.mem_cons_self
  · exact z

set_option maxHeartbeats 800000 in
theorem joins_walk (w : World) (op : Nat) (hop : 4 ≤ op ∧ op ≤ 10) (a : Option Addr) (cap : Nat) (l : List Tok) (hl : Toks w a l.length l) (a2 : Option Addr) (cap2 : Nat) (m : List Tok) (hm : Toks w a2 m.length m) (av : Option Addr) (cv : Nat) (vars : List Int) (hv : Ints w av vars.length vars) (arg : Int) (harg : least ≤ arg ∧ arg ≤ most)
    (h1 : l.length + m.length ≤ 23) (h2 : vars.length ≤ 100) (h3 : mayS l vars.length = true) (h4 : mayS m vars.length = true) (n x y : Int) (e e1 e2 : Nat) (E0 : Hid (evalS (l ++ m ++ [⟨op, 0⟩]) vars arg = (n, e))) (E1 : Hid (evalS l vars arg = (x, e1))) (E2 : Hid (evalS m vars arg = (y, e2)))
    (hc : (e1 ≠ 0 ∧ n = 0 ∧ e = 18) ∨ (e1 = 0 ∧ e2 ≠ 0 ∧ n = 0 ∧ e = 18) ∨ (e1 = 0 ∧ e2 = 0 ∧ evalS [⟨1, x⟩, ⟨1, y⟩, ⟨op, 0⟩] [] 0 = (n, e))) :
    Calls Try.prog 5 #[.int .u8 (op : Int), .slice a l.length cap, .slice a2 m.length cap2, .slice av vars.length cv, .int .i64 arg] w (RetBo w true) := by
  have HL := Lib.hid hl
  have HM := Lib.hid hm
  have HV := Lib.hid hv
  have HA := Lib.hid harg
  have H3 := Lib.hid (show refMayS l vars.length = true by rw [← may_eq]; exact h3)
  have H4 := Lib.hid (show refMayS m vars.length = true by rw [← may_eq]; exact h4)
  have BA := Lib.hid (fun w o => balloc w o)
  have hokop : okT ⟨op, 0⟩ := by unfold okT least most; simp; omega
  have hokl : ∀ t ∈ ([⟨op, 0⟩] : List Tok), okT t := by intro t ht; simp at ht; subst ht; exact hokop
  have NOP := Lib.hid (fun w => newToks w [⟨op, 0⟩] 23 (0, 0) (by simp [maxLen]) hokl)
  have OK := Lib.hid (ok_app (ok_app hl.2.2.1 hm.2.2.1) hokl)
  have hbx := eval_bd hv.2.2.1 harg hl.2.2.1
  have hby := eval_bd hv.2.2.1 harg hm.2.2.1
  rw [E1.out] at hbx
  rw [E2.out] at hby
  have hokp : ∀ t ∈ ([⟨1, x⟩, ⟨1, y⟩, ⟨op, 0⟩] : List Tok), okT t := by
    intro t ht
    simp at ht
    rcases ht with rfl | rfl | rfl
    · exact ⟨by simp, hbx⟩
    · exact ⟨by simp, hby⟩
    · exact hokop
  have NP := Lib.hid (fun w => newToks w [⟨1, x⟩, ⟨1, y⟩, ⟨op, 0⟩] 23 (0, 0) (by simp [maxLen]) hokp)
  have d1 : ¬ ((op : Int) < 4) := by omega
  have d2 : ¬ (10 < (op : Int)) := by omega
  have HC := Lib.hid hc
  clear hl hm hv hokop hokl hokp h3 h4 hbx hby hc
  go_enter Try.func5, Try.ntmps5
  go_wp2_with fail
  refine (mayR_any _ _ _ l _ _ HL.out).mono ?_
  rintro en w1 ⟨rfl, b1⟩
  rw [H3.out]
  go_wp2_with fail
  refine (mayR_any _ _ _ m _ _ (HM.out.mono b1)).mono ?_
  rintro en w1' ⟨rfl, b1'⟩
  rw [H4.out]
  go_wp2_with (at_builtin; refine stopHere ?_)
  have c1 := bthen (bthen b1 b1') (BA.out w1' (.cells #[] 23))
  refine atStop (appT rfl (.tmp 54) (.tmp 55) rfl (l := []) (m := l) (OwnT.nil _ w.heap.size _) (HL.out.mono c1) rfl rfl c1.size (by simp; omega) ?_)
  intro a3 m3 cp3 w2 o2 g2
  have c2 := c1.trans (below_grown g2 c1.size (fun k hk => by simp [blk] at hk))
  simp only [List.nil_append] at o2
  go_wp2_with (at_builtin; refine stopHere ?_)
  refine atStop (appT rfl (.tmp 56) (.tmp 57) rfl (l := l) (m := m) o2 (HM.out.mono c2) rfl rfl c2.size (by omega) ?_)
  intro a4 m4 cp4 w3 o3 g3
  have c3 := tapp c2 o2 (Nat.le_refl _) g3
  go_wp2_with (at_builtin; refine stopHere ?_)
  refine atStop (appT rfl (.tmp 58) (.tmp 61) rfl (l := l ++ m) (m := [⟨op, 0⟩]) (o3.below (BA.out w3 _)) (NOP.out w3) rfl rfl (bthen c3 (BA.out w3 _)).size (by simp; omega) ?_)
  intro a5 m5 cp5 w4 o4 g4
  have c4 := tapp (bthen c3 (BA.out w3 _)) (o3.below (BA.out w3 _)) (Nat.le_refl _) g4
  obtain ⟨t4, q4, _, _⟩ := o4.toks OK.out
  have T4 := Lib.hid t4
  clear o2 o3 g2 g3 g4 o4 t4 q4 c1 c2 c3
  go_wp2_with fail
  refine (eval_any _ _ _ _ _ _ _ vars arg _ T4.out (HV.out.mono c4) HA.out).mono ?_
  rintro en w5 ⟨rfl, b5⟩
  rw [E0.out]
  have c5 := bthen c4 b5
  simp only
  go_wp2_with fail
  refine (eval_any _ _ _ l _ _ _ vars arg _ (HL.out.mono c5) (HV.out.mono c5) HA.out).mono ?_
  rintro en w6 ⟨rfl, b6⟩
  have c6 := bthen c5 b6
  rw [E1.out]
  simp only
  go_wp2_with fail
  refine (eval_any _ _ _ m _ _ _ vars arg _ (HM.out.mono c6) (HV.out.mono c6) HA.out).mono ?_
  rintro en w7 ⟨rfl, b7⟩
  have c7 := bthen c6 b7
  rw [E2.out]
  simp only
  rcases HC.out with ⟨q1, rfl, rfl⟩ | ⟨rfl, q1, rfl, rfl⟩ | ⟨rfl, rfl, hp⟩
  · have t1 : ((e1 : Int) != 0) = true := by rw [bne_iff_ne]; omega
    clear q1
    go_wp2_with fail
    refine (awake_any _).mono ?_
    rintro en w8 ⟨rfl, b8⟩
    go_wp2_with fail
    go_ret
    exact retBo rfl (bthen c7 b8)
  · have t1 : ((e2 : Int) != 0) = true := by rw [bne_iff_ne]; omega
    clear q1
    go_wp2_with fail
    refine (awake_any _).mono ?_
    rintro en w8 ⟨rfl, b8⟩
    go_wp2_with fail
    go_ret
    exact retBo rfl (bthen c7 b8)
  · have HP := Lib.hid hp
    have k1 := beq_refl_i n
    have k2 := beq_refl_i (e : Int)
    clear hp
    go_wp2_with fail
    refine (eval_any _ _ _ [⟨1, x⟩, ⟨1, y⟩, ⟨op, 0⟩] _ _ _ [] 0 _ (NP.out w7) (Ints.nil _ _) (by unfold least most; omega)).mono ?_
    rintro en w8 ⟨rfl, b8⟩
    rw [HP.out]
    simp only
    have c8 := bthen c7 (bthen (BA.out w7 _) b8)
    go_wp2_with fail
    refine (awake_any _).mono ?_
    rintro en w9 ⟨rfl, b9⟩
    go_wp2_with fail
    go_ret
    exact retBo rfl (bthen c8 b9)

theorem exprJoins (w : World) (op : UInt8) (a : Option Addr) (cap : Nat) (l : List Tok) (hl : Toks w a l.length l) (a2 : Option Addr) (cap2 : Nat) (m : List Tok) (hm : Toks w a2 m.length m) (av : Option Addr) (cv : Nat) (vars : List Int) (hv : Ints w av vars.length vars) (arg : Int) (ha : -9223372036854775808 ≤ arg ∧ arg ≤ 9223372036854775807) :
    Calls Try.prog 5 #[.int .u8 (op.toNat : Int), .slice a l.length cap, .slice a2 m.length cap2, .slice av vars.length cv, .int .i64 arg] w (RetBo w true) := by
  have hop := op.toNat_lt
  generalize op.toNat = p at *
  by_cases h : p < 4 ∨ 10 < p ∨ 23 < l.length + m.length ∨ 100 < vars.length ∨ mayS l vars.length = false ∨ mayS m vars.length = false
  · exact joins_far w p hop a cap l hl a2 cap2 m hm av cv vars hv arg h
  · have g1 : ¬ p < 4 := fun g => h (.inl g)
    have g2 : ¬ 10 < p := fun g => h (.inr (.inl g))
    have g3 : ¬ 23 < l.length + m.length := fun g => h (.inr (.inr (.inl g)))
    have g4 : ¬ 100 < vars.length := fun g => h (.inr (.inr (.inr (.inl g))))
    have g5 : mayS l vars.length = true := by
      cases g : mayS l vars.length
      · exact (h (.inr (.inr (.inr (.inr (.inl g)))))).elim
      · rfl
    have g6 : mayS m vars.length = true := by
      cases g : mayS m vars.length
      · exact (h (.inr (.inr (.inr (.inr (.inr g)))))).elim
      · rfl
    have hp : 4 ≤ p ∧ p ≤ 10 := by omega
    have hjo := eval_one (vars := vars) arg (joins_may hp g5 g6 (by omega))
    rw [joins_one hp arg g5 g6] at hjo
    rcases eval_cases arg g5 with ⟨ho, he⟩ | ⟨x, ho, he⟩
    · rw [ho] at hjo
      exact joins_walk w p hp a cap l hl a2 cap2 m hm av cv vars hv arg ha (by omega) (by omega) g5 g6 0 0 (evalS m vars arg).1 18 18 (evalS m vars arg).2 (Lib.hid hjo) (Lib.hid he) (Lib.hid rfl) (.inl ⟨by omega, rfl, rfl⟩)
    · rcases eval_cases arg g6 with ⟨ho2, he2⟩ | ⟨y, ho2, he2⟩
      · rw [ho, ho2] at hjo
        exact joins_walk w p hp a cap l hl a2 cap2 m hm av cv vars hv arg ha (by omega) (by omega) g5 g6 0 x 0 18 0 18 (Lib.hid hjo) (Lib.hid he) (Lib.hid he2) (.inr (.inl ⟨rfl, by omega, rfl, rfl⟩))
      · rw [ho, ho2] at hjo
        have hpe := pair_eval hp x y
        have hsame : evalS (l ++ m ++ [⟨p, 0⟩]) vars arg = evalS [⟨1, x⟩, ⟨1, y⟩, ⟨p, 0⟩] [] 0 := by
          rw [hjo, hpe]
        exact joins_walk w p hp a cap l hl a2 cap2 m hm av cv vars hv arg ha (by omega) (by omega) g5 g6 _ x y _ 0 0 (Lib.hid rfl) (Lib.hid he) (Lib.hid he2) (.inr (.inr ⟨rfl, rfl, hsame.symm⟩))
end Ex
end Go.Proofs.Ytbmejebnicaaiaa
