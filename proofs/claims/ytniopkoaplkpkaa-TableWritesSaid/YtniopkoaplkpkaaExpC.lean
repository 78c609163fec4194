/- The walks of the document's begins and May. Conditions: the signs can be read. -/
import Derived.Test.YtniopkoaplkpkaaExpB
namespace Go.Proofs.Ytniopkoaplkpkaa
open Go.RowKit
set_option linter.unusedVariables false
namespace Ex

theorem rev_take (l : List Tok) (e : Nat) (h : e < l.length) : (l.take (e + 1)).reverse = l[e] :: (l.take e).reverse := by
  rw [List.take_succ_eq_append_getElem h, List.reverse_append]; rfl
theorem drop_rev (l : List Tok) (e b : Nat) (he : e ≤ l.length) (hb : b ≤ e) : (l.take e).reverse.drop ((l.take e).reverse.length - b) = (l.take b).reverse := by
  rw [List.drop_reverse]
  congr 1
  rw [List.length_reverse, List.length_take, Nat.min_eq_left he, Nat.sub_sub_self hb, List.take_take, Nat.min_eq_left hb]
theorem begS_bd (r : List Tok) : -1 ≤ begS r ∧ begS r ≤ r.length := by
  unfold begS
  cases h : skip 1 r with
  | none => simp only; omega
  | some r' =>
    have := skip_len r 1 r' h
    simp only; omega

theorem begins_any (a : Option Addr) (cap : Nat) (l : List Tok) : ∀ (m e : Nat) (x : Int) (w : World), e ≤ m → e ≤ l.length → x + 1 = e → Toks w a l.length l →
    Calls Try.prog 136 #[.slice a l.length cap, .int .i64 x] w fun en w' => en = .returned (.int .i64 (begS (l.take e).reverse)) ∧ w = w' := by
  intro m
  induction m with
  | zero =>
    intro e x w hem hel hx hl
    obtain rfl : e = 0 := by omega
    obtain rfl : x = -1 := by omega
    rw [show begS (l.take 0).reverse = -1 from rfl]
    clear hx hl hem hel
    go_enter Try.func136, Try.ntmps136
    go_wp2_with fail
    go_ret
    exact ⟨rfl, rfl⟩
  | succ m ih =>
    intro e x w hem hel hx hl
    cases e with
    | zero =>
      obtain rfl : x = -1 := by omega
      rw [show begS (l.take 0).reverse = -1 from rfl]
      clear hx hl hem hel
      go_enter Try.func136, Try.ntmps136
      go_wp2_with fail
      go_ret
      exact ⟨rfl, rfl⟩
    | succ e =>
      obtain rfl : x = (e : Int) := by omega
      clear hx
      have hm := hl.2.1
      unfold maxLen at hm
      obtain ⟨b, o, ha, c0, c1, hok⟩ := hl.at e (by omega)
      have HA := Lib.hid ha
      subst ha
      have IH := Lib.hid ih
      have HL := Lib.hid hl
      have hr := rev_take l e (by omega)
      rw [hr]
      have hi1 : (e : Int) < (l.length : Int) := by omega
      have HD := Lib.hid (drop_rev l e)
      have hrl : (l.take e).reverse.length = e := by simp; omega
      have HRL := Lib.hid hrl
      clear ih hl hr hrl c1 HA
      generalize l[e] = t at *
      obtain ⟨op, n⟩ := t
      simp only at c0
      rcases (show takes op = 0 ∨ takes op = 1 ∨ takes op = 2 by have := takes_le op; omega) with h | h | h
      · rw [begS_leaf (t := ⟨op, n⟩) h, HRL.out]
        have h3 : op = 1 ∨ op = 2 ∨ op = 3 := by unfold takes at h; split at h <;> first | assumption | (split at h <;> omega)
        clear h
        rcases h3 with rfl | rfl | rfl
        all_goals
          go_enter Try.func136, Try.ntmps136
          go_wp2_with fail
          go_ret
          exact ⟨rfl, rfl⟩
      · rw [begS_not (t := ⟨op, n⟩) h]
        obtain rfl : op = 11 := by unfold takes at h; split at h <;> first | omega | (split at h <;> first | assumption | omega)
        clear h
        go_enter Try.func136, Try.ntmps136
        go_wp2_with fail
        refine (IH.out e _ _ (by omega) (by omega) (by omega) HL.out).mono ?_
        rintro en w1 ⟨rfl, rfl⟩
        go_wp2_with fail
        go_ret
        exact ⟨rfl, rfl⟩
      · have h3 : ¬ (op = 1 ∨ op = 2 ∨ op = 3) ∧ op ≠ 11 := by
          unfold takes at h
          by_cases g : op = 1 ∨ op = 2 ∨ op = 3
          · rw [if_pos g] at h; omega
          · rw [if_neg g] at h
            by_cases g2 : op = 11
            · rw [if_pos g2] at h; omega
            · exact ⟨g, g2⟩
        have HT := Lib.hid h
        clear h
        have e1 : ((op : Int) == 1) = false := by simp; omega
        have e2 : ((op : Int) == 2) = false := by simp; omega
        have e3 : ((op : Int) == 3) = false := by simp; omega
        have e4 : ((op : Int) == 11) = false := by simp; omega
        clear h3
        have hbd := begS_bd (l.take e).reverse
        have hcase : begS (l.take e).reverse < 0 ∨ ∃ b' : Nat, begS (l.take e).reverse = b' := by
          rcases Int.lt_or_le (begS (l.take e).reverse) 0 with h | h
          · exact .inl h
          · exact .inr ⟨(begS (l.take e).reverse).toNat, by omega⟩
        rcases hcase with hc | ⟨b', hc⟩
        · rw [begS_two_no (t := ⟨op, n⟩) HT.out hc]
          clear HD HRL
          go_enter Try.func136, Try.ntmps136
          go_wp2_with fail
          refine (IH.out e _ _ (by omega) (by omega) (by omega) HL.out).mono ?_
          rintro en w1 ⟨rfl, rfl⟩
          generalize begS (l.take e).reverse = bi at *
          go_wp2_with fail
          go_ret
          exact ⟨rfl, rfl⟩
        · obtain ⟨h5, h6⟩ := begS_two (t := ⟨op, n⟩) HT.out hc
          rw [HRL.out] at h6
          rw [h5, HD.out b' (by omega) (by omega)]
          have HC := Lib.hid hc
          clear hc h5 hbd HD HRL
          go_enter Try.func136, Try.ntmps136
          go_wp2_with fail
          refine (IH.out e _ _ (by omega) (by omega) (by omega) HL.out).mono ?_
          rintro en w1 ⟨rfl, rfl⟩
          rw [HC.out]
          go_wp2_with fail
          refine (IH.out b' _ _ (by omega) (by omega) (by omega) HL.out).mono ?_
          rintro en w1 ⟨rfl, rfl⟩
          go_wp2_with fail
          go_ret
          exact ⟨rfl, rfl⟩

theorem right_cases (op : Nat) (n vars : Int) :
    (op = 0 ∧ right ⟨op, n⟩ vars = false) ∨ (11 < op ∧ right ⟨op, n⟩ vars = false) ∨ (op = 1 ∧ right ⟨op, n⟩ vars = true) ∨ (op = 2 ∧ n < 0 ∧ right ⟨op, n⟩ vars = false) ∨
    (op = 2 ∧ 0 ≤ n ∧ vars ≤ n ∧ right ⟨op, n⟩ vars = false) ∨ (op = 2 ∧ 0 ≤ n ∧ n < vars ∧ right ⟨op, n⟩ vars = true) ∨
    (3 ≤ op ∧ op ≤ 11 ∧ n = 0 ∧ right ⟨op, n⟩ vars = true) ∨ (3 ≤ op ∧ op ≤ 11 ∧ n ≠ 0 ∧ right ⟨op, n⟩ vars = false) := by
  unfold right
  simp only
  by_cases h1 : op = 1
  · simp [h1]
  by_cases h2 : op = 2
  · subst h2
    simp
    omega
  rw [if_neg h1, if_neg h2]
  simp only [decide_eq_true_eq, decide_eq_false_iff_not]
  omega

set_option maxHeartbeats 1600000 in
theorem mayR_any (a : Option Addr) (n cap : Nat) (l : List Tok) (vars : Int) (w : World) (hl : Toks w a n l) :
    Calls Try.prog 116 #[.slice a n cap, .int .i64 vars] w (RetBo w (refMayS l vars)) := by
  have hm := hl.2.1
  unfold maxLen at hm
  obtain rfl := hl.1
  have HL := Lib.hid hl
  have HS := Lib.hid (show refMayS l vars = decide (0 < l.length ∧ l.length ≤ 24 ∧ (∀ t ∈ l, right t vars = true) ∧ begS l.reverse = 0) from rfl)
  have B0 := Lib.hid (Below.refl w.heap.size w)
  have BG := Lib.hid (fun w' (h : Toks w' a l.length l) => begins_any a cap l l.length l.length ((l.length : Int) - 1) w' (Nat.le_refl _) (Nat.le_refl _) (by omega) h)
  clear hl
  by_cases h0 : l.length = 0
  · have hf : refMayS l vars = false := by rw [HS.out, decide_eq_false_iff_not]; rintro ⟨h2, h3, _⟩; omega
    have HF := Lib.hid hf
    have t0 : ((l.length : Int) == 0) = true := by simp [h0]
    clear hf h0
    go_enter Try.func116, Try.ntmps116
    go_wp2_with fail
    go_ret
    exact retBo HF.out.symm B0.out
  have t0 : ((l.length : Int) == 0) = false := by rw [beq_eq_false_iff_ne]; omega
  have H0 := Lib.hid h0
  clear h0
  by_cases h1 : 24 < l.length
  · have hf : refMayS l vars = false := by rw [HS.out, decide_eq_false_iff_not]; rintro ⟨h2, h3, _⟩; omega
    have HF := Lib.hid hf
    clear hf
    go_enter Try.func116, Try.ntmps116
    go_wp2_with fail
    go_ret
    exact retBo HF.out.symm B0.out
  have t1 : ¬ (24 < (l.length : Int)) := by omega
  go_enter Try.func116, Try.ntmps116
  go_wp2_with fail
  go_loopw [17] (fun i wr => ∃ k : Nat, k ≤ l.length ∧ i = .int .i64 k ∧ Hid (∀ t ∈ l.take k, right t vars = true) ∧ Below w.heap.size w wr) (fun i _ => l.length - (intOf i).toNat)
  case atStart => exact ⟨0, Nat.zero_le _, rfl, Lib.hid (by simp), B0.out⟩
  case round =>
    obtain ⟨k, hk, rfl, hg, bl⟩ := hrel
    by_cases hlt : k < l.length
    · obtain ⟨b, o, ha, c0, c1, hok⟩ := (HL.out.mono bl).at k hlt
      have hst : ∀ t ∈ l.take (k + 1), right l[k] vars = true → right t vars = true := by
        intro t ht hr
        rw [List.take_succ_eq_append_getElem hlt] at ht
        rcases List.mem_append.1 ht with h | h
        · exact hg.out t h
        · rw [List.mem_singleton.1 h]; exact hr
      have hmem : l[k] ∈ l := List.getElem_mem _
      have HST := Lib.hid hst
      have HM := Lib.hid hmem
      have hbal := fun o => balloc wr o
      have HB := Lib.hid hbal
      subst ha
      clear hst hmem hbal
      generalize l[k] = t at *
      obtain ⟨op, x⟩ := t
      simp only at c0 c1
      have bad : right ⟨op, x⟩ vars = false → refMayS l vars = false := by
        intro h
        rw [HS.out, decide_eq_false_iff_not]
        rintro ⟨_, _, h2, _⟩
        rw [h2 _ HM.out] at h
        cases h
      have HBAD := Lib.hid bad
      clear bad
      rcases right_cases op x vars with ⟨h2, h3⟩ | ⟨h2, h3⟩ | ⟨h2, h3⟩ | ⟨h2, h3, h4⟩ | ⟨h2, h3, h4, h5⟩ | ⟨h2, h3, h4, h5⟩ | ⟨h2, h3, h4, h5⟩ | ⟨h2, h3, h4, h5⟩
      · subst h2
        have HF := Lib.hid (HBAD.out h3)
        clear h3
        go_wp2_with fail
        go_ret
        exact retBo HF.out.symm (bthen bl (HB.out _))
      · have HF := Lib.hid (HBAD.out h3)
        clear h3
        have d1 : decide ((op : Int) < 1) = false := decide_eq_false (by omega)
        have d2 : decide (11 < (op : Int)) = true := decide_eq_true (by omega)
        go_wp2_with fail
        go_ret
        exact retBo HF.out.symm (bthen bl (HB.out _))
      · subst h2
        have HR := Lib.hid h3
        clear h3
        go_wp2_with fail
        go_roundw
        case rel => exact ⟨k + 1, by omega, by go_num, Lib.hid (fun t ht => HST.out t ht HR.out), bthen bl (HB.out _)⟩
        case measure => simp [intOf]; omega
      · subst h2
        have HF := Lib.hid (HBAD.out h4)
        clear h4
        have d1 : decide (x < 0) = true := decide_eq_true h3
        go_wp2_with fail
        go_ret
        exact retBo HF.out.symm (bthen bl (HB.out _))
      · subst h2
        have HF := Lib.hid (HBAD.out h5)
        clear h5
        have d1 : decide (x < 0) = false := decide_eq_false (by omega)
        have d2 : decide (vars ≤ x) = true := decide_eq_true h4
        go_wp2_with fail
        go_ret
        exact retBo HF.out.symm (bthen bl (HB.out _))
      · subst h2
        have HR := Lib.hid h5
        clear h5
        have d1 : decide (x < 0) = false := decide_eq_false (by omega)
        have d2 : decide (vars ≤ x) = false := decide_eq_false (by omega)
        go_wp2_with fail
        go_roundw
        case rel => exact ⟨k + 1, by omega, by go_num, Lib.hid (fun t ht => HST.out t ht HR.out), bthen bl (HB.out _)⟩
        case measure => simp [intOf]; omega
      · have HR := Lib.hid h5
        clear h5
        have d1 : decide ((op : Int) < 1) = false := decide_eq_false (by omega)
        have d2 : decide (11 < (op : Int)) = false := decide_eq_false (by omega)
        have d3 : ((op : Int) == 2) = false := by simp; omega
        have d4 : decide (2 < (op : Int)) = true := decide_eq_true (by omega)
        subst h4
        go_wp2_with fail
        go_roundw
        case rel => exact ⟨k + 1, by omega, by go_num, Lib.hid (fun t ht => HST.out t ht HR.out), bthen bl (HB.out _)⟩
        case measure => simp [intOf]; omega
      · have HF := Lib.hid (HBAD.out h5)
        clear h5
        have d1 : decide ((op : Int) < 1) = false := decide_eq_false (by omega)
        have d2 : decide (11 < (op : Int)) = false := decide_eq_false (by omega)
        have d3 : ((op : Int) == 2) = false := by simp; omega
        have d4 : decide (2 < (op : Int)) = true := decide_eq_true (by omega)
        have d5 : (x != 0) = true := by simp [h4]
        clear h4
        go_wp2_with fail
        go_ret
        exact retBo HF.out.symm (bthen bl (HB.out _))
    · obtain rfl : k = l.length := by omega
      have hg2 := hg.out
      rw [List.take_length] at hg2
      have HG := Lib.hid hg2
      clear hg2 hg
      go_wp2_with fail
      refine (BG.out _ (HL.out.mono bl)).mono ?_
      rintro en w1 ⟨rfl, rfl⟩
      rw [List.take_length]
      have hfin : refMayS l vars = (begS l.reverse == 0) := by
        rw [HS.out, Bool.eq_iff_iff]
        simp only [decide_eq_true_eq, beq_iff_eq]
        exact ⟨fun h => h.2.2.2, fun h => ⟨by have := H0.out; omega, by omega, HG.out, h⟩⟩
      have HF := Lib.hid hfin
      clear hfin
      generalize begS l.reverse = bi at *
      go_wp2_with fail
      go_ret
      exact retBo HF.out.symm bl
end Ex
end Go.Proofs.Ytniopkoaplkpkaa
