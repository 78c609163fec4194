/- The readers: what a reader is, relative to memory that stands still; the walks of dead, Fail, New, End, Num, Int on a block of the caller's. Conditions: the reader's bytes can be read. -/
import Derived.Test.YtniopkoaplkpkaaReadP
import Derived.Test.YtniopkoaplkpkaaPkM
namespace Go.Proofs.Ytniopkoaplkpkaa
open Go.RowKit
set_option linter.unusedVariables false
set_option linter.unusedSimpArgs false
open Sy (RetV RetM Sub)
/-- a reader: its bytes and its error, in a block -/
def Rd (w : World) (rb : Nat) (l : List UInt8) (e : Nat) : Prop :=
  ∃ a n c, w.heap[rb]? = some (.cells #[.slice a n c, .int .i64 (e : Int)] 100 (0, 0)) ∧ Bytes w a n l ∧ n ≤ c ∧ c ≤ maxLen

namespace Pk

theorem rd_cell0 {w : World} {rb : Nat} {x y : Value} {T : TypeId} (h : w.heap[rb]? = some (.cells #[x, y] T (0, 0))) :
    w.cell? ⟨rb, 0, none⟩ = some x ∧ w.cell? ⟨rb, 1, none⟩ = some y ∧ w.frozen? ⟨rb, 0, none⟩ = false ∧ w.frozen? ⟨rb, 1, none⟩ = false := by
  simp [World.cell?, World.frozen?, h]

theorem rd_set0 {w : World} {rb : Nat} {x y z : Value} {T : TypeId} (h : w.heap[rb]? = some (.cells #[x, y] T (0, 0))) :
    (w.setCell ⟨rb, 0, none⟩ z).heap[rb]? = some (.cells #[z, y] T (0, 0)) := by
  simp [World.setCell, Array.getElem?_modify, h]
theorem rd_set1 {w : World} {rb : Nat} {x y z : Value} {T : TypeId} (h : w.heap[rb]? = some (.cells #[x, y] T (0, 0))) :
    (w.setCell ⟨rb, 1, none⟩ z).heap[rb]? = some (.cells #[x, z] T (0, 0)) := by
  simp [World.setCell, Array.getElem?_modify, h]
theorem grown_set (w : World) (rb o : Nat) (z : Value) : w.grownBy (w.setCell ⟨rb, o, none⟩ z) (some rb) :=
  ⟨rfl, rfl, rfl, by simp [World.setCell], fun k hk hne => Below.heap_setCell w ⟨rb, o, none⟩ z k (fun e => hne (by simp [e]))⟩
theorem grown_refl (w : World) (r : Option Nat) : w.grownBy w r := ⟨rfl, rfl, rfl, Nat.le_refl _, fun _ _ _ => rfl⟩
theorem grown_trans {a b c : World} {r : Option Nat} (h : a.grownBy b r) (k : b.grownBy c r) : a.grownBy c r :=
  ⟨k.os.trans h.os, k.tape.trans h.tape, k.output.trans h.output, Nat.le_trans h.size k.size, fun i hi hne => (k.block i (Nat.lt_of_lt_of_le hi h.size) hne).trans (h.block i hi hne)⟩
theorem grown_below {a b : World} {r : Option Nat} (h : Below a.heap.size a b) : a.grownBy b r := ⟨h.os, h.tape, h.output, h.size, fun i hi _ => h.block i hi⟩

/-- bytes stay where another kind of block is written -/
theorem Bytes.grown {w w' : World} {rb : Nat} {a : Option Addr} {n : Nat} {l : List UInt8} (h : Bytes w a n l) (hg : w.grownBy w' (some rb)) {x y : Value} {T : TypeId} (hr : w.heap[rb]? = some (.cells #[x, y] T (0, 0))) (hx : ∀ k, x ≠ .int .u8 k) (hy : ∀ k, y ≠ .int .u8 k) : Bytes w' a n l := by
  obtain ⟨h1, h2, h3⟩ := h
  refine ⟨h1, h2, ?_⟩
  rcases h3 with h | ⟨b, o, ha, hc⟩
  · exact .inl h
  · refine .inr ⟨b, o, ha, fun i hi => ?_⟩
    have e := hc i hi
    have hne : b ≠ rb := by
      rintro rfl
      simp [World.cell?, hr, bv] at e
      have : o + i < 2 := by
        rcases Nat.lt_or_ge (o + i) 2 with h | h
        · exact h
        · simp [h] at e
      match hoi : o + i, this with
      | 0, _ => rw [hoi] at e; simp at e; exact hx _ e
      | 1, _ => rw [hoi] at e; simp at e; exact hy _ e
    exact hg.cell e (by simpa using hne)

theorem Rd.set1 {w : World} {rb : Nat} {l : List UInt8} {e : Nat} (h : Rd w rb l e) (k : Nat) : Rd (w.setCell ⟨rb, 1, none⟩ (.int .i64 (k : Int))) rb l k := by
  obtain ⟨a, n, c, hh, hb, hn⟩ := h
  exact ⟨a, n, c, rd_set1 hh, Bytes.grown hb (grown_set _ _ _ _) hh (by simp) (by simp), hn⟩

theorem Rd.below {w w' : World} {rb : Nat} {l : List UInt8} {e : Nat} (h : Rd w rb l e) (hb : Below w.heap.size w w') : Rd w' rb l e := by
  obtain ⟨a, n, c, hh, hy, hn⟩ := h
  exact ⟨a, n, c, by rw [hb.block rb (Array.getElem?_eq_some_iff.1 hh).1]; exact hh, hy.mono hb, hn⟩

theorem Rd.lt {w : World} {rb : Nat} {l : List UInt8} {e : Nat} (h : Rd w rb l e) : rb < w.heap.size := by
  obtain ⟨a, n, c, hh, hy, hn⟩ := h
  exact (Array.getElem?_eq_some_iff.1 hh).1

/-- the rest of a list of bytes -/
theorem Bytes.drop {w : World} {b o n : Nat} {l : List UInt8} (h : Bytes w (some ⟨b, o, none⟩) n l) (k : Nat) (hk : k ≤ n) : Bytes w (some ⟨b, o + k, none⟩) (n - k) (l.drop k) := by
  obtain ⟨rfl, h2, h3⟩ := h
  refine ⟨by simp, by simp; omega, ?_⟩
  rcases h3 with h | ⟨b', o', ha, hc⟩
  · left; simp at h; simp [h]
  · simp at ha; obtain ⟨rfl, rfl⟩ := ha
    refine .inr ⟨b, o + k, rfl, fun i hi => ?_⟩
    have := hc (k + i) (by simp at hi ⊢; omega)
    rw [show o + k + i = o + (k + i) from by omega, this]
    simp

/-- a reader whose bytes stand in m -/
def RdM (m w : World) (rb : Nat) (l : List UInt8) (e : Nat) : Prop :=
  Sub m w ∧ (∀ i s, m.cell? ⟨rb, i, s⟩ = none) ∧ ∃ a c, w.heap[rb]? = some (.cells #[.slice a l.length c, .int .i64 (e : Int)] 100 (0, 0)) ∧ Bytes m a l.length l ∧ l.length ≤ c ∧ c ≤ maxLen
theorem RdM.rd {m w : World} {rb : Nat} {l : List UInt8} {e : Nat} (h : RdM m w rb l e) : Rd w rb l e := by
  obtain ⟨h1, _, a, c, h2, h3, h4⟩ := h
  exact ⟨a, l.length, c, h2, h3.sub h1, h4⟩
theorem sub_set {m w : World} {rb : Nat} (h1 : Sub m w) (h2 : ∀ i s, m.cell? ⟨rb, i, s⟩ = none) (o : Nat) (z : Value) : Sub m (w.setCell ⟨rb, o, none⟩ z) := fun p v e => by
  have hp : p.block ≠ rb := fun hb => by
    obtain ⟨pb, po, ps⟩ := p
    subst hb
    rw [h2 po ps] at e
    cases e
  rw [World.cell?_of_block (w := w) (Below.heap_setCell w ⟨rb, o, none⟩ z p.block hp)]
  exact h1 p v e
theorem RdM.set1 {m w : World} {rb : Nat} {l : List UInt8} {e : Nat} (h : RdM m w rb l e) (k : Nat) : RdM m (w.setCell ⟨rb, 1, none⟩ (.int .i64 (k : Int))) rb l k := by
  obtain ⟨h1, h2, a, c, hh, hb, hn⟩ := h
  exact ⟨sub_set h1 h2 _ _, h2, a, c, rd_set1 hh, hb, hn⟩
theorem rdm_after {m w : World} {rb : Nat} {a : Option Addr} {cp e : Nat} {l : List UInt8} (H : RdM m w rb l e) (hh : w.heap[rb]? = some (.cells #[.slice a l.length cp, .int .i64 (e : Int)] 100 (0, 0))) (hnc : l.length ≤ cp ∧ cp ≤ maxLen)
    (j : Nat) (hj : j ≤ l.length) (a' : Option Addr) (cp' : Nat) (hcp : cp' = cp - j) (ha : cp = j ∨ ∃ b o, a = some ⟨b, o, none⟩ ∧ a' = some ⟨b, o + j, none⟩) :
    RdM m (w.setCell ⟨rb, 0, none⟩ (.slice a' (l.length - j) cp')) rb (l.drop j) e ∧ w.grownBy (w.setCell ⟨rb, 0, none⟩ (.slice a' (l.length - j) cp')) (some rb) := by
  subst hcp
  obtain ⟨h1, h2, a0, c0, hh0, hb, _⟩ := H
  rw [hh] at hh0
  simp at hh0
  obtain ⟨rfl, rfl⟩ := hh0
  refine ⟨⟨sub_set h1 h2 _ _, h2, a', cp - j, by rw [List.length_drop]; exact rd_set0 hh, ?_, by simp; omega, by omega⟩, grown_set _ _ _ _⟩
  rw [List.length_drop]
  rcases ha with rfl | ⟨b, o, rfl, rfl⟩
  · rw [List.drop_of_length_le (by omega), show l.length - cp = 0 from by omega]
    exact Bytes.nil _ _
  · exact Bytes.drop hb j hj
theorem dead_any (w : World) (rb : Nat) (l : List UInt8) (e : Nat) (h : Rd w rb l e) :
    Calls Try.prog 108 #[.pointer (some ⟨rb, 0, none⟩)] w fun en w' => en = .returned (.bool ((e : Int) != 0)) ∧ w = w' := by
  obtain ⟨a, n, c, hh, hb, hn⟩ := h
  obtain ⟨h0, h1, f0, f1⟩ := rd_cell0 hh
  go_enter Try.func108, Try.ntmps108
  go_wp2
  go_ret
  exact ⟨rfl, rfl⟩

theorem fail_any (w : World) (rb : Nat) (l : List UInt8) (k : Nat) (h : Rd w rb l 0) :
    Calls Try.prog 67 #[.pointer (some ⟨rb, 0, none⟩), .int .i64 (k : Int)] w fun en w' => en = .returned (.tuple #[]) ∧ w.setCell ⟨rb, 1, none⟩ (.int .i64 (k : Int)) = w' := by
  obtain ⟨a, n, c, hh, hb, hn⟩ := h
  obtain ⟨h0, h1, f0, f1⟩ := rd_cell0 hh
  have hz : ((0 : Nat) : Int) = 0 := rfl
  rw [hz] at h1
  clear hz
  go_enter Try.func67, Try.ntmps67
  go_wp2
  go_end0
  exact ⟨rfl, rfl⟩

theorem end_any (w : World) (rb : Nat) (l : List UInt8) (e : Nat) (h : Rd w rb l e) :
    Calls Try.prog 23 #[.pointer (some ⟨rb, 0, none⟩)] w fun en w' => en = .returned (.int .i64 (endS l e : Int)) ∧ w = w' := by
  obtain ⟨a, n, c, hh, hb, hn⟩ := h
  obtain ⟨h0, h1, f0, f1⟩ := rd_cell0 hh
  have hl := hb.1
  subst hl
  by_cases he : e = 0
  · subst he
    have hz : ((0 : Nat) : Int) = 0 := rfl
    rw [hz] at h1
    clear hz
    by_cases h0 : 0 < l.length
    · have hE : endS l 0 = 4 := by simp [endS, h0]
      rw [hE]
      go_enter Try.func23, Try.ntmps23
      go_wp2
      go_ret
      exact ⟨rfl, rfl⟩
    · have hE : endS l 0 = 0 := by simp [endS, h0]
      rw [hE]
      go_enter Try.func23, Try.ntmps23
      go_wp2
      go_ret
      exact ⟨rfl, rfl⟩
  · have hE : endS l e = e := by simp [endS, he]
    rw [hE]
    have he' : ((e : Int) == 0) = false := by simp; omega
    go_enter Try.func23, Try.ntmps23
    go_wp2
    go_ret
    exact ⟨rfl, rfl⟩

set_option maxRecDepth 100000 in
set_option maxHeartbeats 1000000 in
theorem num_any (M w : World) (rb : Nat) (l : List UInt8) (e : Nat) (most : Int) (h' : RdM M w rb l e) (m0 : 0 ≤ most) (m1 : most ≤ 18446744073709551615) :
    Calls Try.prog 75 #[.pointer (some ⟨rb, 0, none⟩), .int .u64 most] w fun en w' =>
      en = .returned (.int .u64 ((numS most.toNat l e).1 : Int)) ∧ RdM M w' rb (numS most.toNat l e).2.1 (numS most.toNat l e).2.2 ∧ w.grownBy w' (some rb) := by
  have h := h'.rd
  have HM := Lib.hid h'
  clear h'
  by_cases he : e = 0
  · subst he
    have H := h
    obtain ⟨a, n, cp, hh, hb, hnc⟩ := h
    obtain ⟨h0, h1, f0, f1⟩ := rd_cell0 hh
    have hl := hb.1
    subst hl
    have hat := Lib.hid hb.at
    have hm := hb.2.1
    unfold maxLen at hm
    go_enter Try.func75, Try.ntmps75
    go_wp2_with fail
    refine (dead_any _ _ _ _ H).mono ?_
    rintro en w' ⟨rfl, rfl⟩
    go_wp2
    go_loop [5, 6] (fun nv i => ∃ k m : Nat, k ≤ 9 ∧ k ≤ l.length ∧ i = .int .i64 k ∧ nv = .int .u64 m ∧ m < 128 ^ k ∧ numGo most.toNat l 0 0 = numGo most.toNat (l.drop k) k m) (fun _ i => 10 - (intOf i).toNat)
    case atStart => exact ⟨0, 0, by omega, by omega, rfl, rfl, by simp, by simp⟩
    case round =>
      obtain ⟨k, m, hk9, hkl, rfl, rfl, hmk, hgo⟩ := hrel
      have HG := Lib.hid hgo
      clear hgo
      by_cases hlt : k < l.length
      · obtain ⟨b, o, ha, hcell⟩ := hat.out k hlt
        subst ha
        have cb := l[k].toNat_lt
        have hdr : l.drop k = l[k] :: l.drop (k + 1) := List.drop_eq_getElem_cons hlt
        generalize hcl : l[k].toNat = c at *
        have HG2 := HG.out
        rw [hdr] at HG2
        simp only [numGo, hcl] at HG2
        clear hdr hcl HG hat
        have HH := Lib.hid hh
        clear hh
        by_cases hbad : (k = 9 ∧ 1 < c) ∨ (c = 0 ∧ 0 < k)
        · rw [if_pos hbad] at HG2
          have hE : numS most.toNat l 0 = (0, l, 3) := by simp [numS, HG2]
          have HE := Lib.hid hE
          clear hE HG2
          have step : ∀ w' : World, w.setCell ⟨rb, 1, none⟩ (.int .i64 3) = w' → RdM M w' rb (numS most.toNat l 0).2.1 (numS most.toNat l 0).2.2 ∧ w.grownBy w' (some rb) := by
            rintro w' rfl
            rw [HE.out]
            exact ⟨RdM.set1 HM.out 3, grown_set _ _ _ _⟩
          have HS := Lib.hid step
          clear step
          by_cases h9 : k = 9 ∧ 1 < c
          · obtain ⟨rfl, hc1⟩ := h9
            clear hbad
            go_wp2_with fail
            refine (fail_any _ _ _ 3 H).mono ?_
            rintro en w' ⟨rfl, hw⟩
            have HW := Lib.hid hw
            clear hw
            go_wp2
            go_ret
            refine ⟨ret_int ?_, HS.out _ HW.out⟩
            rw [HE.out]; rfl
          · have hc0 : c = 0 ∧ 0 < k := by omega
            obtain ⟨rfl, hk0⟩ := hc0
            clear hbad h9
            rw [show ((0 : Nat) : Int) = 0 from rfl] at hcell
            by_cases k9 : k = 9
            · subst k9
              go_wp2_with fail
              refine (fail_any _ _ _ 3 H).mono ?_
              rintro en w' ⟨rfl, hw⟩
              have HW := Lib.hid hw
              clear hw
              go_wp2
              go_ret
              refine ⟨ret_int ?_, HS.out _ HW.out⟩
              rw [HE.out]; rfl
            · have k9' : ((k : Int) == 9) = false := by simp; omega
              go_wp2_with fail
              refine (fail_any _ _ _ 3 H).mono ?_
              rintro en w' ⟨rfl, hw⟩
              have HW := Lib.hid hw
              clear hw
              go_wp2
              go_ret
              refine ⟨ret_int ?_, HS.out _ HW.out⟩
              rw [HE.out]; rfl
        · rw [if_neg hbad] at HG2
          have hpart := and_not128 c (by omega)
          have hor := Lib.hid (or_part k m c hk9 hmk (by omega))
          by_cases hc : 128 ≤ c
          · rw [if_pos hc] at HG2
            have HG3 := Lib.hid HG2
            clear HG2
            have k9 : k < 9 := by omega
            clear hbad
            go_wp2
            go_round
            case rel => exact ⟨k + 1, m + c % 128 * 128 ^ k, by omega, by omega, by go_num, by rw [hor.out], num_step k m c hmk, HG3.out⟩
            case measure => simp [intOf]; omega
          · rw [if_neg hc] at HG2
            have hns := Lib.hid (num_step k m c hmk)
            have hor' := hor.out
            clear hor
            generalize hn' : m + c % 128 * 128 ^ k = m' at *
            clear hn'
            by_cases hmost : most.toNat < m'
            · rw [if_pos hmost] at HG2
              have hE : numS most.toNat l 0 = (0, l, 6) := by simp [numS, HG2]
              have HE := Lib.hid hE
              clear hE HG2
              have hmi : most < (m' : Int) := by omega
              clear hmost
              have step : ∀ w' : World, w.setCell ⟨rb, 1, none⟩ (.int .i64 6) = w' → RdM M w' rb (numS most.toNat l 0).2.1 (numS most.toNat l 0).2.2 ∧ w.grownBy w' (some rb) := by
                rintro w' rfl
                rw [HE.out]
                exact ⟨RdM.set1 HM.out 6, grown_set _ _ _ _⟩
              have HS := Lib.hid step
              clear step
              rcases (show (k = 9 ∧ c = 1) ∨ (k ≠ 9 ∧ c = 0 ∧ k = 0) ∨ (k ≠ 9 ∧ c ≠ 0) by omega) with ⟨u1, u2⟩ | ⟨u1, u2, u3⟩ | ⟨u1, u2⟩
              · have f1' : ((k : Int) == 9) = true := by simp; omega
                have f2' : ¬ (1 < (c : Int)) := by omega
                have f3' : ((c : Int) == 0) = false := by simp; omega
                clear u1 u2 hbad
                go_wp2_with fail
                refine (fail_any _ _ _ 6 H).mono ?_
                rintro en w' ⟨rfl, hw⟩
                have HW := Lib.hid hw
                clear hw
                go_wp2
                go_ret
                refine ⟨ret_int ?_, HS.out _ HW.out⟩
                rw [HE.out]; rfl
              · have f1' : ((k : Int) == 9) = false := by simp; omega
                have f2' : ((c : Int) == 0) = true := by simp; omega
                have f3' : ¬ (0 < (k : Int)) := by omega
                clear u1 u2 u3 hbad
                go_wp2_with fail
                refine (fail_any _ _ _ 6 H).mono ?_
                rintro en w' ⟨rfl, hw⟩
                have HW := Lib.hid hw
                clear hw
                go_wp2
                go_ret
                refine ⟨ret_int ?_, HS.out _ HW.out⟩
                rw [HE.out]; rfl
              · have f1' : ((k : Int) == 9) = false := by simp; omega
                have f2' : ((c : Int) == 0) = false := by simp; omega
                clear u1 u2 hbad
                go_wp2_with fail
                refine (fail_any _ _ _ 6 H).mono ?_
                rintro en w' ⟨rfl, hw⟩
                have HW := Lib.hid hw
                clear hw
                go_wp2
                go_ret
                refine ⟨ret_int ?_, HS.out _ HW.out⟩
                rw [HE.out]; rfl
            · rw [if_neg hmost] at HG2
              have hE : numS most.toNat l 0 = (m', l.drop (k + 1), 0) := by simp [numS, HG2]
              have HE := Lib.hid hE
              clear hE HG2
              have hmi : ¬ most < (m' : Int) := by omega
              clear hmost
              rcases (show (k = 9 ∧ c = 1) ∨ (k ≠ 9 ∧ c = 0 ∧ k = 0) ∨ (k ≠ 9 ∧ c ≠ 0) by omega) with ⟨u1, u2⟩ | ⟨u1, u2, u3⟩ | ⟨u1, u2⟩
              · have f1' : ((k : Int) == 9) = true := by simp; omega
                have f2' : ¬ (1 < (c : Int)) := by omega
                have f3' : ((c : Int) == 0) = false := by simp; omega
                clear u1 u2 hbad
                go_wp2
                all_goals
                  go_ret
                  refine ⟨ret_int (by rw [HE.out]), ?_⟩
                  rw [HE.out]
                · have hcap : cp = k + 1 := by assumption
                  exact rdm_after HM.out HH.out hnc (k + 1) hlt _ _ (by omega) (.inl hcap)
                · exact rdm_after HM.out HH.out hnc (k + 1) hlt _ _ rfl (.inr ⟨b, o, rfl, rfl⟩)
              · have f1' : ((k : Int) == 9) = false := by simp; omega
                have f2' : ((c : Int) == 0) = true := by simp; omega
                have f3' : ¬ (0 < (k : Int)) := by omega
                clear u1 u2 u3 hbad
                go_wp2
                all_goals
                  go_ret
                  refine ⟨ret_int (by rw [HE.out]), ?_⟩
                  rw [HE.out]
                · have hcap : cp = k + 1 := by assumption
                  exact rdm_after HM.out HH.out hnc (k + 1) hlt _ _ (by omega) (.inl hcap)
                · exact rdm_after HM.out HH.out hnc (k + 1) hlt _ _ rfl (.inr ⟨b, o, rfl, rfl⟩)
              · have f1' : ((k : Int) == 9) = false := by simp; omega
                have f2' : ((c : Int) == 0) = false := by simp; omega
                clear u1 u2 hbad
                go_wp2
                all_goals
                  go_ret
                  refine ⟨ret_int (by rw [HE.out]), ?_⟩
                  rw [HE.out]
                · have hcap : cp = k + 1 := by assumption
                  exact rdm_after HM.out HH.out hnc (k + 1) hlt _ _ (by omega) (.inl hcap)
                · exact rdm_after HM.out HH.out hnc (k + 1) hlt _ _ rfl (.inr ⟨b, o, rfl, rfl⟩)
      · have hE : numS most.toNat l 0 = (0, l, 2) := by
          have e1 := HG.out
          rw [List.drop_of_length_le (by omega)] at e1
          simp [numS, e1, numGo]
        have HE := Lib.hid hE
        clear hE
        go_wp2_with fail
        refine (fail_any _ _ _ 2 H).mono ?_
        rintro en w' ⟨rfl, rfl⟩
        go_wp2
        go_ret
        rw [HE.out]
        exact ⟨rfl, RdM.set1 HM.out 2, grown_set _ _ _ _⟩
  · have hE : numS most.toNat l e = (0, l, e) := numS_bad he
    rw [hE]
    clear hE
    have he' : ((e : Int) != 0) = true := by simp; omega
    have H := HM
    go_enter Try.func75, Try.ntmps75
    go_wp2_with fail
    refine (dead_any _ _ _ _ h).mono ?_
    rintro en w' ⟨rfl, rfl⟩
    go_wp2
    go_ret
    exact ⟨rfl, H.out, grown_refl _ _⟩
end Pk
namespace Sy
section
variable {E : Ext} {P : Program} {tab : List (Nat × Ty)} {fl : List Nat} {a : Act} {n : Nat} {ts : List (Nat × Value)} {w : World} {ty : TypeId} {pos : String} {af : Array Edge}
  {ops : Array Oper} {Q : Exit → Act → World → Prop} {rest : List Oper} {c : Cx} {m : World} {bs bs' : List Blk} {X : List Nat} {r : Ot} {i : Nat}
/-- a call that is handed the block g begins so -/
theorem MemE.reX {g : Nat} {cs : List Value} {t : TypeId} (F : MemE E c m bs w) (hk : Take bs g cs t bs') : Mem ⟨w, [g], m⟩ m [⟨g, cs, t⟩] w :=
  Mem.startX F.sub (F.get hk) (F.own ⟨g, cs, t⟩ (hk.perm.symm.subset (by simp))).2.2
theorem keptX {g : Nat} {w w' : World} (h : Kept [g] w w') (hX : g ∈ X) : BelowX X w.heap.size w w' := ⟨h.os, h.tape, h.output, h.size, fun k hk hx => h.block k hk fun hm => hx (by
  simp at hm
  exact hm ▸ hX)⟩
theorem sx_callX [S : Seat P tab fl] {d : Nat} {f : FuncId} {args : List Operand} {ats : Array TypeId} {vs : List Value} {g : Nat} {cs : List Value} {t : TypeId} {R : World → Value → List Value → Prop} (hi' : nthO ops i = some ⟨some d, .call { callee := .value (.func f), args := args.toArray, argTypes := ats }, ty, pos, af, none⟩) (T : Tm a n ts) (F : MemE E c m bs w) (hc : Calls P f vs.toArray w (RetX m w g t R)) (hX : g ∈ X := by simp) (hk : Take bs g cs t bs' := by repeat (first | exact Go.Proofs.Ytniopkoaplkpkaa.Sy.Take.here | apply Go.Proofs.Ytniopkoaplkpkaa.Sy.Take.there))
    (hfl : fl.contains f = true := by exact rfl) (ha : evs ts args = some vs := by exact rfl) (hd : Nat.blt d n = true := by exact rfl)
    (h : ∀ v m' cs' a' w', R m' v cs' → Sub m m' → Tm a' n ((d, v) :: ts) → MemE E c m' (⟨g, cs', t⟩ :: bs') w' → wpUx P X ops Q r w'.heap.size w' a' w') : wpUx P X ops Q (.h i r) w.heap.size w a w :=
  sx_hole hi' rfl fun K hK => st_call (R := RetX m w g t R) (us := []) (ks := []) T rfl hfl ha hd (by simpa using hc) fun e w' ⟨v, m', cs', he, hb, h1, h2, h3, hg, hr⟩ => ⟨v, he, fun a' T' => atK (hK _ _ (keptX hb hX) (h v m' cs' a' w' hr h1 T' (F.afterX hk hb h1 h2 h3 hg)))⟩
/-- a closure that writes the block g -/
theorem st_callXc [S : Seat P tab fl] {d : Nat} {fx : Operand} {f : FuncId} {args : List Operand} {ats : Array TypeId} {us vs ks : List Value} {g : Nat} {cs : List Value} {t : TypeId} {R : World → Value → List Value → Prop} (T : Tm a n ts) (F : MemE E c m bs w) (hf : ev ts fx = some (.func (.func f) us.toArray ks.toArray)) (hfl : fl.contains f = true) (hc : Calls P f (us ++ vs ++ ks).toArray w (RetX m w g t R)) (hk : Take bs g cs t bs' := by repeat (first | exact Go.Proofs.Ytniopkoaplkpkaa.Sy.Take.here | apply Go.Proofs.Ytniopkoaplkpkaa.Sy.Take.there))
    (ha : evs ts args = some vs := by exact rfl) (hd : Nat.blt d n = true := by exact rfl)
    (h : ∀ v m' cs' a' w', R m' v cs' → Sub m m' → Tm a' n ((d, v) :: ts) → MemE E c m' (⟨g, cs', t⟩ :: bs') w' → wpList P ops Q rest a' w') :
    wpList P ops Q (⟨some d, .call { callee := .value fx, args := args.toArray, argTypes := ats }, ty, pos, af, none⟩ :: rest) a w :=
  st_call (R := RetX m w g t R) T hf hfl ha hd hc fun e w' ⟨v, m', cs', he, hb, h1, h2, h3, hg, hr⟩ => ⟨v, he, fun a' T' => h v m' cs' a' w' hr h1 T' (F.afterX hk hb h1 h2 h3 hg)⟩
/-- a call made a block, and memory that stands, and hands back where it lies -/
def RetQ (m w : World) (t : TypeId) (R : World → List Value → Prop) (e : Ending) (w' : World) : Prop :=
  ∃ g m' cs, e = .returned (.pointer (some ⟨g, 0, none⟩)) ∧ Below w.heap.size w w' ∧ Sub m m' ∧ Sub m' w' ∧ (∀ p u, p.block < w.heap.size → m'.cell? p = some u → m.cell? p = some u) ∧ w.heap.size ≤ g ∧ w'.heap[g]? = some (.cells cs.toArray t (0, 0)) ∧ (∀ i s, m'.cell? ⟨g, i, s⟩ = none) ∧ R m' cs
theorem MemE.retQ {W m0 : World} {g : Nat} {cs : List Value} {t : TypeId} {R : World → List Value → Prop} (F : MemE E ⟨W, [], m0⟩ m bs w) (hk : Take bs g cs t bs') (h : R m cs) : RetQ m0 W t R (.returned (.pointer (some ⟨g, 0, none⟩))) w := by
  have ho := F.own ⟨g, cs, t⟩ (hk.perm.symm.subset (by simp))
  exact ⟨g, m, cs, rfl, F.end_, F.sub0, F.sub, F.fresh, ho.1.resolve_right (by simp), ho.2.1, ho.2.2, h⟩
theorem st_callQ [S : Seat P tab fl] {d : Nat} {f : FuncId} {args : List Operand} {ats : Array TypeId} {vs : List Value} {t : TypeId} {R : World → List Value → Prop} (T : Tm a n ts) (F : MemE E c m bs w) (hc : Calls P f vs.toArray w (RetQ m w t R))
    (hfl : fl.contains f = true := by exact rfl) (ha : evs ts args = some vs := by exact rfl) (hd : Nat.blt d n = true := by exact rfl)
    (h : ∀ g m' cs a' w', R m' cs → Sub m m' → Tm a' n ((d, .pointer (some ⟨g, 0, none⟩)) :: ts) → MemE E c m' (⟨g, cs, t⟩ :: bs) w' → wpList P ops Q rest a' w') :
    wpList P ops Q (⟨some d, .call { callee := .value (.func f), args := args.toArray, argTypes := ats }, ty, pos, af, none⟩ :: rest) a w :=
  st_call (R := RetQ m w t R) (us := []) (ks := []) T rfl hfl ha hd (by simpa using hc) fun e w' ⟨g, m', cs, he, hb, h1, h2, h3, hge, hg, hn, hr⟩ => ⟨_, he, fun a' T' => h g m' cs a' w' hr h1 T' (by
    have F' := F.after hb h1 h2 h3
    refine ⟨F'.kept, F'.sub0, F'.sub, F'.fresh, fun b hbm => ?_, ?_, F'.ext, fun k hk => ⟨(F'.loose k hk).1, fun hm => ?_, (F'.loose k hk).2.2⟩⟩
    · rcases List.mem_cons.1 hbm with rfl | hbm
      · exact ⟨.inl (Nat.le_trans F.size hge), hg, hn⟩
      · exact F'.own b hbm
    · rw [List.map_cons, List.nodup_cons]
      refine ⟨fun hm => ?_, F'.nodup⟩
      obtain ⟨b, hbm, he⟩ := List.mem_map.1 hm
      have h1 := F.lt hbm
      have h2 : b.adr = g := he
      omega
    · rcases List.mem_cons.1 hm with h | h
      · have := E.dom w k F.ext hk
        simp only at h
        omega
      · exact (F'.loose k hk).2.1 h)⟩
end
end Sy
namespace Pk
/-- the cells of a reader -/
def RdC (m : World) (s : List UInt8 × Nat) (cs : List Value) : Prop := ∃ a cp, cs = [.slice a s.1.length cp, .int .i64 (s.2 : Int)] ∧ Bytes m a s.1.length s.1 ∧ s.1.length ≤ cp ∧ cp ≤ maxLen
theorem RdC.sub {m m' : World} {s : List UInt8 × Nat} {cs : List Value} (h : RdC m s cs) (hs : Sub m m') : RdC m' s cs := by
  obtain ⟨a, cp, h1, h2, h3⟩ := h
  exact ⟨a, cp, h1, h2.sub hs, h3⟩
/-- what a call on a reader begins with -/
structure RdX (m w : World) (g : Nat) (s : List UInt8 × Nat) (cs : List Value) : Prop where
  F : Sy.Mem ⟨w, [g], m⟩ m [⟨g, cs, 100⟩] w
  c : RdC m s cs
theorem RdX.rdM {m w : World} {g : Nat} {s : List UInt8 × Nat} {cs : List Value} (h : RdX m w g s cs) : RdM m w g s.1 s.2 := by
  obtain ⟨a, cp, rfl, h2, h3⟩ := h.c
  have ho := h.F.own ⟨g, _, _⟩ (List.mem_cons_self ..)
  exact ⟨h.F.sub, ho.2.2, a, cp, ho.2.1, h2, h3⟩
/-- a value, and the reader behind it -/
def RetR {α : Type} (m w : World) (g : Nat) (R : World → Value → α → Prop) (x : α × (List UInt8 × Nat)) : Ending → World → Prop := Sy.RetX m w g 100 fun m' v cs' => R m' v x.1 ∧ RdC m' x.2 cs'
theorem retR_of {α : Type} {m w w' : World} {g : Nat} {R : World → Value → α → Prop} {x : α × (List UInt8 × Nat)} {v : Value} (hm : ∃ l e, RdM m w g l e) (h : RdM m w' g x.2.1 x.2.2) (hg : w.grownBy w' (some g)) (hv : R m v x.1) : RetR m w g R x (.returned v) w' := by
  obtain ⟨h1, h2, a, c, hh, hb, hn⟩ := h
  refine ⟨v, m, _, rfl, ⟨hg.os, hg.tape, hg.output, hg.size, fun k hk hx => hg.block k hk (fun e => hx (by simp at e; simp [e]))⟩, Sy.Sub.refl m, h1, fun _ _ _ e => e, hh, hv, a, c, rfl, hb, hn⟩
def U64V (_ : World) (v : Value) (n : Nat) : Prop := v = .int .u64 (n : Int)
theorem num_r {m w : World} {g : Nat} {s : List UInt8 × Nat} {cs : List Value} (most : Nat) (hm : most ≤ 18446744073709551615) (h : RdX m w g s cs) :
    Calls Try.prog 75 #[.pointer (some ⟨g, 0, none⟩), .int .u64 (most : Int)] w (RetR m w g U64V (numS most s.1 s.2)) := by
  have h' := h.rdM
  refine (num_any m w g s.1 s.2 (most : Int) h' (by omega) (by omega)).mono ?_
  rintro en w' ⟨rfl, h2, h3⟩
  rw [Int.toNat_natCast] at h2 ⊢
  exact retR_of ⟨_, _, h'⟩ h2 h3 rfl
theorem end_r {m w : World} {g : Nat} {s : List UInt8 × Nat} {cs : List Value} (h : RdX m w g s cs) :
    Calls Try.prog 23 #[.pointer (some ⟨g, 0, none⟩)] w (RetV w (.int .i64 (endS s.1 s.2 : Int))) := by
  refine (end_any w g s.1 s.2 h.rdM.rd).mono ?_
  rintro en w' ⟨rfl, rfl⟩
  exact ⟨rfl, Below.refl _ _⟩
/-- a failure is noted, if there was none -/
def failS (k : Nat) (s : List UInt8 × Nat) : List UInt8 × Nat := (s.1, if s.2 = 0 then k else s.2)
theorem fail_r {m w : World} {g : Nat} {s : List UInt8 × Nat} {cs : List Value} (k : Nat) (h : RdX m w g s cs) :
    Calls Try.prog 67 #[.pointer (some ⟨g, 0, none⟩), .int .i64 (k : Int)] w (RetR m w g (fun _ v _ => v = .tuple #[]) ((), failS k s)) := by
  have h' := h.rdM
  obtain ⟨l, e⟩ := s
  by_cases he : e = 0
  · subst he
    refine (fail_any w g l k h'.rd).mono ?_
    rintro en w' ⟨rfl, rfl⟩
    refine retR_of ⟨_, _, h'⟩ ?_ (grown_set _ _ _ _) rfl
    simp only [failS, if_true]
    exact RdM.set1 h' k
  · have HM := Lib.hid h'
    obtain ⟨a, n, c, hh, hb, hn⟩ := h'.rd
    obtain ⟨h0, h1, f0, f1⟩ := rd_cell0 hh
    have he' : ((e : Int) == 0) = false := by simp; omega
    simp only [failS, he, if_false]
    clear h' he
    go_enter Try.func67, Try.ntmps67
    go_wp2
    go_end0
    exact retR_of ⟨_, _, HM.out⟩ HM.out (grown_refl _ _) rfl

theorem zag_eq (n : Nat) (h : n ≤ 18446744073709551615) : bits .xor .i64 ((n : Int) / 2) (wrap64 (-wrap64 (bits .and .u64 (n : Int) 1))) = zag n := by
  rw [show (1 : Int) = ((1 : Nat) : Int) from rfl, u64_and_nat n 1 (by omega) (by omega), Nat.and_one_is_mod]
  have hx : (n : Int) / 2 = ((n / 2 : Nat) : Int) := by omega
  rw [hx]
  have hlt : n / 2 < 9223372036854775808 := by omega
  unfold zag
  by_cases h1 : n % 2 = 1
  · rw [h1, if_pos rfl]
    have e : wrap64 (-wrap64 ((1 : Nat) : Int)) = -1 := by simp only [wrap64]; omega
    rw [e]
    generalize n / 2 = m at *
    show IntKind.i64.wrap (((BitVec.ofInt 64 (m : Int) ^^^ BitVec.ofInt 64 (-1)).toNat : Nat) : Int) = _
    have ea : BitVec.ofInt 64 (-1) = BitVec.allOnes 64 := by decide
    have em : (BitVec.ofInt 64 (m : Int)).toNat = m := by simp; omega
    rw [ea, BitVec.xor_allOnes, BitVec.toNat_not, em, IntKind.wrap_i64]
    omega
  · rw [show n % 2 = 0 from by omega, if_neg (by omega)]
    have e : wrap64 (-wrap64 ((0 : Nat) : Int)) = 0 := by simp only [wrap64]; omega
    rw [e]
    generalize n / 2 = m at *
    show IntKind.i64.wrap (((BitVec.ofInt 64 (m : Int) ^^^ BitVec.ofInt 64 0).toNat : Nat) : Int) = _
    have em : (BitVec.ofInt 64 (m : Int)).toNat = m := by simp; omega
    rw [show BitVec.ofInt 64 0 = 0#64 from rfl, BitVec.xor_zero, em, IntKind.wrap_i64]
    omega


set_option maxRecDepth 20000 in
theorem new_r (m W : World) (hs : Sub m W) {a : Option Addr} {cap : Nat} {l : List UInt8} (hb : Bytes m a l.length l) (hl : l.length ≤ 70368744177664) :
    Calls Try.prog 20 #[.slice a l.length cap] W (Sy.RetQ m W 100 fun m' cs => RdC m' (l, 0) cs) := by
  have F := Sy.Mem.start hs
  refine Sy.enter Try.func20 rfl Try.ntmps20 rfl ?_; intro ac T; simp only [Sy.enum, Nat.zero_add, Nat.reduceAdd] at T
  repeat (first
    | (((with_reducible refine Sy.is_box ?_); (first | refine Sy.st_boxAgg T F (h := ?_) | refine Sy.st_boxOne T F (h := ?_)); clear T F; intro ac g w T F))
    | (((with_reducible refine Sy.is_build ?_); refine Sy.st_build T (h := ?_); (conv => whnf); (repeat (refine ⟨by first | exact rfl | exact ⟨rfl, rfl⟩, ?_⟩; (conv => whnf))); clear T; intro ac T))
    | (((with_reducible refine Sy.is_op ?_); refine Sy.st_pure T (h := ?_); clear T; intro ac T))
    | ((with_reducible refine Sy.atK (hK _ _ ?_)))
    | ((with_reducible refine Sy.is_cond ?_); (first | refine Sy.st_true T (h := ?_) | refine Sy.st_false T (h := ?_)))
    | (with_reducible refine wpList_nil ?_)
    | (with_reducible refine wp_region_lit ?_)
    | (with_reducible refine wp_block ?_)
    | (with_reducible refine wp_skip ?_)
    | (with_reducible refine wp_exit ?_)
    | (with_reducible refine wp_ret ?_)
    | ((with_reducible refine wp_seq_k ?_); intro _ _)
    | (go_at_K; go_step)
    | (simp only [Exit.then, Exit.inBlock, ↓reduceIte, Nat.reduceEqDiff]))
  refine Sy.st_callM0 T F (hc := callsF hs (l := l) ((clone_any a l.length cap l W (hb.sub hs) hl).mono fun _ _ r => retF_B r)) (h := ?_); (clear T F; intro v m ac w hR hS T F)
  obtain ⟨ca, cc, rfl, hcb, hc1, hc2, _⟩ := hR
  repeat (first
    | (((with_reducible refine Sy.is_box ?_); (first | refine Sy.st_boxAgg T F (h := ?_) | refine Sy.st_boxOne T F (h := ?_)); clear T F; intro ac g w T F))
    | (((with_reducible refine Sy.is_build ?_); refine Sy.st_build T (h := ?_); (conv => whnf); (repeat (refine ⟨by first | exact rfl | exact ⟨rfl, rfl⟩, ?_⟩; (conv => whnf))); clear T; intro ac T))
    | (((with_reducible refine Sy.is_op ?_); refine Sy.st_pure T (h := ?_); clear T; intro ac T))
    | ((with_reducible refine Sy.atK (hK _ _ ?_)))
    | ((with_reducible refine Sy.is_cond ?_); (first | refine Sy.st_true T (h := ?_) | refine Sy.st_false T (h := ?_)))
    | (with_reducible refine wpList_nil ?_)
    | (with_reducible refine wp_region_lit ?_)
    | (with_reducible refine wp_block ?_)
    | (with_reducible refine wp_skip ?_)
    | (with_reducible refine wp_exit ?_)
    | (with_reducible refine wp_ret ?_)
    | ((with_reducible refine wp_seq_k ?_); intro _ _)
    | (go_at_K; go_step)
    | (simp only [Exit.then, Exit.inBlock, ↓reduceIte, Nat.reduceEqDiff]))
  ((try simp only [Exit.inBlock, Exit.then]); refine Sy.st_ret1 T F rfl (by repeat (first | exact Sy.ResV.nil | apply Sy.ResV.tmp rfl | apply Sy.ResV.row rfl rfl rfl (by repeat (first | exact Sy.Take.here | apply Sy.Take.there)) (by rfl) | apply Sy.ResV.one rfl rfl rfl (by repeat (first | exact Sy.Take.here | apply Sy.Take.there)) (by rfl))) ?_)
  exact F.retQ Sy.Take.here ⟨ca, cc, rfl, hcb, hc1, hc2⟩
def I64V (_ : World) (v : Value) (n : Int) : Prop := v = .int .i64 n
/-- a whole number -/
def intS (s : List UInt8 × Nat) : Int × (List UInt8 × Nat) := (zag (numS 18446744073709551615 s.1 s.2).1, (numS 18446744073709551615 s.1 s.2).2)
theorem int_r {m W : World} {g : Nat} {s : List UInt8 × Nat} {cs : List Value} (h : RdX m W g s cs) :
    Calls Try.prog 60 #[.pointer (some ⟨g, 0, none⟩)] W (RetR m W g I64V (intS s)) := by
  have h' := h.rdM
  have HM := Lib.hid h'
  have hle := (numS_le (most := 18446744073709551615) (by omega) s.1 s.2).1
  clear h
  unfold intS
  go_enter Try.func60, Try.ntmps60
  go_wp2_with fail
  refine (num_any m W g s.1 s.2 _ h' (by omega) (by omega)).mono ?_
  rintro en w' ⟨rfl, hr, hg⟩
  have HR := Lib.hid hr
  have HG := Lib.hid hg
  clear h' hr hg
  simp only [show Int.toNat 18446744073709551615 = 18446744073709551615 from rfl] at HR ⊢
  generalize hq : numS 18446744073709551615 s.1 s.2 = q at *
  have hz := zag_eq _ hle
  have HZ := Lib.hid hz
  clear hz
  go_wp2
  go_ret
  rw [HZ.out]
  exact retR_of ⟨_, _, HM.out⟩ HR.out HG.out rfl
end Pk
end Go.Proofs.Ytniopkoaplkpkaa
