/- The walks of a reader: New, dead, Fail, End, Num, Int, Row. Conditions: the reader lies in a block of its own; its bytes can be read. -/
import Derived.Test.YtcmmnfeodmjpkaaReadP
import Derived.Test.YtcmmnfeodmjpkaaPackW
namespace Go.Proofs.Ytcmmnfeodmjpkaa
open Go.RowKit
set_option linter.unusedVariables false

/-- a reader: its bytes and its error, in a block -/
def Rd (w : World) (rb : Nat) (l : List UInt8) (e : Nat) : Prop :=
  ∃ a n c, w.heap[rb]? = some (.cells #[.slice a n c, .int .i64 (e : Int)] 80 (0, 0)) ∧ Bytes w a n l ∧ n ≤ c ∧ c ≤ maxLen

namespace Pk

theorem rd_cell0 {w : World} {rb : Nat} {x y : Value} {T : TypeId} (h : w.heap[rb]? = some (.cells #[x, y] T (0, 0))) :
    w.cell? ⟨rb, 0, none⟩ = some x ∧ w.cell? ⟨rb, 1, none⟩ = some y ∧ w.frozen? ⟨rb, 0, none⟩ = false ∧ w.frozen? ⟨rb, 1, none⟩ = false := by
  simp [World.cell?, World.frozen?, h]

theorem rd_set0 {w : World} {rb : Nat} {x y z : Value} {T : TypeId} (h : w.heap[rb]? = some (.cells #[x, y] T (0, 0))) :
    (w.setCell ⟨rb, 0, none⟩ z).heap[rb]? = some (.cells #[z, y] T (0, 0)) := by
  simp [World.setCell, Array.getElem?_modify, h]
theorem rd_set1 {w : World} {rb : Nat} {x y z : Value} {T : TypeId} (h : w.heap[rb]? = some (.cells #[x, y] T (0, 0))) :
    (w.setCell ⟨rb, 1, none⟩ z).heap[rb]? = some (.cells #[x, z] T (0, 0)) := by
  simp [World.setCell, Array.getElem?_modify, h]
theorem grown_set (w : World) (rb o : Nat) (z : Value) : w.grownBy (w.setCell ⟨rb, o, none⟩ z) (some rb) :=
  ⟨rfl, rfl, rfl, by simp [World.setCell], fun k hk hne => Below.heap_setCell w ⟨rb, o, none⟩ z k (fun e => hne (by simp [e]))⟩
theorem grown_refl (w : World) (r : Option Nat) : w.grownBy w r := ⟨rfl, rfl, rfl, Nat.le_refl _, fun _ _ _ => rfl⟩
theorem grown_trans {a b c : World} {r : Option Nat} (h : a.grownBy b r) (k : b.grownBy c r) : a.grownBy c r :=
  ⟨k.os.trans h.os, k.tape.trans h.tape, k.output.trans h.output, Nat.le_trans h.size k.size, fun i hi hne => (k.block i (Nat.lt_of_lt_of_le hi h.size) hne).trans (h.block i hi hne)⟩
theorem grown_below {a b : World} {r : Option Nat} (h : Below a.heap.size a b) : a.grownBy b r := ⟨h.os, h.tape, h.output, h.size, fun i hi _ => h.block i hi⟩

/-- bytes stay where another kind of block is written -/
theorem Bytes.grown {w w' : World} {rb : Nat} {a : Option Addr} {n : Nat} {l : List UInt8} (h : Bytes w a n l) (hg : w.grownBy w' (some rb)) {x y : Value} {T : TypeId} (hr : w.heap[rb]? = some (.cells #[x, y] T (0, 0))) (hx : ∀ k, x ≠ .int .u8 k) (hy : ∀ k, y ≠ .int .u8 k) : Bytes w' a n l := by
  obtain ⟨h1, h2, h3⟩ := h
  refine ⟨h1, h2, ?_⟩
  rcases h3 with h | ⟨b, o, ha, hc⟩
  · exact .inl h
  · refine .inr ⟨b, o, ha, fun i hi => ?_⟩
    have e := hc i hi
    have hne : b ≠ rb := by
      rintro rfl
      simp [World.cell?, hr, bv] at e
      have : o + i < 2 := by
        rcases Nat.lt_or_ge (o + i) 2 with h | h
        · exact h
        · simp [h] at e
      match hoi : o + i, this with
      | 0, _ => rw [hoi] at e; simp at e; exact hx _ e
      | 1, _ => rw [hoi] at e; simp at e; exact hy _ e
    exact hg.cell e (by simpa using hne)

theorem Rd.set1 {w : World} {rb : Nat} {l : List UInt8} {e : Nat} (h : Rd w rb l e) (k : Nat) : Rd (w.setCell ⟨rb, 1, none⟩ (.int .i64 (k : Int))) rb l k := by
  obtain ⟨a, n, c, hh, hb, hn⟩ := h
  exact ⟨a, n, c, rd_set1 hh, Bytes.grown hb (grown_set _ _ _ _) hh (by simp) (by simp), hn⟩

theorem Rd.below {w w' : World} {rb : Nat} {l : List UInt8} {e : Nat} (h : Rd w rb l e) (hb : Below w.heap.size w w') : Rd w' rb l e := by
  obtain ⟨a, n, c, hh, hy, hn⟩ := h
  exact ⟨a, n, c, by rw [hb.block rb (Array.getElem?_eq_some_iff.1 hh).1]; exact hh, hy.mono hb, hn⟩

theorem Rd.lt {w : World} {rb : Nat} {l : List UInt8} {e : Nat} (h : Rd w rb l e) : rb < w.heap.size := by
  obtain ⟨a, n, c, hh, hy, hn⟩ := h
  exact (Array.getElem?_eq_some_iff.1 hh).1

/-- the rest of a list of bytes -/
theorem Bytes.drop {w : World} {b o n : Nat} {l : List UInt8} (h : Bytes w (some ⟨b, o, none⟩) n l) (k : Nat) (hk : k ≤ n) : Bytes w (some ⟨b, o + k, none⟩) (n - k) (l.drop k) := by
  obtain ⟨rfl, h2, h3⟩ := h
  refine ⟨by simp, by simp; omega, ?_⟩
  rcases h3 with h | ⟨b', o', ha, hc⟩
  · left; simp at h; simp [h]
  · simp at ha; obtain ⟨rfl, rfl⟩ := ha
    refine .inr ⟨b, o + k, rfl, fun i hi => ?_⟩
    have := hc (k + i) (by simp at hi ⊢; omega)
    rw [show o + k + i = o + (k + i) from by omega, this]
    simp

/-- a reader whose first j bytes are taken -/
theorem rd_after {w : World} {rb : Nat} {a : Option Addr} {cp e : Nat} {l : List UInt8} (hh : w.heap[rb]? = some (.cells #[.slice a l.length cp, .int .i64 (e : Int)] 80 (0, 0))) (hb : Bytes w a l.length l) (hnc : l.length ≤ cp ∧ cp ≤ maxLen)
    (j : Nat) (hj : j ≤ l.length) (a' : Option Addr) (cp' : Nat) (hcp : cp' = cp - j) (ha : cp = j ∨ ∃ b o, a = some ⟨b, o, none⟩ ∧ a' = some ⟨b, o + j, none⟩) :
    Rd (w.setCell ⟨rb, 0, none⟩ (.slice a' (l.length - j) cp')) rb (l.drop j) e ∧ w.grownBy (w.setCell ⟨rb, 0, none⟩ (.slice a' (l.length - j) cp')) (some rb) := by
  subst hcp
  refine ⟨⟨a', l.length - j, cp - j, rd_set0 hh, ?_, by omega, by omega⟩, grown_set _ _ _ _⟩
  rcases ha with rfl | ⟨b, o, rfl, rfl⟩
  · rw [List.drop_of_length_le (by omega), show l.length - cp = 0 from by omega]
    exact Bytes.nil _ _
  · exact Bytes.grown (Bytes.drop hb j hj) (grown_set _ _ _ _) hh (by simp) (by simp)

theorem rd_after' {w : World} {rb : Nat} {a : Option Addr} {cp e : Nat} {l : List UInt8} (hh : w.heap[rb]? = some (.cells #[.slice a l.length cp, .int .i64 (e : Int)] 80 (0, 0))) (hb : Bytes w a l.length l) (hnc : l.length ≤ cp ∧ cp ≤ maxLen)
    (j : Nat) (hj : j ≤ l.length) :
    Rd (w.setCell ⟨rb, 0, none⟩ (.slice (Option.map (fun x => x.add j) a) (l.length - j) (cp - j))) rb (l.drop j) e ∧ w.grownBy (w.setCell ⟨rb, 0, none⟩ (.slice (Option.map (fun x => x.add j) a) (l.length - j) (cp - j))) (some rb) := by
  rcases hb.2.2 with h | ⟨b, o, rfl, _⟩
  · have hl : l = [] := by simpa using h
    subst hl
    refine ⟨⟨_, _, _, rd_set0 hh, ?_, by simp, by omega⟩, grown_set _ _ _ _⟩
    simp
    exact Bytes.nil _ _
  · simp only [Option.map_some, addr_add]
    exact rd_after hh hb hnc j hj _ _ rfl (.inr ⟨b, o, rfl, rfl⟩)

theorem dead_any (w : World) (rb : Nat) (l : List UInt8) (e : Nat) (h : Rd w rb l e) :
    Calls Try.prog 63 #[.pointer (some ⟨rb, 0, none⟩)] w fun en w' => en = .returned (.bool ((e : Int) != 0)) ∧ w = w' := by
  obtain ⟨a, n, c, hh, hb, hn⟩ := h
  obtain ⟨h0, h1, f0, f1⟩ := rd_cell0 hh
  go_enter Try.func63, Try.ntmps63
  go_wp2
  go_ret
  exact ⟨rfl, rfl⟩

theorem fail_any (w : World) (rb : Nat) (l : List UInt8) (k : Nat) (h : Rd w rb l 0) :
    Calls Try.prog 50 #[.pointer (some ⟨rb, 0, none⟩), .int .i64 (k : Int)] w fun en w' => en = .returned (.tuple #[]) ∧ w.setCell ⟨rb, 1, none⟩ (.int .i64 (k : Int)) = w' := by
  obtain ⟨a, n, c, hh, hb, hn⟩ := h
  obtain ⟨h0, h1, f0, f1⟩ := rd_cell0 hh
  have hz : ((0 : Nat) : Int) = 0 := rfl
  rw [hz] at h1
  clear hz
  go_enter Try.func50, Try.ntmps50
  go_wp2
  go_end0
  exact ⟨rfl, rfl⟩

/-- a new reader -/
theorem new_any (a : Option Addr) (n cap : Nat) (l : List UInt8) (w : World) (hb : Bytes w a n l) (hsmall : n ≤ 70368744177664) :
    Calls Try.prog 46 #[.slice a n cap] w fun en w' => ∃ rb, en = .returned (.pointer (some ⟨rb, 0, none⟩)) ∧ w.heap.size ≤ rb ∧ Rd w' rb l 0 ∧ Below w.heap.size w w' := by
  go_enter Try.func46, Try.ntmps46
  go_wp2_with fail
  refine (clone_any _ _ _ _ _ hb hsmall).mono ?_
  rintro e w1 ⟨a1, m1, c1, rfl, o1, b1⟩
  go_wp2
  go_ret
  refine ⟨w1.heap.size, rfl, b1.size, ⟨a1, m1, c1, heap_alloc_new w1 _, o1.bytes.mono (balloc _ _), ?_⟩, b1.alloc b1.size _⟩
  obtain ⟨a', cap', hv, hl, hn, hm, _⟩ := o1
  simp at hv
  omega

theorem end_any (w : World) (rb : Nat) (l : List UInt8) (e : Nat) (h : Rd w rb l e) :
    Calls Try.prog 49 #[.pointer (some ⟨rb, 0, none⟩)] w fun en w' => en = .returned (.int .i64 (endS l e : Int)) ∧ w = w' := by
  obtain ⟨a, n, c, hh, hb, hn⟩ := h
  obtain ⟨h0, h1, f0, f1⟩ := rd_cell0 hh
  have hl := hb.1
  subst hl
  by_cases he : e = 0
  · subst he
    have hz : ((0 : Nat) : Int) = 0 := rfl
    rw [hz] at h1
    clear hz
    by_cases h0 : 0 < l.length
    · have hE : endS l 0 = 4 := by simp [endS, h0]
      rw [hE]
      go_enter Try.func49, Try.ntmps49
      go_wp2
      go_ret
      exact ⟨rfl, rfl⟩
    · have hE : endS l 0 = 0 := by simp [endS, h0]
      rw [hE]
      go_enter Try.func49, Try.ntmps49
      go_wp2
      go_ret
      exact ⟨rfl, rfl⟩
  · have hE : endS l e = e := by simp [endS, he]
    rw [hE]
    have he' : ((e : Int) == 0) = false := by simp; omega
    go_enter Try.func49, Try.ntmps49
    go_wp2
    go_ret
    exact ⟨rfl, rfl⟩

set_option maxRecDepth 100000 in
set_option maxHeartbeats 1000000 in
theorem num_any (w : World) (rb : Nat) (l : List UInt8) (e : Nat) (most : Int) (h : Rd w rb l e) (m0 : 0 ≤ most) (m1 : most ≤ 18446744073709551615) :
    Calls Try.prog 47 #[.pointer (some ⟨rb, 0, none⟩), .int .u64 most] w fun en w' =>
      en = .returned (.int .u64 ((numS most.toNat l e).1 : Int)) ∧ Rd w' rb (numS most.toNat l e).2.1 (numS most.toNat l e).2.2 ∧ w.grownBy w' (some rb) := by
  by_cases he : e = 0
  · subst he
    have H := h
    obtain ⟨a, n, cp, hh, hb, hnc⟩ := h
    obtain ⟨h0, h1, f0, f1⟩ := rd_cell0 hh
    have hl := hb.1
    subst hl
    have hat := Lib.hid hb.at
    have hm := hb.2.1
    unfold maxLen at hm
    go_enter Try.func47, Try.ntmps47
    go_wp2_with fail
    refine (dead_any _ _ _ _ H).mono ?_
    rintro en w' ⟨rfl, rfl⟩
    go_wp2
    go_loop [5, 6] (fun nv i => ∃ k m : Nat, k ≤ 9 ∧ k ≤ l.length ∧ i = .int .i64 k ∧ nv = .int .u64 m ∧ m < 128 ^ k ∧ numGo most.toNat l 0 0 = numGo most.toNat (l.drop k) k m) (fun _ i => 10 - (intOf i).toNat)
    case atStart => exact ⟨0, 0, by omega, by omega, rfl, rfl, by simp, by simp⟩
    case round =>
      obtain ⟨k, m, hk9, hkl, rfl, rfl, hmk, hgo⟩ := hrel
      have HG := Lib.hid hgo
      clear hgo
      by_cases hlt : k < l.length
      · obtain ⟨b, o, ha, hcell⟩ := hat.out k hlt
        subst ha
        have cb := l[k].toNat_lt
        have hdr : l.drop k = l[k] :: l.drop (k + 1) := List.drop_eq_getElem_cons hlt
        generalize hcl : l[k].toNat = c at *
        have HG2 := HG.out
        rw [hdr] at HG2
        simp only [numGo, hcl] at HG2
        clear hdr hcl HG hat
        have HH := Lib.hid hh
        clear hh
        by_cases hbad : (k = 9 ∧ 1 < c) ∨ (c = 0 ∧ 0 < k)
        · rw [if_pos hbad] at HG2
          have hE : numS most.toNat l 0 = (0, l, 3) := by simp [numS, HG2]
          have HE := Lib.hid hE
          clear hE HG2
          have step : ∀ w' : World, w.setCell ⟨rb, 1, none⟩ (.int .i64 3) = w' → Rd w' rb (numS most.toNat l 0).2.1 (numS most.toNat l 0).2.2 ∧ w.grownBy w' (some rb) := by
            rintro w' rfl
            rw [HE.out]
            exact ⟨Rd.set1 H 3, grown_set _ _ _ _⟩
          have HS := Lib.hid step
          clear step
          by_cases h9 : k = 9 ∧ 1 < c
          · obtain ⟨rfl, hc1⟩ := h9
            clear hbad
            go_wp2_with fail
            refine (fail_any _ _ _ 3 H).mono ?_
            rintro en w' ⟨rfl, hw⟩
            have HW := Lib.hid hw
            clear hw
            go_wp2
            go_ret
            refine ⟨ret_int ?_, HS.out _ HW.out⟩
            rw [HE.out]; rfl
          · have hc0 : c = 0 ∧ 0 < k := by omega
            obtain ⟨rfl, hk0⟩ := hc0
            clear hbad h9
            rw [show ((0 : Nat) : Int) = 0 from rfl] at hcell
            by_cases k9 : k = 9
            · subst k9
              go_wp2_with fail
              refine (fail_any _ _ _ 3 H).mono ?_
              rintro en w' ⟨rfl, hw⟩
              have HW := Lib.hid hw
              clear hw
              go_wp2
              go_ret
              refine ⟨ret_int ?_, HS.out _ HW.out⟩
              rw [HE.out]; rfl
            · have k9' : ((k : Int) == 9) = false := by simp; omega
              go_wp2_with fail
              refine (fail_any _ _ _ 3 H).mono ?_
              rintro en w' ⟨rfl, hw⟩
              have HW := Lib.hid hw
              clear hw
              go_wp2
              go_ret
              refine ⟨ret_int ?_, HS.out _ HW.out⟩
              rw [HE.out]; rfl
        · rw [if_neg hbad] at HG2
          have hpart := and_not128 c (by omega)
          have hor := Lib.hid (or_part k m c hk9 hmk (by omega))
          by_cases hc : 128 ≤ c
          · rw [if_pos hc] at HG2
            have HG3 := Lib.hid HG2
            clear HG2
            have k9 : k < 9 := by omega
            clear hbad
            go_wp2
            go_round
            case rel => exact ⟨k + 1, m + c % 128 * 128 ^ k, by omega, by omega, by go_num, by rw [hor.out], num_step k m c hmk, HG3.out⟩
            case measure => simp [intOf]; omega
          · rw [if_neg hc] at HG2
            have hns := Lib.hid (num_step k m c hmk)
            have hor' := hor.out
            clear hor
            generalize hn' : m + c % 128 * 128 ^ k = m' at *
            clear hn'
            by_cases hmost : most.toNat < m'
            · rw [if_pos hmost] at HG2
              have hE : numS most.toNat l 0 = (0, l, 6) := by simp [numS, HG2]
              have HE := Lib.hid hE
              clear hE HG2
              have hmi : most < (m' : Int) := by omega
              clear hmost
              have step : ∀ w' : World, w.setCell ⟨rb, 1, none⟩ (.int .i64 6) = w' → Rd w' rb (numS most.toNat l 0).2.1 (numS most.toNat l 0).2.2 ∧ w.grownBy w' (some rb) := by
                rintro w' rfl
                rw [HE.out]
                exact ⟨Rd.set1 H 6, grown_set _ _ _ _⟩
              have HS := Lib.hid step
              clear step
              rcases (show (k = 9 ∧ c = 1) ∨ (k ≠ 9 ∧ c = 0 ∧ k = 0) ∨ (k ≠ 9 ∧ c ≠ 0) by omega) with ⟨u1, u2⟩ | ⟨u1, u2, u3⟩ | ⟨u1, u2⟩
              · have f1' : ((k : Int) == 9) = true := by simp; omega
                have f2' : ¬ (1 < (c : Int)) := by omega
                have f3' : ((c : Int) == 0) = false := by simp; omega
                clear u1 u2 hbad
                go_wp2_with fail
                refine (fail_any _ _ _ 6 H).mono ?_
                rintro en w' ⟨rfl, hw⟩
                have HW := Lib.hid hw
                clear hw
                go_wp2
                go_ret
                refine ⟨ret_int ?_, HS.out _ HW.out⟩
                rw [HE.out]; rfl
              · have f1' : ((k : Int) == 9) = false := by simp; omega
                have f2' : ((c : Int) == 0) = true := by simp; omega
                have f3' : ¬ (0 < (k : Int)) := by omega
                clear u1 u2 u3 hbad
                go_wp2_with fail
                refine (fail_any _ _ _ 6 H).mono ?_
                rintro en w' ⟨rfl, hw⟩
                have HW := Lib.hid hw
                clear hw
                go_wp2
                go_ret
                refine ⟨ret_int ?_, HS.out _ HW.out⟩
                rw [HE.out]; rfl
              · have f1' : ((k : Int) == 9) = false := by simp; omega
                have f2' : ((c : Int) == 0) = false := by simp; omega
                clear u1 u2 hbad
                go_wp2_with fail
                refine (fail_any _ _ _ 6 H).mono ?_
                rintro en w' ⟨rfl, hw⟩
                have HW := Lib.hid hw
                clear hw
                go_wp2
                go_ret
                refine ⟨ret_int ?_, HS.out _ HW.out⟩
                rw [HE.out]; rfl
            · rw [if_neg hmost] at HG2
              have hE : numS most.toNat l 0 = (m', l.drop (k + 1), 0) := by simp [numS, HG2]
              have HE := Lib.hid hE
              clear hE HG2
              have hmi : ¬ most < (m' : Int) := by omega
              clear hmost
              rcases (show (k = 9 ∧ c = 1) ∨ (k ≠ 9 ∧ c = 0 ∧ k = 0) ∨ (k ≠ 9 ∧ c ≠ 0) by omega) with ⟨u1, u2⟩ | ⟨u1, u2, u3⟩ | ⟨u1, u2⟩
              · have f1' : ((k : Int) == 9) = true := by simp; omega
                have f2' : ¬ (1 < (c : Int)) := by omega
                have f3' : ((c : Int) == 0) = false := by simp; omega
                clear u1 u2 hbad
                go_wp2
                all_goals
                  go_ret
                  refine ⟨ret_int (by rw [HE.out]), ?_⟩
                  rw [HE.out]
                · have hcap : cp = k + 1 := by assumption
                  exact rd_after HH.out hb hnc (k + 1) hlt _ _ (by omega) (.inl hcap)
                · exact rd_after HH.out hb hnc (k + 1) hlt _ _ rfl (.inr ⟨b, o, rfl, rfl⟩)
              · have f1' : ((k : Int) == 9) = false := by simp; omega
                have f2' : ((c : Int) == 0) = true := by simp; omega
                have f3' : ¬ (0 < (k : Int)) := by omega
                clear u1 u2 u3 hbad
                go_wp2
                all_goals
                  go_ret
                  refine ⟨ret_int (by rw [HE.out]), ?_⟩
                  rw [HE.out]
                · have hcap : cp = k + 1 := by assumption
                  exact rd_after HH.out hb hnc (k + 1) hlt _ _ (by omega) (.inl hcap)
                · exact rd_after HH.out hb hnc (k + 1) hlt _ _ rfl (.inr ⟨b, o, rfl, rfl⟩)
              · have f1' : ((k : Int) == 9) = false := by simp; omega
                have f2' : ((c : Int) == 0) = false := by simp; omega
                clear u1 u2 hbad
                go_wp2
                all_goals
                  go_ret
                  refine ⟨ret_int (by rw [HE.out]), ?_⟩
                  rw [HE.out]
                · have hcap : cp = k + 1 := by assumption
                  exact rd_after HH.out hb hnc (k + 1) hlt _ _ (by omega) (.inl hcap)
                · exact rd_after HH.out hb hnc (k + 1) hlt _ _ rfl (.inr ⟨b, o, rfl, rfl⟩)
      · have hE : numS most.toNat l 0 = (0, l, 2) := by
          have e1 := HG.out
          rw [List.drop_of_length_le (by omega)] at e1
          simp [numS, e1, numGo]
        have HE := Lib.hid hE
        clear hE
        go_wp2_with fail
        refine (fail_any _ _ _ 2 H).mono ?_
        rintro en w' ⟨rfl, rfl⟩
        go_wp2
        go_ret
        rw [HE.out]
        exact ⟨rfl, Rd.set1 H 2, grown_set _ _ _ _⟩
  · have hE : numS most.toNat l e = (0, l, e) := numS_bad he
    rw [hE]
    clear hE
    have he' : ((e : Int) != 0) = true := by simp; omega
    have H := Lib.hid h
    go_enter Try.func47, Try.ntmps47
    go_wp2_with fail
    refine (dead_any _ _ _ _ h).mono ?_
    rintro en w' ⟨rfl, rfl⟩
    go_wp2
    go_ret
    exact ⟨rfl, H.out, grown_refl _ _⟩
end Pk
end Go.Proofs.Ytcmmnfeodmjpkaa
