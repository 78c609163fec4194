/- The walk of ballot.Get, and of the law BallotCuts: it returns true. Conditions: the reader's bytes can be read. -/
import Derived.Test.YtcmmnfeodmjpkaaBalP
namespace Go.Proofs.Ytcmmnfeodmjpkaa
open Go.RowKit
set_option linter.unusedVariables false
namespace Bl
def m64 : Nat := 18446744073709551615
def s1 (l : List UInt8) (e : Nat) := Pk.numS m64 l e
def s2 (l : List UInt8) (e : Nat) := Pk.numS 255 (s1 l e).2.1 (s1 l e).2.2
def s3 (l : List UInt8) (e : Nat) := Pk.numS 4294967295 (s2 l e).2.1 (s2 l e).2.2

/-- a reader that stands in error; its bytes are not asked of -/
def RdE (w : World) (rb : Nat) (e : Nat) : Prop := ∃ a n c, w.heap[rb]? = some (.cells #[.slice a n c, .int .i64 (e : Int)] 80 (0, 0))
theorem end_bad (w : World) (rb : Nat) (e : Nat) (h : RdE w rb e) (he : e ≠ 0) :
    Calls Try.prog 49 #[.pointer (some ⟨rb, 0, none⟩)] w fun en w' => en = .returned (.int .i64 (e : Int)) ∧ w = w' := by
  obtain ⟨a, n, c, hh⟩ := h
  obtain ⟨h0, h1, f0, f1⟩ := Pk.rd_cell0 hh
  have he' : ((e : Int) == 0) = false := by simp; omega
  go_enter Try.func49, Try.ntmps49
  go_wp2
  go_ret
  exact ⟨rfl, rfl⟩

set_option maxHeartbeats 400000 in
theorem get_bad (w : World) (rb : Nat) (l : List UInt8) (e : Nat) (h : Rd w rb l e) (h1 : (s3 l e).2.2 ≠ 0) (h2 : (s3 l e).2.2 ≠ 4) :
    Calls Try.prog 53 #[.pointer (some ⟨rb, 0, none⟩)] w fun en w' => en = .returned zero.v ∧ RdE w' rb (s3 l e).2.2 ∧ w.grownBy w' (some rb) := by
  have hend : Pk.endS (s3 l e).2.1 (s3 l e).2.2 = (s3 l e).2.2 := by unfold Pk.endS; rw [if_neg (by omega)]
  have hlt := Pk.Rd.lt h
  have h' : Rd (w.alloc (.cells #[.int .u64 0, .int .u8 0, .int .u32 0] 45)) rb l e := Pk.Rd.below h (balloc _ _)
  have e1 : ∀ l e, Pk.numS (18446744073709551615 : Int).toNat l e = s1 l e := fun _ _ => rfl
  have e2 : Pk.numS (255 : Int).toNat (s1 l e).2.1 (s1 l e).2.2 = s2 l e := rfl
  have e3 : Pk.numS (4294967295 : Int).toNat (s2 l e).2.1 (s2 l e).2.2 = s3 l e := rfl
  have k2 : (s2 l e).1 ≤ 255 := (Pk.numS_le (most := 255) (by omega) _ _).1
  have k3 : (s3 l e).1 ≤ 4294967295 := (Pk.numS_le (most := 4294967295) (by omega) _ _).1
  have N1 := Pk.num_any (w.alloc (.cells #[.int .u64 0, .int .u8 0, .int .u32 0] 45)) rb l e 18446744073709551615 h' (by omega) (by omega)
  have N2 := fun w h => Pk.num_any w rb (s1 l e).2.1 (s1 l e).2.2 255 h (by omega) (by omega)
  have N3 := fun w h => Pk.num_any w rb (s2 l e).2.1 (s2 l e).2.2 4294967295 h (by omega) (by omega)
  rw [e1] at N1
  rw [e2] at N2
  rw [e3] at N3
  clear e1 e2 e3
  generalize s1 l e = x1 at *
  generalize s2 l e = x2 at *
  generalize s3 l e = x3 at *
  obtain ⟨n1, l1, c1⟩ := x1
  obtain ⟨n2, l2, c2⟩ := x2
  obtain ⟨n3, l3, c3⟩ := x3
  simp only at *
  have HN1 := Lib.hid N1
  have HN2 := Lib.hid N2
  have HN3 := Lib.hid N3
  have HE := Lib.hid hend
  have t1 : ((c3 : Int) == 0) = false := by simp; omega
  have t2 : ((c3 : Int) == 4) = false := by simp; omega
  have t3 : ((c3 : Int) != 0) = true := by simp; omega
  have t4 : ((c3 : Int) != 4) = true := by simp; omega
  clear N1 N2 N3 hend h h' h1 h2
  unfold zero B.v
  go_enter Try.func53, Try.ntmps53
  go_wp2_with fail
  refine HN1.out.mono ?_
  rintro en w1 ⟨rfl, h1', g1⟩
  go_wp2_with fail
  refine (HN2.out _ h1').mono ?_
  rintro en w2 ⟨rfl, h2', g2⟩
  go_wp2_with fail
  refine (HN3.out _ h2').mono ?_
  rintro en w3 ⟨rfl, h3', g3⟩
  have s1 := g1.size
  have s2 := g2.size
  have s3 := g3.size
  have q : w3.heap[w.heap.size]? = some (.cells #[.int .u64 0, .int .u8 0, .int .u32 0] 45 (0, 0)) := by
    have hne : some w.heap.size ≠ some rb := by simp; omega
    rw [g3.block _ (by simp at s1; omega) hne, g2.block _ (by simp at s1; omega) hne, g1.block _ (by simp) hne]
    exact heap_alloc_new _ _
  have hs : w.heap.size < w3.heap.size := by simp at s1; omega
  have G := Lib.hid (Pk.grown_trans g1 (Pk.grown_trans g2 g3))
  clear h1' h2' s1 s2 s3 g1 g2 g3
  have H3 := Lib.hid (fun o => Pk.Rd.below h3' (balloc w3 o))
  clear h3'
  go_wp2_with fail
  refine (Pk.end_any _ _ _ _ (H3.out _)).mono ?_
  rintro en w4 ⟨rfl, rfl⟩
  rw [HE.out]
  have G3 := G.out
  have HQ := Lib.hid q
  have q0 : w3.cell? ⟨w.heap.size, 0, none⟩ = some (.int .u64 0) := by simp [World.cell?, q]
  have q1 : w3.cell? ⟨w.heap.size, 1, none⟩ = some (.int .u8 0) := by simp [World.cell?, q]
  have q2 : w3.cell? ⟨w.heap.size, 2, none⟩ = some (.int .u32 0) := by simp [World.cell?, q]
  have f0 : ∀ i, w3.frozen? ⟨w.heap.size, i, none⟩ = false := by intro i; simp [World.frozen?, q]
  have hne : ¬ w.heap.size = w3.heap.size := by omega
  clear q
  go_wp2
  obtain ⟨W, hW⟩ : ∃ W, W = ((((w3.setCell ⟨w.heap.size, 0, none⟩ (.int .u64 0)).setCell ⟨w.heap.size, 1, none⟩ (.int .u8 0)).setCell ⟨w.heap.size, 2, none⟩ (.int .u32 0)).alloc
      (Obj.cells #[.int .u64 (n1 : Int), .int .u8 (n2 : Int), .int .u32 (n3 : Int)] 45)) := ⟨_, rfl⟩
  rw [← hW]
  have hz : W.heap[w.heap.size]? = some (.cells #[.int .u64 0, .int .u8 0, .int .u32 0] 45 (0, 0)) := by
    rw [hW, (balloc _ _).block _ (by simpa using hs)]
    have g1 := heap_setCell_same w3 w.heap.size 0 _ _ (.int .u64 0) HQ.out
    have g2 := heap_setCell_same _ w.heap.size 1 _ _ (.int .u8 0) g1
    exact heap_setCell_same _ w.heap.size 2 _ _ (.int .u32 0) g2
  have hk : ∀ k, k ≠ w.heap.size → k < w3.heap.size → W.heap[k]? = w3.heap[k]? := by
    intro k hk hl
    rw [hW, (balloc _ _).block _ (by simpa using hl), heap_setCell_other _ _ _ _ (by simpa using hk), heap_setCell_other _ _ _ _ (by simpa using hk), heap_setCell_other _ _ _ _ (by simpa using hk)]
  have G4 := G.out
  have hos : W.os = w3.os ∧ W.tape = w3.tape ∧ W.output = w3.output ∧ w3.heap.size ≤ W.heap.size := by rw [hW]; exact ⟨rfl, rfl, rfl, by simp⟩
  have H4 := H3.out (Obj.cells #[] 0)
  clear hW
  refine bodyPost_ret (results_cell_row rfl _ _ _ _ _ _ _ rfl hz Try.underlying45 rfl (by kernel_rfl)) rfl ⟨rfl, ?_, ?_⟩
  · obtain ⟨a, n, c, hh, hb, hn⟩ := H4
    rw [(balloc w3 _).block _ (by omega)] at hh
    exact ⟨a, n, c, by rw [hk _ (by omega) (by omega)]; exact hh⟩
  · refine ⟨hos.1.trans G4.os, hos.2.1.trans G4.tape, hos.2.2.1.trans G4.output, ?_, ?_⟩
    · have := G4.size; simp at this; omega
    · intro k hkl hne
      rw [hk k (by omega) (by omega), G4.block k (by simp; omega) hne]
      exact (balloc w _).block k hkl
end Bl
end Go.Proofs.Ytcmmnfeodmjpkaa
