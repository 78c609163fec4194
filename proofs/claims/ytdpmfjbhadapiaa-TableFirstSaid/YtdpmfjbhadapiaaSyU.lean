/- A slice of the call's own, no more written to, counted to the memory that stands still. Over any program. No condition. -/
import Derived.Test.YtdpmfjbhadapiaaSyT
namespace Go.Proofs.Ytdpmfjbhadapiaa
open Go.RowKit
set_option linter.unusedVariables false
set_option linter.unusedSimpArgs false
namespace Sy
/-- m, and the block g of w -/
def frz (m w : World) (g : Nat) : World := { w with heap := ((List.range w.heap.size).map fun i => if i = g then (w.heap[i]?).getD (.cells #[] 0 (0, 0)) else (m.heap[i]?).getD (.cells #[] 0 (0, 0))).toArray }
theorem frz_heap (m w : World) (g i : Nat) (h : i < w.heap.size) : (frz m w g).heap[i]? = some (if i = g then (w.heap[i]?).getD (.cells #[] 0 (0, 0)) else (m.heap[i]?).getD (.cells #[] 0 (0, 0))) := by
  simp [frz, h]
theorem frz_at {m w : World} {g : Nat} (hg : g < w.heap.size) : (frz m w g).heap[g]? = w.heap[g]? := by
  rw [frz_heap m w g g hg, if_pos rfl]
  simp [hg]
theorem frz_cell {m w : World} {g : Nat} (p : Addr) (hp : p.block ≠ g) (hlt : p.block < w.heap.size) : (frz m w g).cell? p = m.cell? p := by
  have := frz_heap m w g p.block hlt
  rw [if_neg hp] at this
  unfold World.cell?
  rw [this]
  cases hm : m.heap[p.block]? with
  | none => simp
  | some o => simp
theorem frz_out {m w : World} {g : Nat} (p : Addr) {u : Value} (h : (frz m w g).cell? p = some u) : p.block < w.heap.size := by
  have := World.block_lt_of_cell? _ _ h
  simpa [frz] using this
theorem MemE.freeze {E1 : Ext} {W m0 m w : World} {bs : List Blk} {e : TypeId} {size : Nat} {v : Value} {n : Nat} {xs : List Value} (F : MemE (SlA E1 e size v n xs) ⟨W, [], m0⟩ m bs w) :
    ∃ m', Sub m m' ∧ MemE E1 ⟨W, [], m0⟩ m' bs w ∧ ∀ a cap, v = .slice a n cap → Cells m' a xs := by
  obtain ⟨hE1, ho, hdj⟩ := F.ext
  obtain ⟨a, cap, rfl, hxl, hn, hm, hcase⟩ := ho
  by_cases h0 : cap = 0
  · refine ⟨m, Sub.refl m, ⟨F.kept, F.sub0, F.sub, F.fresh, F.own, F.nodup, hE1, fun k hk => F.loose k (.inl hk)⟩, fun a' cap' hv => ?_⟩
    have : xs = [] := List.eq_nil_of_length_eq_zero (by rw [hxl]; have : n = 0 := by omega
                                                        rw [this]; simp)
    exact .inl this
  · rcases hcase with hc | ⟨g, cur, rfl, _, hcell, hcsz, htk⟩
    · exact (h0 hc).elim
    have hb : blk (.slice (some ⟨g, 0, none⟩) n cap) = some g := blk_of h0 rfl
    have hgl : g < w.heap.size := (Array.getElem?_eq_some_iff.1 hcell).1
    have hl := F.loose g (.inr hb)
    have hWg : W.heap.size ≤ g := hl.1.resolve_right (by simp)
    have hmm : Sub m (frz m w g) := fun p u hu => by
      have hp : p.block ≠ g := fun e' => by
        have := hl.2.2 p.off p.spot
        obtain ⟨pb, po, ps⟩ := p
        subst e'
        rw [this] at hu
        cases hu
      rw [frz_cell p hp (World.block_lt_of_cell? w _ (F.sub p u hu))]
      exact hu
    have hmw : Sub (frz m w g) w := fun p u hu => by
      by_cases hp : p.block = g
      · rw [World.cell?_of_block (w := w) (by rw [hp]; exact frz_at hgl)] at hu
        exact hu
      · rw [frz_cell p hp (frz_out p hu)] at hu
        exact F.sub p u hu
    have hnone : ∀ k, k ≠ g → (∀ i s, m.cell? ⟨k, i, s⟩ = none) → ∀ i s, (frz m w g).cell? ⟨k, i, s⟩ = none := fun k hk hm i s => by
      cases hu : (frz m w g).cell? ⟨k, i, s⟩ with
      | none => rfl
      | some u =>
        have h1 := frz_out _ hu
        rw [frz_cell _ hk h1, hm i s] at hu
        cases hu
    refine ⟨frz m w g, hmm, ⟨F.kept, fun p u hu => hmm p u (F.sub0 p u hu), hmw, fun p u hp hu => ?_, fun b hbm => ?_, F.nodup, hE1, fun k hk => ?_⟩, fun a' cap' hv => ?_⟩
    · have hpg : p.block ≠ g := by
        have : p.block < W.heap.size := hp
        omega
      rw [frz_cell p hpg (frz_out p hu)] at hu
      exact F.fresh p u hp hu
    · have h := F.own b hbm
      exact ⟨h.1, h.2.1, hnone _ (fun e => hl.2.1 (List.mem_map.2 ⟨b, hbm, e⟩)) h.2.2⟩
    · have h := F.loose k (.inl hk)
      exact ⟨h.1, h.2.1, hnone _ (fun e => hdj g hb (e ▸ hk)) h.2.2⟩
    · simp at hv
      obtain ⟨rfl, rfl⟩ := hv
      refine .inr ⟨g, 0, rfl, fun i hi => ?_⟩
      have hfg : (frz m w g).cell? ⟨g, 0 + i, none⟩ = w.cell? ⟨g, 0 + i, none⟩ := World.cell?_of_block (frz_at hgl)
      rw [hfg]
      have hi2 : i < n * size := by rw [← hxl]; exact hi
      have h1 : cur[i]? = xs[i]? := by
        rw [← htk, List.getElem?_take_of_lt hi2]
        simp
      rw [List.getElem?_eq_getElem hi] at h1
      rw [Nat.zero_add]
      simp [World.cell?, hcell, h1]
end Sy
end Go.Proofs.Ytdpmfjbhadapiaa
