/- General words for memory: rows of cells, slices that a call owns, and what append does with them. Over any program. No condition. -/
import Derived.WalkKit
import Derived.Lib.Hide
import Derived.Handy
namespace Go.Proofs.YtohhjbfkgokopaaDoor
open Go.RowKit

theorem ret_int {k : IntKind} {a b : Int} (h : a = b) : Ending.returned (.int k a) = .returned (.int k b) := by rw [h]
theorem ret_bool {a b : Bool} (h : a = b) : Ending.returned (.bool a) = .returned (.bool b) := by rw [h]

/-- a goal at which the walk stops -/
def Stop (p : Prop) : Prop := p
theorem stopHere {p : Prop} (h : Stop p) : p := h
theorem atStop {p : Prop} (h : p) : Stop p := h

/-- the cells from an address on -/
def Cells (w : World) (a : Option Addr) (cs : List Value) : Prop :=
  cs = [] ∨ ∃ b o, a = some ⟨b, o, none⟩ ∧ ∀ i (h : i < cs.length), w.cell? ⟨b, o + i, none⟩ = some cs[i]

/-- a byte as a value -/
def bv (c : UInt8) : Value := .int .u8 (c.toNat : Int)

/-- a slice of bytes reads as a list -/
def Bytes (w : World) (a : Option Addr) (n : Nat) (l : List UInt8) : Prop := l.length = n ∧ l.length ≤ maxLen ∧ Cells w a (l.map bv)

/-- a slice value that the call owns (its block lies from base on), or one without room -/
def Own (w : World) (base : Nat) (e : TypeId) (size : Nat) (v : Value) (n : Nat) (xs : List Value) : Prop :=
  ∃ a cap, v = .slice a n cap ∧ xs.length = n * size ∧ n ≤ cap ∧ cap ≤ maxLen ∧
    (cap = 0 ∨ ∃ g cur, a = some ⟨g, 0, none⟩ ∧ base ≤ g ∧ w.heap[g]? = some (.cells cur e (0, 0)) ∧ cur.size = cap * size ∧ cur.toList.take (n * size) = xs)

/-- the block that an append may write -/
def blk : Value → Option Nat
  | .slice (some a) _ (_ + 1) => some a.block
  | _ => none

theorem blk_pos {g o : Nat} {s : Option Nat} (n : Nat) {cap : Nat} (m : Nat) (h : m < cap) : blk (.slice (some ⟨g, o, s⟩) n cap) = some g := by
  cases cap with
  | zero => omega
  | succ c => rfl

theorem addr_add (b o j : Nat) : (⟨b, o, none⟩ : Addr).add j = ⟨b, o + j, none⟩ := by
  unfold Addr.add; split <;> simp_all

theorem Cells.nil (w : World) (a : Option Addr) : Cells w a [] := .inl rfl

theorem Cells.news {w : World} {a : Option Addr} {cs : List Value} (h : Cells w a cs) (hp : 0 < cs.length) :
    ∃ b o, a = some ⟨b, o, none⟩ ∧ (∀ j u, cs[j]? = some u → w.cell? ((⟨b, o, none⟩ : Addr).add j) = some u) ∧ (∀ i (h : i < cs.length), w.cell? ⟨b, o + i, none⟩ = some cs[i]) := by
  rcases h with rfl | ⟨b, o, ha, hc⟩
  · simp at hp
  · refine ⟨b, o, ha, fun j u hu => ?_, hc⟩
    obtain ⟨hj, rfl⟩ := List.getElem?_eq_some_iff.1 hu
    rw [addr_add]; exact hc j hj

theorem Cells.mono {w w' : World} {a : Option Addr} {cs : List Value} (h : Cells w a cs) (hb : Below w.heap.size w w') : Cells w' a cs := by
  rcases h with rfl | ⟨b, o, ha, hc⟩
  · exact .inl rfl
  · refine .inr ⟨b, o, ha, fun i hi => ?_⟩
    have := hc i hi
    rw [hb.cell (p := ⟨b, o + i, none⟩) (World.block_lt_of_cell? w _ this)]; exact this

theorem Bytes.mono {w w' : World} {a : Option Addr} {n : Nat} {l : List UInt8} (h : Bytes w a n l) (hb : Below w.heap.size w w') : Bytes w' a n l := ⟨h.1, h.2.1, h.2.2.mono hb⟩

theorem Bytes.nil (w : World) (a : Option Addr) : Bytes w a 0 [] := ⟨rfl, Nat.zero_le _, .inl rfl⟩

theorem Bytes.at {w : World} {a : Option Addr} {n : Nat} {l : List UInt8} (h : Bytes w a n l) (k : Nat) (hk : k < l.length) :
    ∃ b o, a = some ⟨b, o, none⟩ ∧ w.cell? ⟨b, o + k, none⟩ = some (.int .u8 (l[k].toNat : Int)) := by
  obtain ⟨b, o, ha, _, hc⟩ := h.2.2.news (by simp; omega)
  refine ⟨b, o, ha, ?_⟩
  have := hc k (by simpa using hk)
  rw [this]; simp [bv]

theorem Bytes.take {w : World} {a : Option Addr} {n : Nat} {l : List UInt8} (h : Bytes w a n l) (k : Nat) (hk : k ≤ n) : Bytes w a k (l.take k) := by
  refine ⟨by have := h.1; simp; omega, Nat.le_trans (by simp; omega) h.2.1, ?_⟩
  rcases h.2.2 with h | ⟨b, o, ha, hc⟩
  · left; simp at h; simp [h]
  · exact .inr ⟨b, o, ha, fun i hi => by have := hc i (by simp at hi ⊢; omega); rw [this]; simp⟩

theorem newBytes (w : World) (l : List UInt8) (T : TypeId) (fz : Nat × Nat) (hl : l.length ≤ maxLen) : Bytes (w.alloc (.cells (l.map bv).toArray T fz)) (some ⟨w.heap.size, 0, none⟩) l.length l := by
  refine ⟨rfl, hl, .inr ⟨_, _, rfl, fun i hi => ?_⟩⟩
  simp only [World.cell?, heap_alloc_new, Nat.zero_add]
  simp at hi ⊢
  exact ⟨l[i], by simp, rfl⟩

theorem Own.cells {w : World} {base : Nat} {e : TypeId} {size : Nat} {a : Option Addr} {n cap : Nat} {xs : List Value} (h : Own w base e size (.slice a n cap) n xs) : Cells w a xs := by
  obtain ⟨a', cap', hv, hl, hn, hm, h⟩ := h
  simp at hv; obtain ⟨rfl, rfl⟩ := hv
  rcases h with h0 | ⟨g, cur, rfl, hb, hg, hc, ht⟩
  · left; apply List.eq_nil_of_length_eq_zero; rw [hl, show n = 0 from by omega]; simp
  · refine .inr ⟨g, 0, rfl, fun i hi => ?_⟩
    subst ht
    simp [World.cell?, hg] at hi ⊢

theorem Own.kept {w w' : World} {base : Nat} {e : TypeId} {size : Nat} {v : Value} {n : Nat} {xs : List Value} {row : Option Nat} (h : Own w base e size v n xs) (hg : w.grownBy w' row) (hne : ∀ k, blk v = some k → row ≠ some k) : Own w' base e size v n xs := by
  obtain ⟨a, cap, rfl, hl, hn, hm, h⟩ := h
  refine ⟨a, cap, rfl, hl, hn, hm, ?_⟩
  rcases h with h0 | ⟨g, cur, rfl, hb, hgg, hc, ht⟩
  · exact .inl h0
  · by_cases h0 : cap = 0
    · exact .inl h0
    · refine .inr ⟨g, cur, rfl, hb, ?_, hc, ht⟩
      rw [hg.block g (Array.getElem?_eq_some_iff.1 hgg).1 ?_]; exact hgg
      obtain ⟨c, rfl⟩ := Nat.exists_eq_succ_of_ne_zero h0
      exact fun h => hne g (by simp [blk]) h.symm

theorem Own.below {w w' : World} {base : Nat} {e : TypeId} {size : Nat} {v : Value} {n : Nat} {xs : List Value} (h : Own w base e size v n xs) (hb : Below w.heap.size w w') : Own w' base e size v n xs := by
  obtain ⟨a, cap, rfl, hl, hn, hm, h⟩ := h
  refine ⟨a, cap, rfl, hl, hn, hm, ?_⟩
  rcases h with h0 | ⟨g, cur, rfl, hb', hgg, hc, ht⟩
  · exact .inl h0
  · refine .inr ⟨g, cur, rfl, hb', ?_, hc, ht⟩
    rw [hb.block g (Array.getElem?_eq_some_iff.1 hgg).1]; exact hgg

theorem Own.base {w : World} {base base' : Nat} {e : TypeId} {size : Nat} {v : Value} {n : Nat} {xs : List Value} (h : Own w base e size v n xs) (hb : base' ≤ base) : Own w base' e size v n xs := by
  obtain ⟨a, cap, rfl, hl, hn, hm, h⟩ := h
  refine ⟨a, cap, rfl, hl, hn, hm, ?_⟩
  rcases h with h0 | ⟨g, cur, rfl, hb', r⟩
  · exact .inl h0
  · exact .inr ⟨g, cur, rfl, by omega, r⟩

theorem Own.lt {w : World} {base : Nat} {e : TypeId} {size : Nat} {v : Value} {n : Nat} {xs : List Value} (h : Own w base e size v n xs) : ∀ k, blk v = some k → base ≤ k ∧ k < w.heap.size := by
  obtain ⟨a, cap, rfl, hl, hn, hm, h⟩ := h
  intro k hk
  rcases h with h0 | ⟨g, cur, rfl, hb', hgg, r⟩
  · subst h0; cases a <;> simp [blk] at hk
  · have := (Array.getElem?_eq_some_iff.1 hgg).1
    cases cap with
    | zero => simp [blk] at hk
    | succ c => simp [blk] at hk; subst hk; exact ⟨hb', this⟩

theorem Own.empty (w : World) (base : Nat) (e : TypeId) (size : Nat) (a : Option Addr) : Own w base e size (.slice a 0 0) 0 [] :=
  ⟨a, 0, rfl, by simp, Nat.le_refl _, Nat.zero_le _, .inl rfl⟩

theorem Own.made {w : World} {base : Nat} {e : TypeId} {size : Nat} {n cap : Nat} (cur : Array Value) (g : Nat) (hg : w.heap[g]? = some (.cells cur e (0, 0))) (hb : base ≤ g) (hs : cur.size = cap * size) (hn : n ≤ cap) (hm : cap ≤ maxLen) :
    Own w base e size (.slice (some ⟨g, 0, none⟩) n cap) n (cur.toList.take (n * size)) :=
  ⟨_, cap, rfl, by have := Nat.mul_le_mul_right size hn; simp; omega, hn, hm, .inr ⟨g, cur, rfl, hb, hg, hs, rfl⟩⟩

section
variable {P : Program} (w : World)
theorem run_append_Own (base : Nat) (t ty e : TypeId) (i : TypeInfo) (z : Value) (size bytes : Nat) (ht : P.underlying t = some (.slice e)) (hi : P.info? e = some i) (hz : i.zero = some z)
    (hsize : i.size = size) (hby : i.bytes = bytes) (hzs : z.cells.size = size) (hsz : 0 < size)
    (v : Value) (n : Nat) (xs : List Value) (hown : Own w base e size v n xs)
    (a : Option Addr) (m c : Nat) (news : List Value) (hl : news.length = m * size) (hnews : Cells w a news) (h1 : ∀ u ∈ news, u.oneCell' = true)
    (hbytes : (n + m) * bytes ≤ 140737488355328) (hb0 : 0 < bytes) (hbase : base ≤ w.heap.size) :
    ∃ a' cap' w', (Builtin.append_ #[t, t] ty #[v, .slice a m c]).run P w = .ok (.slice a' (n + m) cap') w' ∧ Own w' base e size (.slice a' (n + m) cap') (n + m) (xs ++ news) ∧ w.grownBy w' (blk v) ∧
      (blk (.slice a' (n + m) cap') = blk v ∨ ∃ k, blk (.slice a' (n + m) cap') = some k ∧ w.heap.size ≤ k) := by
  have h63 : n + m ≤ maxLen := by
    have : (n + m) * 1 ≤ (n + m) * bytes := Nat.mul_le_mul_left _ hb0
    simp only [maxLen]; omega
  by_cases hm : m = 0
  · subst hm
    have hn0 : news = [] := List.eq_nil_of_length_eq_zero (by simpa using hl)
    subst hn0
    obtain ⟨a0, cap, rfl, hxl, hnc, hcm, hr⟩ := hown
    refine ⟨a0, cap, w, ?_, ?_, ⟨rfl, rfl, rfl, Nat.le_refl _, fun _ _ _ => rfl⟩, .inl rfl⟩
    · cases a <;> cases a0 <;> simp [Builtin.append_, run_underlying ht, sizeOf, typeInfo, hi, Builtin.lenOf, Builtin.firstCells, hnc, loadCells, loadCellsFrom, storeCells]
    · exact ⟨a0, cap, rfl, by simpa using hxl, hnc, hcm, by simpa using hr⟩
  · have hnp : 0 < news.length := by rw [hl]; exact Nat.mul_pos (by omega) hsz
    obtain ⟨b, o, rfl, hn', _⟩ := hnews.news hnp
    obtain ⟨a0, cap, rfl, hxl, hnc, hcm, hr⟩ := hown
    by_cases hc0 : cap = 0
    · subst hc0
      have hn0 : n = 0 := by omega
      subst hn0
      have hx : xs = [] := List.eq_nil_of_length_eq_zero (by simpa using hxl)
      subst hx
      clear hr
      rcases a0 with _ | a0
      · have hr := run_append_own (P := P) w base t ty e i z size bytes ht hi hz hsize hby hzs hsz (.slice none 0 0) 0 [] (World.ownsRow_nil w base e size) ⟨b, o, none⟩ m c news hl hn' h1 h63 hbytes hbase
        obtain ⟨v', w', hrun, hown', hg, _⟩ := hr
        obtain ⟨hl', hv⟩ := hown'
        rcases hv with ⟨rfl, h0⟩ | ⟨g, cap', cur, rfl, hbg, hgg, hncap, hcapm, hcs, htk⟩
        · omega
        · have hgn : some g ≠ Value.ownBlock (.slice none 0 0) := by simp [Value.ownBlock]
          refine ⟨_, _, w', hrun, ⟨_, cap', rfl, hl', hncap, hcapm, .inr ⟨g, cur, rfl, hbg, hgg, hcs, htk⟩⟩, hg, .inr ⟨g, ?_, ?_⟩⟩
          · exact blk_pos _ 0 (by omega)
          · have hrr := run_append_nil (P := P) w t ty e i z ht hi hz ⟨b, o, none⟩ m c news (by rw [hl, hsize]) hn' (by omega) (by simp [maxLen] at h63; omega) (by rw [hby]; simp at hbytes; omega)
            rw [hrr] at hrun
            simp at hrun
            omega
      · have hr := run_append_arg_grows (P := P) w t ty e i z size bytes ht hi hz hsize hby hzs hsz a0 0 0 [] (by simp) (by simp) ⟨b, o, none⟩ m c news hl hn' (by omega) h63 hbytes
        obtain ⟨v', w', hrun, hown', hg⟩ := hr
        obtain ⟨hl', hv⟩ := hown'
        rcases hv with ⟨rfl, h0⟩ | ⟨g, cap', cur, rfl, hbg, hgg, hncap, hcapm, hcs, htk⟩
        · omega
        · refine ⟨_, _, w', hrun, ⟨_, cap', rfl, hl', hncap, hcapm, .inr ⟨g, cur, rfl, by omega, hgg, hcs, htk⟩⟩, hg, .inr ⟨g, ?_, hbg⟩⟩
          exact blk_pos _ 0 (by omega)
    · rcases hr with h0 | ⟨g, cur, rfl, hbg, hgg, hcs, htk⟩
      · omega
      · have hro : w.ownsRow base e size (.slice (some ⟨g, 0, none⟩) n cap) n xs := ⟨hxl, .inr ⟨g, cap, cur, rfl, hbg, hgg, hnc, hcm, hcs, htk⟩⟩
        obtain ⟨c0, rfl⟩ := Nat.exists_eq_succ_of_ne_zero hc0
        by_cases hroom : n + m ≤ c0 + 1
        · have hfit : n * i.size + news.length ≤ cur.size := by rw [hl, hcs, hsize, ← Nat.add_mul]; exact Nat.mul_le_mul_right _ hroom
          have hrr := run_append_room (P := P) w t ty e i ht hi g n (c0 + 1) cur hgg ⟨b, o, none⟩ m c news (by rw [hl, hsize]) hn' h1 hroom hfit
          refine ⟨_, _, _, hrr, ⟨_, c0 + 1, rfl, by simp [hxl, hl, Nat.add_mul], hroom, hcm, .inr ⟨g, _, rfl, hbg, setRow_heap w g cur _ e _ hgg, ?_, ?_⟩⟩, ⟨rfl, rfl, rfl, by simp, fun k _ hk => setRow_other w g k _ (fun e => hk (by simp [blk, e]))⟩, .inl rfl⟩
          · simp only [Nat.succ_eq_add_one] at hcs
            simp only [List.size_toArray, List.length_append, List.length_take, List.length_drop, Array.length_toList]
            omega
          · rw [hsize, htk]
            have : (xs ++ news).length = (n + m) * size := by simp [hxl, hl, Nat.add_mul]
            rw [← this]
            exact List.take_left
        · have hr := run_append_arg_grows (P := P) w t ty e i z size bytes ht hi hz hsize hby hzs hsz ⟨g, 0, none⟩ n (c0 + 1) xs hxl (hro.cells rfl) ⟨b, o, none⟩ m c news hl hn' (by omega) h63 hbytes
          obtain ⟨v', w', hrun, hown', hg⟩ := hr
          obtain ⟨hl', hv⟩ := hown'
          rcases hv with ⟨rfl, h0⟩ | ⟨g', cap', cur', rfl, hbg', hgg', hncap, hcapm, hcs', htk'⟩
          · omega
          · refine ⟨_, _, w', hrun, ⟨_, cap', rfl, hl', hncap, hcapm, .inr ⟨g', cur', rfl, by omega, hgg', hcs', htk'⟩⟩, ⟨hg.os, hg.tape, hg.output, hg.size, fun k hk _ => hg.block k hk (by simp)⟩, .inr ⟨g', ?_, hbg'⟩⟩
            exact blk_pos _ 0 (by omega)

theorem wp_append_Own {o : Oper} {a : Act} {K : Act → World → Prop} {Q : Exit → Act → World → Prop} (s x : Operand) (t : TypeId)
    (ho : o.op = .call { callee := .builtin .append, args := #[s, x], argTypes := #[t, t] })
    (base : Nat) (e : TypeId) (i : TypeInfo) (z : Value) (size bytes : Nat) (ht : P.underlying t = some (.slice e)) (hi : P.info? e = some i) (hz : i.zero = some z)
    (hsize : i.size = size) (hby : i.bytes = bytes) (hzs : z.cells.size = size) (hsz : 0 < size)
    (v : Value) (n : Nat) (xs : List Value) (hs : a.eval s = v) (hown : Own w base e size v n xs)
    (ad : Option Addr) (m c : Nat) (news : List Value) (hx : a.eval x = .slice ad m c) (hl : news.length = m * size) (hnews : Cells w ad news) (h1 : ∀ u ∈ news, u.oneCell' = true)
    (hbytes : (n + m) * bytes ≤ 140737488355328) (hb0 : 0 < bytes) (hbase : base ≤ w.heap.size)
    (h : ∀ a' cap' w', Own w' base e size (.slice a' (n + m) cap') (n + m) (xs ++ news) → w.grownBy w' (blk v) → (blk (.slice a' (n + m) cap') = blk v ∨ ∃ k, blk (.slice a' (n + m) cap') = some k ∧ w.heap.size ≤ k) → K (a.put o.dst (.slice a' (n + m) cap')) w') : o.wp P a w K Q := by
  obtain ⟨a', cap', w', hr, h2, h3, h4⟩ := run_append_Own (P := P) w base t o.type e i z size bytes ht hi hz hsize hby hzs hsz v n xs hown ad m c news hl hnews h1 hbytes hb0 hbase
  unfold Oper.wp execOp
  simp only [ho, resolve, invoke, builtin, Sem.run_bind, Sem.run_pure, Result.andThen_ok, List.map_toArray, List.map_cons, List.map_nil, hs, hx, hr]
  exact h a' cap' w' h2 h3 h4

theorem wpList_wanted {ops : Array Oper} {rest : List Oper} {o : Oper} {a : Act} {Q : Exit → Act → World → Prop} (hw : Region.wanted o (yielded ops a.tmps) = true)
    (h : ∀ K : Act → World → Prop, (∀ a w, wpList P ops Q rest a w → K a w) → o.wp P a w K Q) : wpList P ops Q (o :: rest) a w := by
  unfold wpList
  rw [if_pos hw]
  exact .inl (h _ (fun _ _ h => h))

theorem wpList_append_Own {ops : Array Oper} {rest : List Oper} {o : Oper} {a : Act} {Q : Exit → Act → World → Prop} (hgd : Region.wanted o (yielded ops a.tmps) = true) (s x : Operand) (t : TypeId)
    (ho : o.op = .call { callee := .builtin .append, args := #[s, x], argTypes := #[t, t] })
    (base : Nat) (e : TypeId) (i : TypeInfo) (z : Value) (size bytes : Nat) (ht : P.underlying t = some (.slice e)) (hi : P.info? e = some i) (hz : i.zero = some z)
    (hsize : i.size = size) (hby : i.bytes = bytes) (hzs : z.cells.size = size) (hsz : 0 < size)
    (v : Value) (n : Nat) (xs : List Value) (hs : a.eval s = v) (hown : Own w base e size v n xs)
    (ad : Option Addr) (m c : Nat) (news : List Value) (hx : a.eval x = .slice ad m c) (hl : news.length = m * size) (hnews : Cells w ad news) (h1 : ∀ u ∈ news, u.oneCell' = true)
    (hbytes : (n + m) * bytes ≤ 140737488355328) (hb0 : 0 < bytes) (hbase : base ≤ w.heap.size)
    (h : ∀ a' cap' w', Own w' base e size (.slice a' (n + m) cap') (n + m) (xs ++ news) → w.grownBy w' (blk v) → (blk (.slice a' (n + m) cap') = blk v ∨ ∃ k, blk (.slice a' (n + m) cap') = some k ∧ w.heap.size ≤ k) → wpList P ops Q rest (a.put o.dst (.slice a' (n + m) cap')) w') : wpList P ops Q (o :: rest) a w :=
  wpList_wanted w hgd fun _ hK => wp_append_Own w s x t ho base e i z size bytes ht hi hz hsize hby hzs hsz v n xs hs hown ad m c news hx hl hnews h1 hbytes hb0 hbase fun a' cap' w' h2 h3 h4 => hK _ _ (h a' cap' w' h2 h3 h4)
end

theorem below_grown {B : Nat} {w w' : World} {row : Option Nat} (hg : w.grownBy w' row) (hB : B ≤ w.heap.size) (hr : ∀ k, row = some k → B ≤ k) : Below B w w' :=
  (Below.refl B w).grown hg hB hr

/-- bytes that the call owns -/
def OwnB (w : World) (base : Nat) (e : TypeId) (v : Value) (l : List UInt8) : Prop := Own w base e 1 v l.length (l.map bv)

theorem bv_one (l : List UInt8) : ∀ u ∈ l.map bv, u.oneCell' = true := by
  intro u hu
  obtain ⟨c, _, rfl⟩ := List.mem_map.1 hu
  rfl

theorem OwnB.bytes {w : World} {base : Nat} {e : TypeId} {a : Option Addr} {n cap : Nat} {l : List UInt8} (h : OwnB w base e (.slice a n cap) l) : Bytes w a n l := by
  obtain ⟨a', cap', hv, hl, hn, hm, h'⟩ := h
  simp at hv; obtain ⟨rfl, rfl, rfl⟩ := hv
  exact ⟨rfl, by omega, Own.cells (n := l.length) (cap := cap) (base := base) (e := e) (size := 1) ⟨a, cap, rfl, hl, hn, hm, h'⟩⟩

theorem OwnB.cap {w : World} {base : Nat} {e : TypeId} {a : Option Addr} {n cap : Nat} {l : List UInt8} (h : OwnB w base e (.slice a n cap) l) : n ≤ cap ∧ cap ≤ maxLen := by
  obtain ⟨a', cap', hv, hl, hn, hm, h'⟩ := h
  simp at hv; obtain ⟨rfl, rfl, rfl⟩ := hv
  exact ⟨hn, hm⟩

theorem appB_run {P : Program} {w : World} {ops : Array Oper} {rest : List Oper} {o : Oper} {a : Act} {Q : Exit → Act → World → Prop} (t e : TypeId) (i : TypeInfo) (z : Value) (ht : P.underlying t = some (.slice e)) (hi : P.info? e = some i) (hz : i.zero = some z)
    (hsize : i.size = 1) (hby : i.bytes = 1) (hzs : z.cells.size = 1) (hgd : Region.wanted o (yielded ops a.tmps) = true) (s x : Operand)
    (ho : o.op = .call { callee := .builtin .append, args := #[s, x], argTypes := #[t, t] })
    {base : Nat} {v : Value} {l : List UInt8} (hown : OwnB w base e v l) {ad : Option Addr} {mn c : Nat} {m : List UInt8} (hsrc : Bytes w ad mn m) (hs : a.eval s = v) (hx : a.eval x = .slice ad mn c)
    (hbase : base ≤ w.heap.size) (hsmall : l.length + m.length ≤ 140737488355328)
    (h : ∀ a' m' cap' w', OwnB w' base e (.slice a' m' cap') (l ++ m) → w.grownBy w' (blk v) → (blk (.slice a' m' cap') = blk v ∨ ∃ k, blk (.slice a' m' cap') = some k ∧ w.heap.size ≤ k) → wpList P ops Q rest (a.put o.dst (.slice a' m' cap')) w') : wpList P ops Q (o :: rest) a w := by
  obtain ⟨rfl, _, hsrc2⟩ := hsrc
  refine wpList_append_Own w hgd s x t ho base e i z 1 1 ht hi hz hsize hby hzs (by omega) v l.length (l.map bv) hs hown ad m.length c (m.map bv) hx (by simp) hsrc2 (bv_one m) (by omega) (by omega) hbase ?_
  intro a' cap' w' h1 h2 h3
  have e1 : l.length + m.length = (l ++ m).length := by simp
  rw [e1] at h1 h3 ⊢
  exact h a' _ cap' w' (by unfold OwnB; rw [List.map_append]; exact h1) h2 h3

theorem OwnB.below {w w' : World} {base : Nat} {e : TypeId} {v : Value} {l : List UInt8} (h : OwnB w base e v l) (hb : Below w.heap.size w w') : OwnB w' base e v l := Own.below h hb
theorem OwnB.kept {w w' : World} {base : Nat} {e : TypeId} {v : Value} {l : List UInt8} {row : Option Nat} (h : OwnB w base e v l) (hg : w.grownBy w' row) (hne : ∀ k, blk v = some k → row ≠ some k) : OwnB w' base e v l := Own.kept h hg hne
theorem OwnB.lt {w : World} {base : Nat} {e : TypeId} {v : Value} {l : List UInt8} (h : OwnB w base e v l) : ∀ k, blk v = some k → base ≤ k ∧ k < w.heap.size := Own.lt h
theorem OwnB.nil (w : World) (base : Nat) (e : TypeId) (a : Option Addr) : OwnB w base e (.slice a 0 0) [] := Own.empty w base e 1 a
/-- an append to what the call owns leaves all below its base -/
theorem OwnB.grown {B : Nat} {w w' : World} {base : Nat} {e : TypeId} {v : Value} {l : List UInt8} (h : OwnB w base e v l) (hg : w.grownBy w' (blk v)) (hB : B ≤ base) (hs : base ≤ w.heap.size) : Below B w w' :=
  (Below.refl B w).grown hg (by omega) fun k hk => Nat.le_trans hB (h.lt k hk).1

theorem balloc (w : World) (o : Obj) : Below w.heap.size w (w.alloc o) := (Below.refl _ _).alloc (Nat.le_refl _) _

/-- an append to what the call owns, behind what it did before -/
theorem bapp {w wA w' : World} {base : Nat} {e : TypeId} {v : Value} {l : List UInt8} (hB : Below w.heap.size w wA) (ho : OwnB wA base e v l) (hb : w.heap.size ≤ base) (hg : wA.grownBy w' (blk v)) : Below w.heap.size w w' :=
  hB.trans (below_grown hg hB.size fun k hk => Nat.le_trans hb (ho.lt k hk).1)

theorem bthen {w w1 w2 : World} (h : Below w.heap.size w w1) (h' : Below w1.heap.size w1 w2) : Below w.heap.size w w2 := h.trans (h'.mono h.size)
end Go.Proofs.YtohhjbfkgokopaaDoor
