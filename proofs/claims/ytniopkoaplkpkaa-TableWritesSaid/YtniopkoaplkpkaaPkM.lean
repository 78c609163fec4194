/- Bytes that come back new, as the walk that names what it knows wants them; the contracts of PutNum, PutInt and the document's Num, Int so. Conditions: the bytes can be read and are few. -/
import Derived.Test.YtniopkoaplkpkaaPackN
import Derived.Test.YtniopkoaplkpkaaSyS
import Derived.Test.YtniopkoaplkpkaaJoin
import Derived.Test.YtniopkoaplkpkaaRegD
import Derived.Test.YtniopkoaplkpkaaRowS
namespace Go.Proofs.Ytniopkoaplkpkaa
open Go.RowKit
set_option linter.unusedVariables false
set_option linter.unusedSimpArgs false
open Sy (RetV RetM Sub)
/-- bytes in new memory -/
def BytF (B : Nat) (l : List UInt8) (m : World) (v : Value) : Prop := ∃ a cap, v = .slice a l.length cap ∧ Bytes m a l.length l ∧ l.length ≤ cap ∧ cap ≤ maxLen ∧ (l = [] ∨ ∀ ad, a = some ad → B ≤ ad.block)
/-- bytes come back in new memory -/
def RetF (w : World) (l : List UInt8) (e : Ending) (w' : World) : Prop := ∃ v, e = .returned v ∧ Below w.heap.size w w' ∧ BytF w.heap.size l w' v
theorem BytF.base {B B' : Nat} {l : List UInt8} {m : World} {v : Value} (h : BytF B l m v) (hb : B' ≤ B) : BytF B' l m v := by
  obtain ⟨a, cap, h1, h2, h3, h4, h5⟩ := h
  refine ⟨a, cap, h1, h2, h3, h4, ?_⟩
  rcases h5 with h5 | h5
  · exact .inl h5
  · exact .inr fun ad had => Nat.le_trans hb (h5 ad had)
theorem BytF.sub {B : Nat} {l : List UInt8} {m m' : World} {v : Value} (h : BytF B l m v) (hs : Sub m m') : BytF B l m' v := by
  obtain ⟨a, cap, h1, h2, h3⟩ := h
  exact ⟨a, cap, h1, h2.sub hs, h3⟩
theorem retF_B {w : World} {l : List UInt8} {e : Ending} {w' : World} (h : Go.Proofs.Ytniopkoaplkpkaa.RetB w l e w') : RetF w l e w' := by
  obtain ⟨a, n, cap, rfl, ho, hb⟩ := h
  have h1 := ho.bytes
  obtain rfl := h1.1
  refine ⟨_, rfl, hb, a, cap, rfl, h1, ho.cap.1, ho.cap.2, ?_⟩
  obtain ⟨a', cap', hv, hl, hn, hm, hr⟩ := ho
  simp at hv
  obtain ⟨rfl, rfl⟩ := hv
  by_cases h0 : l = []
  · exact .inl h0
  · right
    rcases hr with hr | ⟨g, cur, rfl, hg, _⟩
    · have : l.length = 0 := by omega
      exact (h0 (List.eq_nil_of_length_eq_zero this)).elim
    · intro ad had
      cases had
      exact hg
theorem retM_F {m w : World} (hs : Sub m w) {l : List UInt8} {e : Ending} {w' : World} (h : RetF w l e w') : RetM m w (BytF w.heap.size l) e w' := by
  obtain ⟨v, rfl, hb, a, cap, rfl, h1, h2, h3, h4⟩ := h
  obtain ⟨m', q1, q2, q3, q4⟩ := Sy.retM_of_own hs hb
  refine ⟨_, m', rfl, hb, q1, q2, q3, a, cap, rfl, ⟨h1.1, h1.2.1, ?_⟩, h2, h3, h4⟩
  rcases h1.2.2 with hc | ⟨b, o, ha, hc⟩
  · exact .inl hc
  · by_cases h0 : l = []
    · left; simp [h0]
    · right
      refine ⟨b, o, ha, fun i hi => ?_⟩
      have hbk : w.heap.size ≤ b := (h4.resolve_left h0) _ ha
      have hlt := World.block_lt_of_cell? w' _ (hc i hi)
      rw [World.cell?_of_block (w := w') (q4 b hbk hlt)]
      exact hc i hi
theorem callsF {f : FuncId} {args : Array Value} {m w : World} (hs : Sub m w) {l : List UInt8} (h : Calls Try.prog f args w (RetF w l)) : Calls Try.prog f args w (RetM m w (BytF w.heap.size l)) := h.mono fun _ _ r => retM_F hs r
theorem MemE.retF {E : Sy.Ext} {W m0 m w : World} {bs : List Sy.Blk} {l : List UInt8} {v : Value} (F : Sy.MemE E ⟨W, [], m0⟩ m bs w) (h : BytF W.heap.size l m v) : RetF W l (.returned v) w := ⟨v, rfl, F.end_, h.sub F.sub⟩
namespace Pk
theorem putNumF {w : World} {a : Option Addr} {cap : Nat} {l : List UInt8} (x : Nat) (hb : Bytes w a l.length l) (hx : x < 18446744073709551616) (hsmall : l.length ≤ 70368744177664) :
    Calls Try.prog 72 #[.slice a l.length cap, .int .u64 (x : Int)] w (RetF w (l ++ numB x)) := (putNum_any a l.length cap l (x : Int) w hb (by omega) (by omega) hsmall).mono fun _ _ r => retF_B r
theorem putIntF {w : World} {a : Option Addr} {cap : Nat} {l : List UInt8} (x : Int) (hb : Bytes w a l.length l) (h0 : -9223372036854775808 ≤ x) (h1 : x ≤ 9223372036854775807) (hsmall : l.length ≤ 70368744177664) :
    Calls Try.prog 54 #[.slice a l.length cap, .int .i64 x] w (RetF w (l ++ numB (zig x))) := (putInt_any a l.length cap l x w hb h0 h1 hsmall).mono fun _ _ r => retF_B r
end Pk
end Go.Proofs.Ytniopkoaplkpkaa
