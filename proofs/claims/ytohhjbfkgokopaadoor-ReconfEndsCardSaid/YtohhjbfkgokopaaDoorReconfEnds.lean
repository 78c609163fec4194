/- The law ReconfEnds holds: for every input the call returns true, and every argument reads behind it as it did; the tables of math/bits that it reads are tied to the program's text. No condition. -/
import Derived.Test.YtohhjbfkgokopaaDoorTie
import Derived.Test.YtohhjbfkgokopaaDoorCards
import Derived.Test.YtohhjbfkgokopaaDoorSeat
import Derived.Test.YtohhjbfkgokopaaDoorRcI
import Derived.Test.YtohhjbfkgokopaaDoorRcT
import Derived.ProofKit
import Derived.OpenShut
import Derived.LaidMore
import Derived.Lay
import Derived.SevenTiedAt
import Derived.Stop.Joined
namespace Go.Proofs.YtohhjbfkgokopaaDoor.reconfEndsDone
open Go.ChangeShapes Go.WideShapes Go.ChangeAt Go.RowKit
set_option linter.unusedVariables false

set_option maxRecDepth 100000 in
theorem lifted (os : Os) (started : os.Started) (H : Type) (enc : TypeId × Value → H) :
    ReturnsInHanded {} Tryd.checked os 4 .any (fun w args => (Rows.reconfEndsSpec.pre enc Tryd.prog Tryd.f4 Rows.reconfEndsRow.domain false w args ∧ laidMetH Tryd.prog Rc.laid2 w) ∧ sizedMet enc Tryd.prog Tryd.f4 (OpenSpec.ofChange Rows.reconfEndsSpec) false w args)
      (Rows.reconfEndsSpec.post enc Tryd.prog Tryd.f4 false true false false) := by
  refine returnsInHanded_of_change_and (C := Tryd.checked) (X := fun w _ => laidMetH Tryd.prog Rc.laid2 w) (fun _ _ _ hh h => h.of_heap hh) seatOwn started (by kernel_rfl) Tryd.func4
    (ChangeSpec.witness_shaped (enc := enc) (C := Tryd.checked) (os := os) (X := fun w _ => laidMetH Tryd.prog Rc.laid2 w) false (World.laidAll Tryd.prog os Rc.laid2) #[.agg #[.int .u64 0, .slice none 0 0, .slice none 0 0], .int .u8 0, .int .u64 0, .int .u16 0] 8 (World.laidAll_os _ _ _)
      (World.shaped_of_ZipB (by kernel_rfl) (by kernel_rfl)) (by kernel_rfl) (by kernel_rfl) (by kernel_rfl)
      (by rw [MakeChecks.laidMetH_plain _ _ _ (by kernel_rfl)]; exact laidMet_laidAll _ (by kernel_rfl) (by kernel_rfl))) ?_
  intro W base args ds gs before hval0 hW hc _ hL _
  have hval : ∀ (j : Nat) t v, Tryd.f4.params[j]? = some t → args[j]? = some v → Value.okWide Tryd.prog W .any base t v := hval0
  have hW' := hW
  have hT := Rc.tabs_of hL
  obtain ⟨p, q, hA0, hV, rfl, hfz, hnd⟩ := hW
  have hA : DataW.TrodAll enc Tryd.prog W 0 (fun _ => true) true Tryd.f4.params.toList args.toList ds p := hA0
  have hall := fun (W' : World) (bel : Below W.heap.size W W') => trodAll_below (W' := W') seatLaid bel Tryd.f4.params.toList args.toList ds p (by kernel_rfl) hA (trodAll_lt _ _ _ _ hA)
  rw [Tryd.params4] at hA hval
  obtain ⟨v0, vs0, d0, ds0, p0, q0, hargs, rfl, rfl, h0, r0⟩ := trodAll_cons hA
  obtain ⟨v1, vs1, d1, ds1, p1, q1, rfl, rfl, rfl, h1, r1⟩ := trodAll_cons r0
  obtain ⟨v2, vs2, d2, ds2, p2, q2, rfl, rfl, rfl, h2, r2⟩ := trodAll_cons r1
  obtain ⟨v3, vs3, d3, ds3, p3, q3, rfl, rfl, rfl, h3, r3⟩ := trodAll_cons r2
  obtain ⟨rfl, rfl, rfl⟩ := trodAll_nil r3
  obtain rfl : args = #[v0, v1, v2, v3] := by cases args; simp_all
  obtain ⟨rfl, rfl⟩ := trodVars_none hV
  obtain ⟨x0, a0, rfl, b0⟩ := Rc.conf_arg (hval 0 25 v0 rfl rfl) h0
  obtain ⟨x1, rfl, rfl, rfl, w1⟩ := open_int Tryd.underlying5 (hval 1 5 v1 rfl rfl) h1
  obtain ⟨y1, rfl⟩ : ∃ k : UInt8, x1 = (k.toNat : Int) := ⟨_, (u8_of _ w1).symm⟩
  obtain ⟨x2, rfl, rfl, rfl, w2⟩ := open_int Tryd.underlying22 (hval 2 22 v2 rfl rfl) h2
  obtain ⟨x3, rfl, rfl, rfl, w3⟩ := open_int Tryd.underlying29 (hval 3 29 v3 rfl rfl) h3
  clear hA0 hval0
  refine (Rc.reconfEndsW W hT x0 a0 b0 y1 x2 (bounds_u64 w2) x3 (bounds_u16 w3)).mono fun e W' ⟨he, bel⟩ => ?_
  subst he
  exact ⟨_, rfl, _, _, _, [], _, [], hW', trodAll_mk1 (shut_bool Tryd.underlying4 _), hall W' bel, rfl, bel.frame _, fun h => by cases h⟩

theorem over : Rows.reconfEndsRow.holds Tryd.pinned (OpenSpec.ofChange Rows.reconfEndsSpec) :=
  OpenClaim.holds_of_wide 4 Tryd.f4 rfl rfl rfl rfl rfl rfl rfl ⟨rfl, rfl, rfl, rfl, rfl⟩ rfl rfl rfl rfl rfl (by kernel_rfl) Tryd.func4 (by kernel_rfl)
    (of_decide_eq_true (by kernel_rfl)) (by unfold Func.isWrapper; rw [if_neg (of_decide_eq_false (by kernel_rfl))]; exact ⟨rfl, rfl⟩)
    (fun os started H enc _ => lifted os started H enc)

/-- the given statement: the tied card -/
theorem proved : Rows.ReconfEndsCardSaid :=
  Claim7.holds_tied_plain_at .later [] [.data, .data] true (true, "81c18cfd0f040085779b9524afafdca394ebfda69d91583df4d6dd68dd59e2f9") false over (fun _ h => by cases h) (by kernel_rfl) (fun _ h => by cases h) reconfEnds_row_tie rfl ⟨rfl, rfl⟩ (by kernel_rfl) rfl
    (fun f fn hf hfn => by
      obtain rfl : f = 4 := Option.some.inj ((show Tryd.prog.funcNamed "scrutineer/scrutineerlaw23.ReconfEnds" = some 4 by kernel_rfl).symm.trans hf) |>.symm
      obtain rfl : fn = Tryd.f4 := (Option.some.inj (Tryd.func4.symm.trans hfn)).symm
      exact ⟨by kernel_rfl, fun j t ht => by
        rw [Tryd.params4] at ht
        have hm : t ∈ [25, 5, 22, 29] := by simpa using Array.mem_of_getElem? ht
        have hall : ([25, 5, 22, 29].all fun u => !Tryd.prog.wantsStandIn u) = true := by kernel_rfl
        exact (show Tryd.prog.wantsStandIn t = false by simpa using List.all_eq_true.1 hall t hm)⟩)
    (by kernel_rfl)
#print axioms proved
end Go.Proofs.YtohhjbfkgokopaaDoor.reconfEndsDone
