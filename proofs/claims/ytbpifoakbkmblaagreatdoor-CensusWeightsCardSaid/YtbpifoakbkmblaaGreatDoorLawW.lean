/- The law CensusWeights: the contract of its function, as the row says it: for every input it returns true, and nothing that was there is changed (where the listed table reads as the row lists it). -/
import Derived.Test.YtbpifoakbkmblaaGreatDoorCards
import Derived.Test.YtbpifoakbkmblaaGreatDoorTie
import Derived.Test.YtbpifoakbkmblaaGreatDoorPe
import Derived.Test.YtbpifoakbkmblaaGreatDoorXe
import Derived.WalkKit
import Derived.ProofKit
import Derived.OpenShut
import Derived.ShutString
import Derived.ChangeOld
import Derived.Below
import Derived.SizedLaws
import Derived.Carry
import Derived.LaidMore
import Derived.Lay
import Derived.Handed
import Derived.MakeChecks
import Derived.SevenTiedAt
set_option linter.unusedVariables false
namespace Go.Proofs.YtbpifoakbkmblaaGreatDoor.censusWeights
open Go.ChangeShapes Go.WideShapes Go.ChangeAt Go.RowKit Go.Proofs.YtbpifoakbkmblaaGreatDoor
open Go.Proofs.YtbpifoakbkmblaaGreatDoor.Pw (allF arg_D law_calls noBe cx okc GlF glRaw fcell)
theorem own : ownKnob Tryz.prog.godebug = none := by kernel_rfl
theorem laidOut : laidOutB Tryz.prog = true := by kernel_rfl
def tabZ : List Int := (glRaw.getD 0 (0, .u8, [])).2.2
/-- What the row says of the table, as the proof needs it. -/
theorem gl_of {W : World} (h : laidMetH Tryz.prog Rows.censusWeightsRow.laid W) : GlF (allF W) := by
  rw [MakeChecks.laidMetH_plain _ _ _ (by kernel_rfl)] at h
  obtain ⟨ps, ⟨g, t, cs, fuel, p, q, hg, ht, hv, hd, _, _⟩, _, _⟩ := h
  obtain rfl := Option.some.inj ((show Tryz.prog.globalNamed "math/bits.deBruijn64tab" = some 0 by kernel_rfl).symm.trans hg)
  obtain ⟨tt, htt, hu⟩ : ∃ tt, (Tryz.prog.globals[0]?).map (·.type) = some tt ∧ Tryz.prog.underlying tt = some (.array 64 5) := ⟨197, by kernel_rfl, by kernel_rfl⟩
  obtain rfl := Option.some.inj (htt.symm.trans ht)
  obtain ⟨xs, m, _, ex, _, hl, hel⟩ := DataW.trod_array hu hd
  have c5 : Tryz.prog.cellsOf 5 = 1 := by kernel_rfl
  have hlen : tabZ.length = 64 := by kernel_rfl
  have e3 : (xs.map (·.1)) = tabZ.map fun n => (DataW.lit (.int .u8 n) : DataW Unit) := (DataW.agg.inj (Prod.mk.inj ex).1).symm
  intro pp hpp j n hj
  have hpp2 : pp = (0, .u8, tabZ) := by simpa [glRaw, tabZ] using hpp
  subst hpp2
  have hj2 : tabZ[j]? = some n := hj
  have hjl : j < 64 := by rw [← hlen]; exact (List.getElem?_eq_some_iff.1 hj2).1
  have hE := hel j hjl
  rw [c5, Nat.mul_one, List.getElem?_eq_getElem (by omega)] at hE
  obtain ⟨z, e1, e2, _⟩ := DataW.trod_int Tryz.underlying5 hE
  have e4 : (xs.map (·.1))[j]? = (tabZ.map fun n => (DataW.lit (.int .u8 n) : DataW Unit))[j]? := by rw [e3]
  rw [List.getElem?_map, List.getElem?_map, List.getElem?_eq_getElem (by omega : j < xs.length), hj2, Option.map_some, Option.map_some, e2] at e4
  have hz : z = n := by
    simp only [Option.some.injEq, DataW.lit.injEq, Lit.int.injEq, true_and] at e4
    exact e4
  subst hz
  have h5 : cs.toList[j]? = some (.int .u8 z) := by
    have h0 : ((cs.toList.drop j).take 1)[0]? = some (.int .u8 z) := by rw [e1]; rfl
    simpa using h0
  have h6 : cs[j]? = some (.int .u8 z) := by simpa using h5
  unfold World.var? at hv
  rw [hg, Option.bind_some] at hv
  show fcell (allF W) 0 j = some (.int .u8 z)
  unfold fcell allF
  split at hv
  · rename_i cs' a b hh
    rw [hh]
    cases hv
    exact h6
  · cases hv
set_option maxRecDepth 100000 in
theorem lifted (os : Os) (started : os.Started) (H : Type) (enc : TypeId × Value → H) :
    ReturnsInHanded {} Tryz.checked os 5 .any (fun w args => (Rows.censusWeightsSpec.pre enc Tryz.prog Tryz.f5 Rows.censusWeightsRow.domain false w args ∧ laidMetH Tryz.prog Rows.censusWeightsRow.laid w) ∧ sizedMet enc Tryz.prog Tryz.f5 (OpenSpec.ofChange Rows.censusWeightsSpec) false w args) (Rows.censusWeightsSpec.post enc Tryz.prog Tryz.f5 false true false false) := by
  refine returnsInHanded_of_change_and (C := Tryz.checked) (X := fun w _ => laidMetH Tryz.prog Rows.censusWeightsRow.laid w) (fun _ _ _ hh h => h.of_heap hh) own started (by kernel_rfl) Tryz.func5
    (ChangeSpec.witness_shaped (enc := enc) (C := Tryz.checked) (os := os) (X := fun w _ => laidMetH Tryz.prog Rows.censusWeightsRow.laid w) false (World.laidAll Tryz.prog os Rows.censusWeightsRow.laid) #[.agg #[.slice none 0 0], .slice none 0 0] 8 (World.laidAll_os _ _ _)
      (World.shaped_of_ZipB (by kernel_rfl) (by kernel_rfl)) (by kernel_rfl) (by kernel_rfl) (by kernel_rfl)
      (by rw [MakeChecks.laidMetH_plain _ _ _ (by kernel_rfl)]; exact laidMet_laidAll _ (by kernel_rfl) (by kernel_rfl))) ?_
  intro W base args ds gs before hval0 hW hcnd hsz0 hL _
  have hval : ∀ (j : Nat) t v, Tryz.f5.params[j]? = some t → args[j]? = some v → Value.okWide Tryz.prog W .any base t v := hval0
  have hW' := hW
  obtain ⟨p, q, hA0, hV, rfl, hfz, hnd⟩ := hW
  have hA : DataW.TrodAll enc Tryz.prog W 0 (fun _ => true) true Tryz.f5.params.toList args.toList ds p := hA0
  rw [Tryz.params5] at hA hval
  obtain ⟨v0, vs0, d0, ds0, p0, q0, hargs, rfl, rfl, h0, r0⟩ := trodAll_cons hA
  obtain ⟨v1, vs1, d1, ds1, p1, q1, rfl, rfl, rfl, h1, r1⟩ := trodAll_cons r0
  obtain ⟨rfl, rfl, rfl⟩ := trodAll_nil r1
  obtain rfl : args = #[v0, v1] := by cases args; simp_all
  obtain ⟨rfl, rfl⟩ := trodVars_none hV
  obtain ⟨g0, hr0, ht0⟩ := arg_D (okc 0 0) 6 (t := 37) rfl (hval 0 37 v0 rfl rfl) h0
  have lt0 : ∀ x ∈ p0, x.block < W.heap.size := by obtain ⟨m, hm⟩ := h0; exact DataW.trod_lt m _ _ _ hm
  obtain ⟨g1, hr1, ht1⟩ := arg_D (okc 0 0) 6 (t := 35) rfl (hval 1 35 v1 rfl rfl) h1
  have lt1 : ∀ x ∈ p1, x.block < W.heap.size := by obtain ⟨m, hm⟩ := h1; exact DataW.trod_lt m _ _ _ hm
  refine (law_calls (gl_of hL) (Pw.vWeightsLaw0 g0 g1 ht0 ht1) ⟨v0, _, rfl, hr0, ⟨v1, _, rfl, hr1, rfl⟩⟩).mono fun e W' ⟨he, bel⟩ => ?_
  subst he
  exact ⟨_, rfl, _, _, _, [], _, [], hW', trodAll_mk1 (shut_bool Tryz.underlying4 _), (trodAll_cons_mk (Below.trod laidOut (by kernel_rfl) (of_decide_eq_true (by kernel_rfl)) h0 bel lt0) (trodAll_cons_mk (Below.trod laidOut (by kernel_rfl) (of_decide_eq_true (by kernel_rfl)) h1 bel lt1) trodAll_mk0)), rfl, bel.frame _, fun h => by cases h⟩
theorem over : Rows.censusWeightsRow.holds Tryz.pinned (OpenSpec.ofChange Rows.censusWeightsSpec) :=
  OpenClaim.holds_of_wide 5 Tryz.f5 rfl rfl rfl rfl rfl rfl rfl ⟨rfl, rfl, rfl, rfl, rfl⟩ rfl rfl rfl rfl rfl (by kernel_rfl) Tryz.func5 (by kernel_rfl)
    (of_decide_eq_true (by kernel_rfl)) (by unfold Func.isWrapper; first | (rw [if_pos (by decide +kernel)]; kernel_rfl) | (rw [if_neg (by decide +kernel)]; exact ⟨rfl, rfl⟩))
    (fun os started H enc _ => lifted os started H enc)
theorem proved : Rows.CensusWeightsSaid := over
#print axioms proved
end Go.Proofs.YtbpifoakbkmblaaGreatDoor.censusWeights
namespace Go.Proofs.YtbpifoakbkmblaaGreatDoor
/-- The row, tied to the program's text, for the claim. -/
theorem censusWeights_holds : Rows.CensusWeightsCardSaid :=
  Claim7.holds_tied_plain_at .later [] [.data] true (true, "a2e43bca736a955e3367de0eb095d7690e34817d199cb8c9036cf694619d2620") false censusWeights.proved (fun _ h => by cases h) (by kernel_rfl) (fun _ h => by cases h) censusWeights_row_tie rfl ⟨rfl, rfl⟩ (by kernel_rfl) rfl
    (fun f fn hf hfn => by
      obtain rfl : f = 5 := Option.some.inj ((show Tryz.prog.funcNamed "plexus/plexuslaw29.CensusWeights" = some 5 by kernel_rfl).symm.trans hf) |>.symm
      obtain rfl : fn = Tryz.f5 := (Option.some.inj (Tryz.func5.symm.trans hfn)).symm
      exact ⟨by kernel_rfl, fun j t ht => by
        rw [Tryz.params5] at ht
        have hm : t ∈ [37, 35] := by simpa using Array.mem_of_getElem? ht
        have hall : ([37, 35].all fun u => !Tryz.prog.wantsStandIn u) = true := by kernel_rfl
        exact (show Tryz.prog.wantsStandIn t = false by simpa using List.all_eq_true.1 hall t hm)⟩)
    (by kernel_rfl)
end Go.Proofs.YtbpifoakbkmblaaGreatDoor

