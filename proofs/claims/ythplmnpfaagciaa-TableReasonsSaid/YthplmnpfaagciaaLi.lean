/- Parts of the proof, merged: MI. -/
import Derived.Test.YthplmnpfaagciaaLg
/- TableReasons: each bound of a cell has steps that are accepted and end with it; a better bound has none; with the value of a better one in the last step, they are not accepted, nor are no steps. For every input. -/
set_option linter.unusedVariables false
set_option linter.unusedSimpArgs false
namespace Go.Proofs.Ythplmnpfaagciaa.Pw
open Go

theorem check_nil {K : List Known} (hR : rightK K = true) (G : List Int) : checkR K G [] = 6 := by
  unfold checkR
  rw [if_pos hR, if_neg]
  rintro ⟨⟨h, _⟩, _⟩
  simp at h
/-- The last step with another value. -/
def oddL (L : List Stp) (y : Stp) (v : Int) : List Stp := L.set (L.length - 1) ⟨y.s, v, y.by_, y.at_⟩
theorem odd_bad {K : List Known} {G : List Int} (hR : rightK K = true) {L : List Stp} {y : Stp} {v : Int} (hl : 1 ≤ L.length) {s : Side} (hs : isC 8 s) (hy : y.s = s) (hv : better s v (bst K G 8 s) = true) : checkR K G (oddL L y v) = 6 := by
  refine checkR_bad (y := ⟨y.s, v, y.by_, y.at_⟩) (w := bst K G 8 s) hR ?_ ?_ ?_
  · unfold oddL
    rw [List.length_set, List.getElem?_set_self (by omega)]
  · intro w hw
    rw [hy] at hw ⊢
    exact (isBest_bst (n := 8) hR (Nat.le_refl 8) hs).1.2 w hw
  · rw [hy]; exact hv
theorem odd_map {L : List Stp} {y : Stp} {v : Int} : (L.map Stp.D).set (L.length - 1) (.agg [.int .i64 y.s.n, .int .i64 y.s.d, .bool y.s.up, .int .i64 v, .int .i64 y.by_, atD y.at_]) = (oddL L y v).map Stp.D := by
  unfold oddL; rw [List.map_set]; rfl

set_option maxHeartbeats 4000000 in
theorem vReasons (g0 g1 g2 : D) (h0 : TyD (cx 0 0) 6 24 g0) (h1 : TyD (cx 0 0) 6 26 g1) (h2 : TyD (cx 0 0) 6 5 g2) : Val Try.prog 7 [g0, g1, g2] (fun r => r = .bool true) := by
  obtain ⟨L, rfl, hL⟩ := tyRaw h0
  obtain ⟨G, rfl⟩ := tyInts h1
  obtain ⟨x, rfl, hx1, hx2⟩ := tyU8 h2
  refine Val.of ?_
  refine hc_ofS (okc Try.f7.ntmps 0) (fn := Try.f7) (cd := _) rfl rfl rfl rfl rfl rfl (fun hbd => ?_)
  conv => whnf
  refine Val.call vEx (.refl _) .nil rfl ?_
  rintro r rfl
  conv => whnf
  refine ifb (fun c1 => ?_) (fun c1 => ?_)
  · conv => whnf
    exact ⟨rfl, rfl⟩
  conv => whnf
  refine Val.call (vMade false L hL) (.refl _) (ler _ _) rfl ?_
  rintro r ⟨K, rfl, hK⟩
  have hR := hK.right
  rcases close_cases hR G (n := 8) (by omega) (by omega) with ⟨hc, _⟩ | ⟨hc, hok⟩
  · conv => whnf
    refine Val.call ((vClosed false false K G 8).mono (Q' := fun r => r = closedD ([], 6)) (fun r h => by rw [h]; exact congrArg closedD hc)) (.refl _) (ler _ _) rfl ?_
    rintro r rfl
    conv => whnf
    exact ⟨rfl, rfl⟩
  have hlen : (cellsC K G 8 8).length = 36 := by have := cells_len2 (K := K) (G := G) (n := 8) 8; omega
  obtain ⟨i, hi, hi36⟩ : ∃ i : Nat, x / 2 % 36 = i ∧ i < 36 := ⟨(x / 2 % 36).toNat, by omega, by omega⟩
  obtain ⟨c, hci, m, d, hd1, hd2, hm8, hcc⟩ : ∃ c : CellM, (cellsC K G 8 8)[i]? = some c ∧ ∃ m d : Nat, 1 ≤ d ∧ d ≤ m ∧ m ≤ 8 ∧ c = cellM K G 8 m d := by
    have hi2 : i < (cellsC K G 8 8).length := by omega
    obtain ⟨m, d, h1, h2, h3, h4⟩ := (mem_cellsC 8).1 (List.getElem_mem hi2)
    exact ⟨_, List.getElem?_eq_getElem hi2, m, d, h1, h2, h3, h4⟩
  obtain ⟨cs, hcs⟩ : ∃ cs, cs = cellsC K G 8 8 := ⟨_, rfl⟩
  rw [← hcs] at hlen hc hci
  clear hcs hok
  have hcD : (cs.map CellM.D)[i]? = some c.D := by rw [List.getElem?_map, hci]; rfl
  have hcn : c.n = m := by rw [hcc]; rfl
  have hcd : c.d = d := by rw [hcc]; rfl
  have hclo : bst K G 8 ⟨c.n, c.d, false⟩ = c.lo := by rw [hcc]; rfl
  have hchi : bst K G 8 ⟨c.n, c.d, true⟩ = c.hi := by rw [hcc]; rfl
  have hC : ∀ u, isC 8 ⟨c.n, c.d, u⟩ := fun u => ⟨by simp only; omega, by simp only; omega, by simp only; omega⟩
  have blo : 1 ≤ c.lo ∧ c.lo ≤ 16777216 := by rw [← hclo]; exact (isBest_bst (n := 8) (G := G) hR (Nat.le_refl 8) (hC false)).2
  have bhi : 1 ≤ c.hi ∧ c.hi ≤ 16777216 := by rw [← hchi]; exact (isBest_bst (n := 8) (G := G) hR (Nat.le_refl 8) (hC true)).2
  clear hcc
  conv => whnf
  refine Val.call ((vClosed false false K G 8).mono (Q' := fun r => r = closedD (cs, 0)) (fun r h => by rw [h]; exact congrArg closedD hc)) (.refl _) (ler _ _) rfl ?_
  rintro r rfl
  conv => whnf
  refine drT 12 (by decide +kernel) ?_
  conv => whnf
  refine ob (by decide) ?_
  refine iv (x / 2) (by rw [Int.tdiv_eq_ediv_of_nonneg hx1]; exact w8 (by omega) (by omega)) ?_
  conv => whnf
  refine iv (x / 2) (w64 (by omega) (by omega)) ?_
  conv => whnf
  refine ob (by show ((cs.map CellM.D).length : Int) ≠ 0; rw [List.length_map, hlen]; decide) ?_
  refine iv (i : Int) (by show (x / 2).tmod ((cs.map CellM.D).length : Int) = _; rw [List.length_map, hlen, Int.tmod_eq_emod_of_nonneg (by omega)]; exact hi) ?_
  conv => whnf
  refine ob (by omega) ⟨c.D, hcD, ?_⟩
  conv => whnf
  refine drR 17 (by decide +kernel) ?_
  conv => whnf
  refine iv (c.lo + 1) (w64 (by omega) (by omega)) ?_
  conv => whnf
  refine ob ?_ ?_
  · conv => whnf
    iterate 7
      refine ob (by
        conv => whnf
        exact ⟨rfl, rfl⟩) ?_
      conv => whnf
    trivial
  refine ob (by conv => whnf
                trivial) ?_
  conv => whnf
  refine ob (by decide) ?_
  refine iv (x % 2) (Int.tmod_eq_emod_of_nonneg hx1) ?_
  conv => whnf
  refine ifb (fun c2 => ?_) (fun c2 => ?_)
  · conv => whnf
    refine iv (c.hi - 1) (w64 (by omega) (by omega)) ?_
    conv => whnf
    refine Val.callH (vWhyL false false K G ⟨c.n, c.d, true, c.hi, 0⟩) [.var (.agg [.list false sh44 (L.map Raw4.D)]), .var (closedD (cs, 0)), .var c.D, .var (Known.D ⟨c.n, c.d, true, c.hi, 0⟩), .var (Known.D ⟨c.n, c.d, true, (c.hi - 1), 0⟩)] (.refl _) rfl (ler _ _) rfl ?_
    rintro r ⟨Ls, e, rfl, hW⟩
    obtain ⟨rfl, hck, ⟨hl1, hl72⟩, y, hy, hys, hyv⟩ := hW.good hR (hC true) hchi
    have hyv : y.v = c.hi := hyv
    have hys : y.s = ⟨c.n, c.d, true⟩ := hys
    have hsn : y.s.n = c.n := by rw [hys]
    have hsd : y.s.d = c.d := by rw [hys]
    have hsu : y.s.up = true := by rw [hys]
    have hyD : (Ls.map Stp.D)[Ls.length - 1]? = some y.D := by rw [List.getElem?_map, hy]; rfl
    have hi1 : ((Ls.length : Int) - 1) = ((Ls.length - 1 : Nat) : Int) := by omega
    conv => whnf
    refine ifb (fun c3 => absurd c3 ?_) (fun c3 => ?_)
    · show ¬ decide (((Ls.map Stp.D).length : Int) < 1) = true
      rw [List.length_map]; simp; omega
    conv => whnf
    refine ifb (fun c4 => absurd c4 ?_) (fun c4 => ?_)
    · show ¬ decide ((400 : Int) < ((Ls.map Stp.D).length : Nat)) = true
      rw [List.length_map]; simp; omega
    conv => whnf
    refine Val.callH ((vCheck false false false K G Ls).mono (Q' := fun r => r = .int .i64 0) (fun r h => by rw [h, hck])) ([.var (.agg [.list false sh44 (L.map Raw4.D)]), .var (closedD (cs, 0)), .var c.D, .var (Known.D ⟨c.n, c.d, true, c.hi, 0⟩), .var (Known.D ⟨c.n, c.d, true, (c.hi - 1), 0⟩), .var (.agg [stepsD Ls, .int .i64 0])]) (.refl _) rfl (ler _ _) rfl ?_
    rintro r rfl
    conv => whnf
    refine Val.callH ((vWhyL false false K G ⟨c.n, c.d, true, (c.hi - 1), 0⟩).mono (Q' := fun r => ∃ L, r = .agg [stepsD L, .int .i64 4]) (fun r ⟨L, e, h, hW⟩ => ⟨L, by rw [h, (hW.none hR (hC true) (by show bst K G 8 ⟨c.n, c.d, true⟩ ≠ (c.hi - 1); rw [hchi]; omega)).2]⟩)) ([.var (.agg [.list false sh44 (L.map Raw4.D)]), .var (closedD (cs, 0)), .var c.D, .var (Known.D ⟨c.n, c.d, true, c.hi, 0⟩), .var (Known.D ⟨c.n, c.d, true, (c.hi - 1), 0⟩), .var (.agg [stepsD Ls, .int .i64 0])]) (.refl _) rfl (ler _ _) rfl ?_
    rintro r ⟨L', rfl⟩
    conv => whnf
    refine iv ((Ls.length - 1 : Nat) : Int) (by show IntKind.i64.wrap (((Ls.map Stp.D).length : Int) - 1) = _; rw [List.length_map, w64 (by omega) (by omega)]; exact hi1) ?_
    conv => whnf
    refine ob (by omega) ⟨y.D, hyD, ?_⟩
    conv => whnf
    refine ifb (fun c5 => absurd c5 (by show ¬ (!decide (y.s.n = c.n)) = true; rw [hsn]; simp)) (fun c5 => ?_)
    conv => whnf
    refine ifb (fun c6 => absurd c6 (by show ¬ (!decide (y.s.d = c.d)) = true; rw [hsd]; simp)) (fun c6 => ?_)
    conv => whnf
    refine ifb (fun c7 => absurd c7 (by show ¬ (!(y.s.up == true)) = true; rw [hsu]; simp)) (fun c7 => ?_)
    conv => whnf
    refine ifb (fun c8 => absurd c8 (by show ¬ (!decide (y.v = c.hi)) = true; rw [hyv]; simp)) (fun c8 => ?_)
    conv => whnf
    refine ob (Nat.le_refl 0) ?_
    refine ob (by show 0 + (Ls.map Stp.D).length ≤ 2147483648; rw [List.length_map]; omega) ?_
    conv => whnf
    refine iv ((Ls.length - 1 : Nat) : Int) (by show IntKind.i64.wrap (((0 + (Ls.map Stp.D).length : Nat) : Int) - 1) = _; rw [List.length_map, Nat.zero_add, w64 (by omega) (by omega)]; exact hi1) ?_
    conv => whnf
    refine ob ⟨by omega, by show ((Ls.length - 1 : Nat) : Int) < ((0 + (Ls.map Stp.D).length : Nat) : Int); rw [List.length_map]; omega⟩ ?_
    conv => whnf
    refine ⟨y.D, .int .i64 y.v, ?_, rfl, ?_⟩
    · show (([] : List D) ++ Ls.map Stp.D)[0 + (Ls.length - 1)]? = _
      rw [List.nil_append, Nat.zero_add]; exact hyD
    conv => whnf
    have hle : LeD ([.var (.agg [.list false sh44 (L.map Raw4.D)]), .var (closedD (cs, 0)), .var c.D, .var (Known.D ⟨c.n, c.d, true, c.hi, 0⟩), .var (Known.D ⟨c.n, c.d, true, (c.hi - 1), 0⟩), .var (.agg [stepsD Ls, .int .i64 0]), .var y.D, .dead, .frz sh6 ((oddL Ls y (c.hi - 1)).map Stp.D)]) (stepsD (oddL Ls y (c.hi - 1))) (.sl 8 0 (0 + (Ls.map Stp.D).length)) := by
      have h9 : (oddL Ls y (c.hi - 1)).length = Ls.length := by unfold oddL; rw [List.length_set]
      have := LeD.frz (H := [.var (.agg [.list false sh44 (L.map Raw4.D)]), .var (closedD (cs, 0)), .var c.D, .var (Known.D ⟨c.n, c.d, true, c.hi, 0⟩), .var (Known.D ⟨c.n, c.d, true, (c.hi - 1), 0⟩), .var (.agg [stepsD Ls, .int .i64 0]), .var y.D, .dead, .frz sh6 ((oddL Ls y (c.hi - 1)).map Stp.D)]) 8 0 Ls.length sh6 ((oddL Ls y (c.hi - 1)).map Stp.D) rfl (by rw [List.length_map, h9]; omega)
      rw [List.drop_zero, List.take_of_length_le (by rw [List.length_map, h9]; omega)] at this
      rw [List.length_map, Nat.zero_add]
      exact this
    refine Val.callH ((vCheck false false false K G (oddL Ls y (c.hi - 1))).mono (Q' := fun r => r = .int .i64 6) (fun r h => by rw [h, odd_bad hR hl1 (hC true) hys (by rw [hchi]; simp [better]; omega)])) ([.var (.agg [.list false sh44 (L.map Raw4.D)]), .var (closedD (cs, 0)), .var c.D, .var (Known.D ⟨c.n, c.d, true, c.hi, 0⟩), .var (Known.D ⟨c.n, c.d, true, (c.hi - 1), 0⟩), .var (.agg [stepsD Ls, .int .i64 0]), .var y.D, .dead, .frz sh6 ((oddL Ls y (c.hi - 1)).map Stp.D)])
      (Frz.step 8 sh6 ((oddL Ls y (c.hi - 1)).map Stp.D) (by
        show Ob.row _ (([] ++ Ls.map Stp.D).set (0 + (Ls.length - 1)) _) = _
        rw [List.nil_append, Nat.zero_add]
        exact congrArg (Ob.row sh6) odd_map) (cl_stps _) (.refl _)) rfl (.cons _ _ _ _ (.refl _) (.cons _ _ _ _ (.refl _) (.cons _ _ _ _ hle .nil))) rfl ?_
    rintro r rfl
    conv => whnf
    refine ob ⟨by omega, by omega⟩ ?_
    conv => whnf
    refine Val.callH ((vCheck false false false K G []).mono (Q' := fun r => r = .int .i64 6) (fun r h => by rw [h, check_nil hR G])) ([.var (.agg [.list false sh44 (L.map Raw4.D)]), .var (closedD (cs, 0)), .var c.D, .var (Known.D ⟨c.n, c.d, true, c.hi, 0⟩), .var (Known.D ⟨c.n, c.d, true, (c.hi - 1), 0⟩), .var (.agg [stepsD Ls, .int .i64 0]), .var y.D, .dead, .frz sh6 ((oddL Ls y (c.hi - 1)).map Stp.D)]) (.refl _) rfl (ler _ _) rfl ?_
    rintro r rfl
    conv => whnf
    exact ⟨rfl, rfl⟩
  · conv => whnf
    refine Val.callH (vWhyL false false K G ⟨c.n, c.d, false, c.lo, 0⟩) [.var (.agg [.list false sh44 (L.map Raw4.D)]), .var (closedD (cs, 0)), .var c.D, .var (Known.D ⟨c.n, c.d, false, c.lo, 0⟩), .var (Known.D ⟨c.n, c.d, false, (c.lo + 1), 0⟩)] (.refl _) rfl (ler _ _) rfl ?_
    rintro r ⟨Ls, e, rfl, hW⟩
    obtain ⟨rfl, hck, ⟨hl1, hl72⟩, y, hy, hys, hyv⟩ := hW.good hR (hC false) hclo
    have hyv : y.v = c.lo := hyv
    have hys : y.s = ⟨c.n, c.d, false⟩ := hys
    have hsn : y.s.n = c.n := by rw [hys]
    have hsd : y.s.d = c.d := by rw [hys]
    have hsu : y.s.up = false := by rw [hys]
    have hyD : (Ls.map Stp.D)[Ls.length - 1]? = some y.D := by rw [List.getElem?_map, hy]; rfl
    have hi1 : ((Ls.length : Int) - 1) = ((Ls.length - 1 : Nat) : Int) := by omega
    conv => whnf
    refine ifb (fun c3 => absurd c3 ?_) (fun c3 => ?_)
    · show ¬ decide (((Ls.map Stp.D).length : Int) < 1) = true
      rw [List.length_map]; simp; omega
    conv => whnf
    refine ifb (fun c4 => absurd c4 ?_) (fun c4 => ?_)
    · show ¬ decide ((400 : Int) < ((Ls.map Stp.D).length : Nat)) = true
      rw [List.length_map]; simp; omega
    conv => whnf
    refine Val.callH ((vCheck false false false K G Ls).mono (Q' := fun r => r = .int .i64 0) (fun r h => by rw [h, hck])) ([.var (.agg [.list false sh44 (L.map Raw4.D)]), .var (closedD (cs, 0)), .var c.D, .var (Known.D ⟨c.n, c.d, false, c.lo, 0⟩), .var (Known.D ⟨c.n, c.d, false, (c.lo + 1), 0⟩), .var (.agg [stepsD Ls, .int .i64 0])]) (.refl _) rfl (ler _ _) rfl ?_
    rintro r rfl
    conv => whnf
    refine Val.callH ((vWhyL false false K G ⟨c.n, c.d, false, (c.lo + 1), 0⟩).mono (Q' := fun r => ∃ L, r = .agg [stepsD L, .int .i64 4]) (fun r ⟨L, e, h, hW⟩ => ⟨L, by rw [h, (hW.none hR (hC false) (by show bst K G 8 ⟨c.n, c.d, false⟩ ≠ (c.lo + 1); rw [hclo]; omega)).2]⟩)) ([.var (.agg [.list false sh44 (L.map Raw4.D)]), .var (closedD (cs, 0)), .var c.D, .var (Known.D ⟨c.n, c.d, false, c.lo, 0⟩), .var (Known.D ⟨c.n, c.d, false, (c.lo + 1), 0⟩), .var (.agg [stepsD Ls, .int .i64 0])]) (.refl _) rfl (ler _ _) rfl ?_
    rintro r ⟨L', rfl⟩
    conv => whnf
    refine iv ((Ls.length - 1 : Nat) : Int) (by show IntKind.i64.wrap (((Ls.map Stp.D).length : Int) - 1) = _; rw [List.length_map, w64 (by omega) (by omega)]; exact hi1) ?_
    conv => whnf
    refine ob (by omega) ⟨y.D, hyD, ?_⟩
    conv => whnf
    refine ifb (fun c5 => absurd c5 (by show ¬ (!decide (y.s.n = c.n)) = true; rw [hsn]; simp)) (fun c5 => ?_)
    conv => whnf
    refine ifb (fun c6 => absurd c6 (by show ¬ (!decide (y.s.d = c.d)) = true; rw [hsd]; simp)) (fun c6 => ?_)
    conv => whnf
    refine ifb (fun c7 => absurd c7 (by show ¬ (!(y.s.up == false)) = true; rw [hsu]; simp)) (fun c7 => ?_)
    conv => whnf
    refine ifb (fun c8 => absurd c8 (by show ¬ (!decide (y.v = c.lo)) = true; rw [hyv]; simp)) (fun c8 => ?_)
    conv => whnf
    refine ob (Nat.le_refl 0) ?_
    refine ob (by show 0 + (Ls.map Stp.D).length ≤ 2147483648; rw [List.length_map]; omega) ?_
    conv => whnf
    refine iv ((Ls.length - 1 : Nat) : Int) (by show IntKind.i64.wrap (((0 + (Ls.map Stp.D).length : Nat) : Int) - 1) = _; rw [List.length_map, Nat.zero_add, w64 (by omega) (by omega)]; exact hi1) ?_
    conv => whnf
    refine ob ⟨by omega, by show ((Ls.length - 1 : Nat) : Int) < ((0 + (Ls.map Stp.D).length : Nat) : Int); rw [List.length_map]; omega⟩ ?_
    conv => whnf
    refine ⟨y.D, .int .i64 y.v, ?_, rfl, ?_⟩
    · show (([] : List D) ++ Ls.map Stp.D)[0 + (Ls.length - 1)]? = _
      rw [List.nil_append, Nat.zero_add]; exact hyD
    conv => whnf
    have hle : LeD ([.var (.agg [.list false sh44 (L.map Raw4.D)]), .var (closedD (cs, 0)), .var c.D, .var (Known.D ⟨c.n, c.d, false, c.lo, 0⟩), .var (Known.D ⟨c.n, c.d, false, (c.lo + 1), 0⟩), .var (.agg [stepsD Ls, .int .i64 0]), .var y.D, .dead, .frz sh6 ((oddL Ls y (c.lo + 1)).map Stp.D)]) (stepsD (oddL Ls y (c.lo + 1))) (.sl 8 0 (0 + (Ls.map Stp.D).length)) := by
      have h9 : (oddL Ls y (c.lo + 1)).length = Ls.length := by unfold oddL; rw [List.length_set]
      have := LeD.frz (H := [.var (.agg [.list false sh44 (L.map Raw4.D)]), .var (closedD (cs, 0)), .var c.D, .var (Known.D ⟨c.n, c.d, false, c.lo, 0⟩), .var (Known.D ⟨c.n, c.d, false, (c.lo + 1), 0⟩), .var (.agg [stepsD Ls, .int .i64 0]), .var y.D, .dead, .frz sh6 ((oddL Ls y (c.lo + 1)).map Stp.D)]) 8 0 Ls.length sh6 ((oddL Ls y (c.lo + 1)).map Stp.D) rfl (by rw [List.length_map, h9]; omega)
      rw [List.drop_zero, List.take_of_length_le (by rw [List.length_map, h9]; omega)] at this
      rw [List.length_map, Nat.zero_add]
      exact this
    refine Val.callH ((vCheck false false false K G (oddL Ls y (c.lo + 1))).mono (Q' := fun r => r = .int .i64 6) (fun r h => by rw [h, odd_bad hR hl1 (hC false) hys (by rw [hclo]; simp [better]; omega)])) ([.var (.agg [.list false sh44 (L.map Raw4.D)]), .var (closedD (cs, 0)), .var c.D, .var (Known.D ⟨c.n, c.d, false, c.lo, 0⟩), .var (Known.D ⟨c.n, c.d, false, (c.lo + 1), 0⟩), .var (.agg [stepsD Ls, .int .i64 0]), .var y.D, .dead, .frz sh6 ((oddL Ls y (c.lo + 1)).map Stp.D)])
      (Frz.step 8 sh6 ((oddL Ls y (c.lo + 1)).map Stp.D) (by
        show Ob.row _ (([] ++ Ls.map Stp.D).set (0 + (Ls.length - 1)) _) = _
        rw [List.nil_append, Nat.zero_add]
        exact congrArg (Ob.row sh6) odd_map) (cl_stps _) (.refl _)) rfl (.cons _ _ _ _ (.refl _) (.cons _ _ _ _ (.refl _) (.cons _ _ _ _ hle .nil))) rfl ?_
    rintro r rfl
    conv => whnf
    refine ob ⟨by omega, by omega⟩ ?_
    conv => whnf
    refine Val.callH ((vCheck false false false K G []).mono (Q' := fun r => r = .int .i64 6) (fun r h => by rw [h, check_nil hR G])) ([.var (.agg [.list false sh44 (L.map Raw4.D)]), .var (closedD (cs, 0)), .var c.D, .var (Known.D ⟨c.n, c.d, false, c.lo, 0⟩), .var (Known.D ⟨c.n, c.d, false, (c.lo + 1), 0⟩), .var (.agg [stepsD Ls, .int .i64 0]), .var y.D, .dead, .frz sh6 ((oddL Ls y (c.lo + 1)).map Stp.D)]) (.refl _) rfl (ler _ _) rfl ?_
    rintro r rfl
    conv => whnf
    exact ⟨rfl, rfl⟩

end Go.Proofs.Ythplmnpfaagciaa.Pw
