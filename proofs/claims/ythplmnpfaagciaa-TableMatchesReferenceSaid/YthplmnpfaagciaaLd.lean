/- Parts of the proof, merged: LV LW. -/
import Derived.Test.YthplmnpfaagciaaLc
import Derived.Test.YthplmnpfaagciaaPd
/- The fixed calls. -/
set_option linter.unusedVariables false
set_option linter.unusedSimpArgs false
namespace Go.Proofs.Ythplmnpfaagciaa.Pw
open Go

deriving instance DecidableEq for CellM
def chkM (K : List Known) (G : List Int) (n : Nat) (p : Lg → Bool) : Bool := match cloM K G n with
  | some l => p l
  | none => false
theorem chkM_ok {K : List Known} {G : List Int} {n : Nat} {p : Lg → Bool} (h : chkM K G n p = true) : ∃ l, cloM K G n = some l ∧ p l = true := by
  unfold chkM at h
  split at h
  · next l hl => exact ⟨l, hl, h⟩
  · cases h
def K7 : List Known := [⟨5, 3, false, 4, 7⟩]
def three : List CellM := [⟨1, 1, 2, 2⟩, ⟨2, 1, 4, 4⟩, ⟨2, 2, 2, 2⟩, ⟨3, 1, 8, 8⟩, ⟨3, 2, 4, 4⟩, ⟨3, 3, 2, 2⟩]
theorem ex1 : closeR [] [] 3 = (three, 0) := by
  obtain ⟨l, hl, h⟩ := chkM_ok (K := []) (G := []) (n := 3) (p := fun l => decide (closeM l 3 = (three, 0))) (by decide +kernel)
  exact (closeM_eq (by omega) (by omega) (by decide) hl).trans (by simpa using h)
theorem ex2 : atL (closeR K7 [] 5).1 5 3 = ⟨5, 3, 2, 8⟩ ∧ ∃ c, atL (closeR K7 [] 5).1 4 2 = c ∧ c.hi = 8 := by
  obtain ⟨l, hl, h⟩ := chkM_ok (K := K7) (G := []) (n := 5) (p := fun l => decide (atL (closeM l 5).1 5 3 = ⟨5, 3, 2, 8⟩) && decide ((atL (closeM l 5).1 4 2).hi = 8)) (by decide +kernel)
  have he := closeM_eq (by omega) (by omega) (by decide) hl
  have he : closeR K7 [] 5 = closeM l 5 := he
  rw [he]
  simp only [Bool.and_eq_true, decide_eq_true_eq] at h
  exact ⟨h.1, _, rfl, h.2⟩
theorem ex3 : ∃ c, atL (closeR K7 [7] 5).1 5 3 = c ∧ c.lo = 4 := by
  obtain ⟨l, hl, h⟩ := chkM_ok (K := K7) (G := [7]) (n := 5) (p := fun l => decide ((atL (closeM l 5).1 5 3).lo = 4)) (by decide +kernel)
  have he : closeR K7 [7] 5 = closeM l 5 := closeM_eq (n := 5) (by omega) (by omega) (by decide) hl
  rw [he]
  exact ⟨_, rfl, by simpa using h⟩
theorem ex4 : ∃ c, atL (closeR K7 [7] 6).1 6 4 = c ∧ c.lo = 4 := by
  obtain ⟨l, hl, h⟩ := chkM_ok (K := K7) (G := [7]) (n := 6) (p := fun l => decide ((atL (closeM l 6).1 6 4).lo = 4)) (by decide +kernel)
  have he : closeR K7 [7] 6 = closeM l 6 := closeM_eq (n := 6) (by omega) (by omega) (by decide) hl
  rw [he]
  exact ⟨_, rfl, by simpa using h⟩
def s64 : Side := ⟨6, 4, false⟩
theorem s64_c : isC 8 s64 := ⟨by decide, by decide, by decide⟩
theorem ex5 : bst K7 [7] 8 s64 = 4 := by
  obtain ⟨l, hl, h⟩ := chkM_ok (K := K7) (G := [7]) (n := 8) (p := fun l => decide (valM l s64 = 4)) (by decide +kernel)
  exact (bst_of (cloM_ok (by decide) (by omega) hl) s64_c).trans (by simpa using h)
theorem ex6 : bst K7 [] 8 s64 = 2 ∧ ∃ l, Closd K7 [] 8 l := by
  obtain ⟨l, hl, h⟩ := chkM_ok (K := K7) (G := []) (n := 8) (p := fun l => decide (valM l s64 = 2)) (by decide +kernel)
  have hc := cloM_ok (n := 8) (by decide) (by omega) hl
  exact ⟨(bst_of hc s64_c).trans (by simpa using h), l, hc⟩
theorem ex7 : closeR [] [] 9 = ([], 1) := by unfold closeR; rw [if_neg (by omega)]
theorem ex8 : closeR [⟨2, 2, false, 3, 0⟩] [] 2 = ([], 6) := by
  obtain ⟨l, hl, h⟩ := chkM_ok (K := [⟨2, 2, false, 3, 0⟩]) (G := []) (n := 2) (p := fun l => decide (closeM l 2 = ([], 6))) (by decide +kernel)
  exact (closeM_eq (by omega) (by omega) (by decide) hl).trans (by simpa using h)
theorem Closd.isBest {K : List Known} {G : List Int} {n : Int} {l : Lg} (h : Closd K G n l) {s : Side} (hs : isC n s) : IsBest K G n s (bst K G n s) := by
  obtain ⟨i, x, hi, hx, _⟩ := h.inv.at h.full hs
  have := h.best hs hi hx
  rw [this.eq]; exact this
theorem WhyR.good {K : List Known} {G : List Int} {k : Known} {L : List Stp} {e : Int} (h : WhyR K G k L e) (hK : rightK K = true) (hk : isC 8 k.s) (hb : bst K G 8 k.s = k.v) :
    e = 0 ∧ checkR K G L = 0 ∧ (1 ≤ L.length ∧ L.length ≤ 72) ∧ ∃ y, L[L.length - 1]? = some y ∧ y.s = k.s ∧ y.v = k.v := by
  obtain ⟨h1, l, i, ⟨hl, _⟩, hi, hc⟩ := h.ok hK hk hb
  have h72 := hc.len72 hl.inv (by omega)
  have hpos := hc.pos
  refine ⟨h1, ?_, ⟨hpos, h72⟩, ?_⟩
  · unfold checkR
    rw [if_pos hK, if_pos ⟨⟨hpos, by omega⟩, hc.allX hl.inv⟩]
  · obtain ⟨x, y, hx, hy, hys, hyv⟩ := hc.last
    obtain ⟨x', hx', hxs⟩ := hl.inv.best k.s i hi
    rw [hx] at hx'; cases hx'
    refine ⟨y, hy, hys.trans hxs, ?_⟩
    rw [hyv, ← hb]
    exact ((hl.best hk hi hx).eq).symm
theorem checkR_bad {K : List Known} {G : List Int} {L : List Stp} (hK : rightK K = true) {y : Stp} (hy : L[L.length - 1]? = some y) {w : Int} (hb : ∀ v, Der K G 8 y.s v → better y.s v w = false) (hv : better y.s y.v w = true) : checkR K G L = 6 := by
  unfold checkR
  rw [if_pos hK, if_neg]
  rintro ⟨_, h⟩
  have := hb y.v (h.der _ y hy)
  rw [hv] at this; cases this

theorem Val.callH {P : Program} {f : FuncId} {args0 args : List D} {H H1 : List Ob} {Q0 : D → Prop} {Q : D → List Ob → Prop} (h : Val P f args0 Q0) (H2 : List Ob) (hz : Frz H H1) (hH : H1 = H2) (hargs : LeDs H2 args0 args) (hcl : clDs args0 = true)
    (hQ : ∀ r, Q0 r → Q r H2) : HC P f args H Q := by
  subst hH
  exact Val.call h hz hargs hcl hQ

end Go.Proofs.Ythplmnpfaagciaa.Pw

/- The fixed calls hold. -/
set_option linter.unusedVariables false
set_option linter.unusedSimpArgs false
namespace Go.Proofs.Ythplmnpfaagciaa.Pw
open Go

theorem vEx : Val Try.prog 9 [] (fun r => r = .bool true) := by
  refine Val.of ?_
  obtain ⟨⟨p1, p2, p3, p4⟩, hc1, hd1⟩ := ex2.2
  simp only at hd1
  subst hd1
  obtain ⟨⟨q1, q2, q3, q4⟩, hc2, hd2⟩ := ex3
  simp only at hd2
  subst hd2
  obtain ⟨⟨r1, r2, r3, r4⟩, hc3, hd3⟩ := ex4
  simp only at hd3
  subst hd3
  refine hc_ofS (okc Try.f9.ntmps 0) (fn := Try.f9) (cd := _) rfl rfl rfl rfl rfl rfl (fun hbd => ?_)
  conv => whnf
  refine Val.callH (vClosed false false K7 [] 5) [.row sh4 (three.map CellM.D), .frz sh5 (K7.map Known.D)] (Frz.step 1 sh5 (K7.map Known.D) rfl rfl (.refl _)) rfl (.cons _ _ _ _ (.refl _) (.cons _ _ _ _ (LeD.frz 1 0 1 sh5 (K7.map Known.D) rfl (Nat.le_refl 1)) (.cons _ _ _ _ (.nils _) .nil))) rfl ?_
  rintro r rfl
  conv => whnf
  refine Val.callH (vClosed false false K7 [7] 5) [.row sh4 (three.map CellM.D), .frz sh5 (K7.map Known.D), .frz .leaf [.int .i64 7]] (Frz.step 2 .leaf [.int .i64 7] rfl rfl (.refl _)) rfl (.cons _ _ _ _ (.refl _) (.cons _ _ _ _ (LeD.frz 1 0 1 sh5 (K7.map Known.D) rfl (Nat.le_refl 1)) (.cons _ _ _ _ (LeD.frz 2 0 1 .leaf [.int .i64 7] rfl (Nat.le_refl 1)) .nil))) rfl ?_
  rintro r rfl
  conv => whnf
  refine Val.callH (vClosed false false K7 [7] 6) [.row sh4 (three.map CellM.D), .frz sh5 (K7.map Known.D), .frz .leaf [.int .i64 7], .frz .leaf [.int .i64 7]] (Frz.step 3 .leaf [.int .i64 7] rfl rfl (.refl _)) rfl (.cons _ _ _ _ (.refl _) (.cons _ _ _ _ (LeD.frz 1 0 1 sh5 (K7.map Known.D) rfl (Nat.le_refl 1)) (.cons _ _ _ _ (LeD.frz 3 0 1 .leaf [.int .i64 7] rfl (Nat.le_refl 1)) .nil))) rfl ?_
  rintro r rfl
  conv => whnf
  refine Val.callH ((vClosed false false [] [] 3).mono (Q' := fun r => r = closedD (three, 0)) (fun r h => by rw [← ex1]; exact h)) [.row sh4 (three.map CellM.D), .frz sh5 (K7.map Known.D), .frz .leaf [.int .i64 7], .frz .leaf [.int .i64 7], .var (closedD (closeR K7 [] 5)), .var (closedD (closeR K7 [7] 5)), .var (closedD (closeR K7 [7] 6))] (.refl _) rfl (.cons _ _ _ _ (.refl _) (.cons _ _ _ _ (.nils _) (.cons _ _ _ _ (.nils _) .nil))) rfl ?_
  rintro r rfl
  conv => whnf
  refine Val.callH ((vSameL (three, 0) (three, 0)).mono (Q' := fun r => r = .bool true) (fun r h => by rw [h]; simp)) [.frz sh4 (three.map CellM.D), .frz sh5 (K7.map Known.D), .frz .leaf [.int .i64 7], .frz .leaf [.int .i64 7], .var (closedD (closeR K7 [] 5)), .var (closedD (closeR K7 [7] 5)), .var (closedD (closeR K7 [7] 6))] (Frz.step 0 sh4 (three.map CellM.D) rfl rfl (.refl _)) rfl (.cons _ _ _ _ (.refl _) (.cons _ _ _ _ (.agg _ _ (.cons _ _ _ _ (LeD.frz 0 0 6 sh4 (three.map CellM.D) rfl (Nat.le_refl 6)) (.cons _ _ _ _ (.refl _) .nil)) rfl) .nil)) rfl ?_
  rintro r rfl
  conv => whnf
  refine Val.callH ((vAt (closeR K7 [] 5) 5 3 (by omega) (by omega)).mono (Q' := fun r => r = CellM.D ⟨5, 3, 2, 8⟩) (fun r h => by rw [h, ex2.1])) [.frz sh4 (three.map CellM.D), .frz sh5 (K7.map Known.D), .frz .leaf [.int .i64 7], .frz .leaf [.int .i64 7], .var (closedD (closeR K7 [] 5)), .var (closedD (closeR K7 [7] 5)), .var (closedD (closeR K7 [7] 6))] (.refl _) rfl (.cons _ _ _ _ (.refl _) (.cons _ _ _ _ (.refl _) (.cons _ _ _ _ (.refl _) .nil))) rfl ?_
  rintro r rfl
  conv => whnf
  refine Val.callH ((vAt (closeR K7 [] 5) 4 2 (by omega) (by omega)).mono (Q' := fun r => r = CellM.D ⟨p1, p2, p3, 8⟩) (fun r h => by rw [h, hc1])) [.frz sh4 (three.map CellM.D), .frz sh5 (K7.map Known.D), .frz .leaf [.int .i64 7], .frz .leaf [.int .i64 7], .var (closedD (closeR K7 [] 5)), .var (closedD (closeR K7 [7] 5)), .var (closedD (closeR K7 [7] 6))] (.refl _) rfl (.cons _ _ _ _ (.refl _) (.cons _ _ _ _ (.refl _) (.cons _ _ _ _ (.refl _) .nil))) rfl ?_
  rintro r rfl
  conv => whnf
  refine Val.callH ((vAt (closeR K7 [7] 5) 5 3 (by omega) (by omega)).mono (Q' := fun r => r = CellM.D ⟨q1, q2, 4, q4⟩) (fun r h => by rw [h, hc2])) [.frz sh4 (three.map CellM.D), .frz sh5 (K7.map Known.D), .frz .leaf [.int .i64 7], .frz .leaf [.int .i64 7], .var (closedD (closeR K7 [] 5)), .var (closedD (closeR K7 [7] 5)), .var (closedD (closeR K7 [7] 6))] (.refl _) rfl (.cons _ _ _ _ (.refl _) (.cons _ _ _ _ (.refl _) (.cons _ _ _ _ (.refl _) .nil))) rfl ?_
  rintro r rfl
  conv => whnf
  refine Val.callH ((vAt (closeR K7 [7] 6) 6 4 (by omega) (by omega)).mono (Q' := fun r => r = CellM.D ⟨r1, r2, 4, r4⟩) (fun r h => by rw [h, hc3])) [.frz sh4 (three.map CellM.D), .frz sh5 (K7.map Known.D), .frz .leaf [.int .i64 7], .frz .leaf [.int .i64 7], .var (closedD (closeR K7 [] 5)), .var (closedD (closeR K7 [7] 5)), .var (closedD (closeR K7 [7] 6))] (.refl _) rfl (.cons _ _ _ _ (.refl _) (.cons _ _ _ _ (.refl _) (.cons _ _ _ _ (.refl _) .nil))) rfl ?_
  rintro r rfl
  conv => whnf
  refine Val.callH (vWhyL false false K7 [7] ⟨6, 4, false, 4, 0⟩) [.frz sh4 (three.map CellM.D), .frz sh5 (K7.map Known.D), .frz .leaf [.int .i64 7], .frz .leaf [.int .i64 7], .var (closedD (closeR K7 [] 5)), .var (closedD (closeR K7 [7] 5)), .var (closedD (closeR K7 [7] 6)), .frz .leaf [.int .i64 7]] (Frz.step 7 .leaf [.int .i64 7] rfl rfl (.refl _)) rfl (.cons _ _ _ _ (LeD.frz 1 0 1 sh5 (K7.map Known.D) rfl (Nat.le_refl 1)) (.cons _ _ _ _ (LeD.frz 7 0 1 .leaf [.int .i64 7] rfl (Nat.le_refl 1)) (.cons _ _ _ _ (.refl _) .nil))) rfl ?_
  rintro r ⟨L, e, rfl, hW⟩
  obtain ⟨rfl, hC, hL, y, hy, hys, hyv⟩ := hW.good (by decide) s64_c ex5
  have hC2 : checkR K7 [] L = 6 := by
    obtain ⟨h6, l, hl⟩ := ex6
    refine checkR_bad (w := 2) (by decide) hy ?_ ?_
    · rw [hys]
      have := (hl.isBest s64_c).2
      rw [h6] at this
      exact this
    · rw [hys, hyv]; rfl
  conv => whnf
  refine Val.callH ((vCheck false false false K7 [7] L).mono (Q' := fun r => r = .int .i64 0) (fun r h => by rw [h, hC])) [.frz sh4 (three.map CellM.D), .frz sh5 (K7.map Known.D), .frz .leaf [.int .i64 7], .frz .leaf [.int .i64 7], .var (closedD (closeR K7 [] 5)), .var (closedD (closeR K7 [7] 5)), .var (closedD (closeR K7 [7] 6)), .frz .leaf [.int .i64 7], .var (.agg [stepsD L, .int .i64 0]), .frz .leaf [.int .i64 7]] (Frz.step 9 .leaf [.int .i64 7] rfl rfl (.refl _)) rfl (.cons _ _ _ _ (LeD.frz 1 0 1 sh5 (K7.map Known.D) rfl (Nat.le_refl 1)) (.cons _ _ _ _ (LeD.frz 9 0 1 .leaf [.int .i64 7] rfl (Nat.le_refl 1)) (.cons _ _ _ _ (.refl _) .nil))) rfl ?_
  rintro r rfl
  conv => whnf
  refine Val.callH ((vCheck false false false K7 [] L).mono (Q' := fun r => r = .int .i64 6) (fun r h => by rw [h, hC2])) [.frz sh4 (three.map CellM.D), .frz sh5 (K7.map Known.D), .frz .leaf [.int .i64 7], .frz .leaf [.int .i64 7], .var (closedD (closeR K7 [] 5)), .var (closedD (closeR K7 [7] 5)), .var (closedD (closeR K7 [7] 6)), .frz .leaf [.int .i64 7], .var (.agg [stepsD L, .int .i64 0]), .frz .leaf [.int .i64 7]] (.refl _) rfl (.cons _ _ _ _ (LeD.frz 1 0 1 sh5 (K7.map Known.D) rfl (Nat.le_refl 1)) (.cons _ _ _ _ (.nils _) (.cons _ _ _ _ (.refl _) .nil))) rfl ?_
  rintro r rfl
  conv => whnf
  refine Val.callH ((vWhyL false false K7 [] ⟨6, 4, false, 4, 0⟩).mono (Q' := fun r => ∃ L, r = .agg [stepsD L, .int .i64 4]) (fun r ⟨L, e, h, hW⟩ => ⟨L, by rw [h, (hW.none (by decide) s64_c (by show bst K7 [] 8 s64 ≠ 4; rw [ex6.1]; decide)).2]⟩)) [.frz sh4 (three.map CellM.D), .frz sh5 (K7.map Known.D), .frz .leaf [.int .i64 7], .frz .leaf [.int .i64 7], .var (closedD (closeR K7 [] 5)), .var (closedD (closeR K7 [7] 5)), .var (closedD (closeR K7 [7] 6)), .frz .leaf [.int .i64 7], .var (.agg [stepsD L, .int .i64 0]), .frz .leaf [.int .i64 7]] (.refl _) rfl (.cons _ _ _ _ (LeD.frz 1 0 1 sh5 (K7.map Known.D) rfl (Nat.le_refl 1)) (.cons _ _ _ _ (.nils _) (.cons _ _ _ _ (.refl _) .nil))) rfl ?_
  rintro r ⟨L2, rfl⟩
  conv => whnf
  refine Val.callH ((vClosed false false [] [] 9).mono (Q' := fun r => r = closedD ([], 1)) (fun r h => by rw [← ex7]; exact h)) [.frz sh4 (three.map CellM.D), .frz sh5 (K7.map Known.D), .frz .leaf [.int .i64 7], .frz .leaf [.int .i64 7], .var (closedD (closeR K7 [] 5)), .var (closedD (closeR K7 [7] 5)), .var (closedD (closeR K7 [7] 6)), .frz .leaf [.int .i64 7], .var (.agg [stepsD L, .int .i64 0]), .frz .leaf [.int .i64 7]] (.refl _) rfl (.cons _ _ _ _ (.refl _) (.cons _ _ _ _ (.nils _) (.cons _ _ _ _ (.nils _) .nil))) rfl ?_
  rintro r rfl
  conv => whnf
  refine Val.callH ((vClosed false false [⟨2, 2, false, 3, 0⟩] [] 2).mono (Q' := fun r => r = closedD ([], 6)) (fun r h => by rw [← ex8]; exact h)) [.frz sh4 (three.map CellM.D), .frz sh5 (K7.map Known.D), .frz .leaf [.int .i64 7], .frz .leaf [.int .i64 7], .var (closedD (closeR K7 [] 5)), .var (closedD (closeR K7 [7] 5)), .var (closedD (closeR K7 [7] 6)), .frz .leaf [.int .i64 7], .var (.agg [stepsD L, .int .i64 0]), .frz .leaf [.int .i64 7], .frz sh5 [Known.D ⟨2, 2, false, 3, 0⟩]] (Frz.step 10 sh5 [Known.D ⟨2, 2, false, 3, 0⟩] rfl rfl (.refl _)) rfl (.cons _ _ _ _ (.refl _) (.cons _ _ _ _ (LeD.frz 10 0 1 sh5 [Known.D ⟨2, 2, false, 3, 0⟩] rfl (Nat.le_refl 1)) (.cons _ _ _ _ (.nils _) .nil))) rfl ?_
  rintro r rfl
  conv => whnf
  refine Val.callH ((vRight false [⟨0, 0, false, 0, 0⟩]).mono (Q' := fun r => r = .int .i64 1) (fun r h => h)) [.frz sh4 (three.map CellM.D), .frz sh5 (K7.map Known.D), .frz .leaf [.int .i64 7], .frz .leaf [.int .i64 7], .var (closedD (closeR K7 [] 5)), .var (closedD (closeR K7 [7] 5)), .var (closedD (closeR K7 [7] 6)), .frz .leaf [.int .i64 7], .var (.agg [stepsD L, .int .i64 0]), .frz .leaf [.int .i64 7], .frz sh5 [Known.D ⟨2, 2, false, 3, 0⟩], .frz sh5 [Known.D ⟨0, 0, false, 0, 0⟩]] (Frz.step 11 sh5 [Known.D ⟨0, 0, false, 0, 0⟩] rfl rfl (.refl _)) rfl (.cons _ _ _ _ (LeD.frz 11 0 1 sh5 [Known.D ⟨0, 0, false, 0, 0⟩] rfl (Nat.le_refl 1)) .nil) rfl ?_
  rintro r rfl
  conv => whnf
  exact ⟨rfl, rfl⟩

end Go.Proofs.Ythplmnpfaagciaa.Pw
