/- Parts of the proof, merged: NA NB NC NE NG. -/
import Derived.Test.YthplmnpfaagciaaLj
/- The reference: known bounds, and whether a step comes from another. -/
set_option linter.unusedVariables false
set_option linter.unusedSimpArgs false
namespace Go.Proofs.Ythplmnpfaagciaa.Pw
open Go

theorem vIs (n d m : Int) : Val Try.prog 27 [.int .i64 n, .int .i64 d, .int .i64 m] (fun r => r = .bool (isCell n d m)) :=
  HC.mono (hcIs n d m) (fun r H' h => ⟨h.1, by rw [h.2]; rfl, h.2⟩)
theorem right_no {K : List Known} {k : Known} (hk : k ∈ K) (h : wrongK k = true) : rightK K = false := by
  unfold rightK
  rw [show K.any wrongK = true from List.any_eq_true.2 ⟨k, hk, h⟩]; simp
theorem vRightR (f : Bool) (K : List Known) : Val Try.prog 12 [knownsD f K] (fun r => r = .int .i64 (if rightK K = true then 0 else 1)) := by
  refine Val.of ?_
  refine hc_ofS (okc Try.f12.ntmps 0) (fn := Try.f12) (cd := _) rfl rfl rfl rfl rfl rfl (fun hbd => ?_)
  conv => whnf
  refine ifb (fun c1 => ?_) (fun c1 => ?_)
  · have c1 : 60 < K.length := by
      have : decide ((60 : Int) < ((K.map Known.D).length : Nat)) = true := c1
      simp at this; omega
    conv => whnf
    have : rightK K = false := by unfold rightK; simp; omega
    exact ⟨rfl, by rw [this]; rfl⟩
  have c1 : K.length ≤ 60 := by
    have : decide ((60 : Int) < ((K.map Known.D).length : Nat)) = false := c1
    simp at this; omega
  conv => whnf
  refine lp (fun k e H => ∃ i : Nat, i ≤ K.length ∧ k = K.length - i ∧ (∀ x ∈ K.take i, wrongK x = false) ∧ H = [] ∧ e = [(3, .int .i64 i), (0, knownsD f K)]) ?_ ?_
  · refine ⟨K.length + 1, back K.length _ (by omega) ?_ ⟨0, by omega, by omega, by simp, rfl, rfl⟩⟩
    exact se0 rfl (se0 rfl trivial)
  · rintro n e H ⟨i, hi, rfl, hall, rfl, rfl⟩
    conv => whnf
    refine ifb (fun c2 => ?_) (fun c2 => ?_)
    · have c2 : i < K.length := by
        have : decide ((i : Int) < ((K.map Known.D).length : Nat)) = true := c2
        simp at this; omega
      obtain ⟨k, hk⟩ : ∃ k, K[i]? = some k := ⟨_, List.getElem?_eq_getElem c2⟩
      have hkD : (K.map Known.D)[i]? = some k.D := by rw [List.getElem?_map, hk]; rfl
      have hkm := List.mem_of_getElem? hk
      have bad : wrongK k = true → (D.int .i64 1) = .int .i64 (if rightK K = true then 0 else 1) := fun h => by rw [right_no hkm h]; rfl
      conv => whnf
      refine ob (by omega) ⟨k.D, hkD, ?_⟩
      conv => whnf
      refine Val.call (vIs k.n k.d 8) (.refl _) (ler _ _) rfl ?_
      rintro r rfl
      conv => whnf
      refine ifb (fun c3 => ?_) (fun c3 => ?_)
      · conv => whnf
        exact ⟨rfl, bad (by have c3 : (!isCell k.n k.d 8) = true := c3; simp [wrongK, c3])⟩
      conv => whnf
      refine ifb (fun c4 => ?_) (fun c4 => ?_)
      · conv => whnf
        exact ⟨rfl, bad (by have c4 : decide (k.v < 1) = true := c4; simp [wrongK, c4])⟩
      conv => whnf
      refine ifb (fun c5 => ?_) (fun c5 => ?_)
      · conv => whnf
        exact ⟨rfl, bad (by have c5 : decide (16777216 < k.v) = true := c5; simp [wrongK, c5])⟩
      conv => whnf
      refine ifb (fun c6 => ?_) (fun c6 => ?_)
      · conv => whnf
        exact ⟨rfl, bad (by have c6 : decide (k.lm < 0) = true := c6; simp [wrongK, c6])⟩
      conv => whnf
      refine ifb (fun c7 => ?_) (fun c7 => ?_)
      · conv => whnf
        exact ⟨rfl, bad (by have c7 : decide (1000 < k.lm) = true := c7; simp [wrongK, c7])⟩
      have good : wrongK k = false := by
        have c3 : (!isCell k.n k.d 8) = false := c3
        have c4 : decide (k.v < 1) = false := c4
        have c5 : decide (16777216 < k.v) = false := c5
        have c6 : decide (k.lm < 0) = false := c6
        have c7 : decide (1000 < k.lm) = false := c7
        unfold wrongK
        rw [c3, c4, c5, c6, c7]; rfl
      conv => whnf
      refine iv ((i + 1 : Nat) : Int) (by rw [w64 (by omega) (by omega)]; omega) ?_
      conv => whnf
      refine ⟨K.length - (i + 1), [(3, .int .i64 (i + 1 : Nat)), (0, knownsD f K)], [], by omega, ⟨_, .refl _, .inr ⟨[], ⟨?_, trivial, rfl, rfl⟩⟩⟩, i + 1, by omega, rfl, ?_, rfl, rfl⟩
      · exact ⟨.refl _, rfl, .refl _, rfl, trivial⟩
      · intro x hx
        rw [List.take_succ_eq_append_getElem c2] at hx
        rcases List.mem_append.1 hx with hx | hx
        · exact hall x hx
        · simp at hx; subst hx
          rw [List.getElem?_eq_getElem c2] at hk; cases hk; exact good
    · have : i = K.length := by
        have : decide ((i : Int) < ((K.map Known.D).length : Nat)) = false := c2
        simp at this; omega
      subst this
      rw [List.take_length] at hall
      have : rightK K = true := by
        unfold rightK
        simp only [Bool.and_eq_true, decide_eq_true_eq, Bool.not_eq_true', List.any_eq_false]
        exact ⟨c1, fun k hk => by rw [hall k hk]; simp⟩
      conv => whnf
      exact ⟨rfl, by rw [this]; rfl⟩

theorem vFromR (x p : Stp) (a b : Int) : Val Try.prog 45 [x.D, p.D, .agg [.int .i64 a, .int .i64 b]] (fun r => r = .bool (decide (p.s = ⟨a, b, x.s.up⟩))) := by
  refine Val.of ?_
  refine hc_ofS (okc Try.f45.ntmps 0) (fn := Try.f45) (cd := _) rfl rfl rfl rfl rfl rfl (fun hbd => ?_)
  obtain ⟨⟨pn, pd, pu⟩, pv, pb, pa⟩ := p
  conv => whnf
  refine ob ⟨by decide, by decide⟩ ?_
  conv => whnf
  refine ifb (fun c1 => ?_) (fun c1 => ?_)
  · have c1 : pn = a := by simpa using c1
    conv => whnf
    refine ob ⟨by decide, by decide⟩ ?_
    conv => whnf
    refine ifb (fun c2 => ?_) (fun c2 => ?_)
    · have c2 : pd = b := by simpa using c2
      conv => whnf
      refine ⟨rfl, ?_⟩
      show D.bool (pu == x.s.up) = _
      subst c1; subst c2
      cases pu <;> cases x.s.up <;> simp
    · have c2 : pd ≠ b := by simpa using c2
      conv => whnf
      exact ⟨rfl, by simp [oneR, c2]⟩
  · have c1 : pn ≠ a := by simpa using c1
    conv => whnf
    exact ⟨rfl, by simp [oneR, c1]⟩

end Go.Proofs.Ythplmnpfaagciaa.Pw

/- The reference: whether a step follows from steps before it. -/
set_option linter.unusedVariables false
set_option linter.unusedSimpArgs false
set_option linter.unnecessarySimpa false
namespace Go.Proofs.Ythplmnpfaagciaa.Pw
open Go

theorem wu64 {n : Int} (h1 : 0 ≤ n) (h2 : n ≤ 9223372036854775807) : IntKind.u64.wrap n = n := by
  have h : IntKind.u64.wrap n = n % 18446744073709551616 := by simp [IntKind.wrap, IntKind.bits, IntKind.signed]
  rw [h]; omega
set_option maxHeartbeats 4000000 in
theorem vFollowsR0 (fk fg fb : Bool) (K : List Known) (G : List Int) (before : List Stp) (x : Stp) (hs : isC 8 x.s) (hb0 : ∀ y ∈ before, okStp y) :
    Val Try.prog 32 [.list fk sh5 (K.map Known.D), .list fg .leaf (G.map (.int .i64)), .list fb sh6 ((before ++ [x]).map Stp.D)] (fun r => ∃ b, r = .bool b ∧ (b = true ↔ FolX K G before x)) := by
  refine Val.of ?_
  have hx : ((before ++ [x]).map Stp.D)[before.length]? = some x.D := by simp
  have hlen : ((before ++ [x]).map Stp.D).length = before.length + 1 := by simp
  have htk : (((before ++ [x]).map Stp.D).drop 0).take before.length = before.map Stp.D := by
    rw [List.drop_zero, List.map_append, List.take_append_of_le_length (by simp), List.take_of_length_le (by simp)]
  have htk2 : (((before ++ [x]).map Stp.D).take before.length).drop 0 = before.map Stp.D := by
    rw [List.drop_zero] at htk ⊢; exact htk
  obtain ⟨BB, hBB⟩ : ∃ BB, BB = (before ++ [x]).map Stp.D := ⟨_, rfl⟩
  rw [← hBB] at hx hlen htk htk2 ⊢
  obtain ⟨s, v, by_, at_⟩ := x
  have hs : isC 8 s := hs
  have hs1 : 1 ≤ s.n := by have := hs.1; have := hs.2.1; omega
  have hs2 : s.n ≤ 8 := hs.2.2
  have hsd1 : 1 ≤ s.d := hs.1
  have hsd2 : s.d ≤ s.n := hs.2.1
  have hp := two_pow hs1 hs2
  have hshl : IntKind.i64.wrap (1 * 2 ^ min s.n.toNat IntKind.i64.bits) = 2 ^ s.n.toNat := by
    have : min s.n.toNat IntKind.i64.bits = s.n.toNat := by show min s.n.toNat 64 = _; omega
    rw [this, w64 (by omega) (by omega)]; omega
  refine hc_ofS (okc Try.f32.ntmps 0) (fn := Try.f32) (cd := _) rfl rfl rfl rfl rfl rfl (fun hbd => ?_)
  have hl64 : before.length + 1 ≤ 9223372036854775807 := by
    have : BB.length ≤ 9223372036854775807 := by simpa [maxInt] using hbd.2.2.1.1
    omega
  conv => whnf
  refine iv (before.length : Int) (by show IntKind.i64.wrap ((BB.length : Int) - 1) = _; rw [hlen, w64 (by omega) (by omega)]; omega) ?_
  conv => whnf
  refine ob (by omega) ⟨_, hx, ?_⟩
  conv => whnf
  refine iv (before.length : Int) (by show IntKind.i64.wrap ((BB.length : Int) - 1) = _; rw [hlen, w64 (by omega) (by omega)]; omega) ?_
  conv => whnf
  refine ob ⟨by omega, by rw [hlen]; omega⟩ ?_
  conv => whnf
  refine ifb (fun h1 => ?_) (fun h1 => ?_)
  · have h1 : by_ = 0 := by simpa using h1
    subst h1
    conv => whnf
    refine ifb (fun h3 => ?_) (fun h3 => ?_)
    · have h3 : at_.length ≠ 1 := by
        have : (!decide (((at_.map (D.int .i64)).length : Int) = 1)) = true := h3
        simp at this; omega
      conv => whnf
      exact ⟨rfl, false, rfl, iff_of_false (by simp) (FolX_len (by decide) (by decide) h3)⟩
    have h3 : at_.length = 1 := by
      have : (!decide (((at_.map (D.int .i64)).length : Int) = 1)) = false := h3
      simp at this; omega
    obtain ⟨a, rfl⟩ : ∃ a, at_ = [a] := by
      match at_, h3 with
      | [a], _ => exact ⟨a, rfl⟩
    conv => whnf
    refine ob (by decide) ⟨.int .i64 a, rfl, ?_⟩
    conv => whnf
    refine ifb (fun h4 => ?_) (fun h4 => ?_)
    · have h4 : a < 0 := by simpa using h4
      conv => whnf
      exact ⟨rfl, false, rfl, iff_of_false (by simp) (FolX_neg (by decide) (by decide) h4)⟩
    have h4 : 0 ≤ a := by
      have : decide (a < 0) = false := h4
      simpa using this
    obtain ⟨a, rfl⟩ : ∃ n : Nat, a = n := ⟨a.toNat, by omega⟩
    conv => whnf
    refine ob (by decide) ⟨.int .i64 a, rfl, ?_⟩
    conv => whnf
    refine ifb (fun h6 => ?_) (fun h6 => ?_)
    · have h6 : K.length ≤ a := by
        have : decide (((K.map Known.D).length : Int) ≤ (a : Int)) = true := h6
        simp at this; omega
      conv => whnf
      refine ⟨rfl, false, rfl, iff_of_false (by simp) ?_⟩
      rw [FolX_known]
      rintro ⟨k, hk, _⟩
      rw [List.getElem?_eq_none h6] at hk; cases hk
    have h6 : a < K.length := by
      have : decide (((K.map Known.D).length : Int) ≤ (a : Int)) = false := h6
      simp at this; omega
    obtain ⟨k, hk⟩ : ∃ k, K[a]? = some k := ⟨_, List.getElem?_eq_getElem h6⟩
    have hkD : (K.map Known.D)[a]? = some k.D := by rw [List.getElem?_map, hk]; rfl
    have hF : FolX K G before ⟨s, v, 0, [(a : Int)]⟩ ↔ (force k G = true ∧ k.n = s.n ∧ k.d = s.d ∧ k.up = s.up ∧ k.v = v) := by
      rw [FolX_known]
      constructor
      · rintro ⟨k', hk', q1, q2, q3⟩
        rw [hk] at hk'; cases hk'
        rw [← q2]
        exact ⟨q1, rfl, rfl, rfl, q3⟩
      · rintro ⟨q1, q2, q3, q4, q5⟩
        exact ⟨k, hk, q1, side_ext q2 q3 q4, q5⟩
    conv => whnf
    refine ob (by decide) ⟨.int .i64 a, rfl, ?_⟩
    conv => whnf
    refine ob (by omega) ⟨k.D, hkD, ?_⟩
    conv => whnf
    refine Val.call (vForceR k fg G) (.refl _) (ler _ _) rfl ?_
    rintro r rfl
    conv => whnf
    refine ifb (fun c1 => ?_) (fun c1 => ?_)
    · have c1 : force k G = true := c1
      conv => whnf
      refine ifb (fun c2 => ?_) (fun c2 => ?_)
      · have c2 : k.n = s.n := of_decide_eq_true c2
        conv => whnf
        refine ifb (fun c3 => ?_) (fun c3 => ?_)
        · have c3 : k.d = s.d := of_decide_eq_true c3
          conv => whnf
          refine ifb (fun c4 => ?_) (fun c4 => ?_)
          · have c4 : k.up = s.up := by
              have : (k.up == s.up) = true := c4
              simpa using this
            conv => whnf
            refine ⟨rfl, _, rfl, ?_⟩
            rw [hF]
            show decide (k.v = v) = true ↔ _
            rw [decide_eq_true_iff]
            exact ⟨fun h => ⟨c1, c2, c3, c4, h⟩, fun h => h.2.2.2.2⟩
          · have c4 : ¬ k.up = s.up := by
              have : (k.up == s.up) = false := c4
              simpa using this
            conv => whnf
            exact ⟨rfl, false, rfl, iff_of_false (by simp) (by rw [hF]; exact fun h => c4 h.2.2.2.1)⟩
        · have c3 : ¬ k.d = s.d := of_decide_eq_false c3
          conv => whnf
          exact ⟨rfl, false, rfl, iff_of_false (by simp) (by rw [hF]; exact fun h => c3 h.2.2.1)⟩
      · have c2 : ¬ k.n = s.n := of_decide_eq_false c2
        conv => whnf
        exact ⟨rfl, false, rfl, iff_of_false (by simp) (by rw [hF]; exact fun h => c2 h.2.1)⟩
    · have c1 : ¬ force k G = true := by
        have c1 : force k G = false := c1
        rw [c1]; simp
      conv => whnf
      exact ⟨rfl, false, rfl, iff_of_false (by simp) (by rw [hF]; exact fun h => c1 h.1)⟩
  have nb0 : by_ ≠ 0 := by simpa using h1
  conv => whnf
  refine ifb (fun h1 => ?_) (fun h1 => ?_)
  · have h1 : by_ = 1 := by simpa using h1
    subst h1
    conv => whnf
    refine ifb (fun h2 => ?_) (fun h2 => ?_)
    · have h2 : at_ = [] := by
        have : decide (((at_.map (D.int .i64)).length : Int) = 0) = true := h2
        simpa using this
      subst h2
      conv => whnf
      refine iv s.n (show IntKind.u64.wrap s.n = s.n from wu64 (by omega) (by omega)) ?_
      conv => whnf
      refine ob (show 0 ≤ s.n by omega) ?_
      refine iv (2 ^ s.n.toNat) hshl ?_
      conv => whnf
      refine ifb (fun h3 => ?_) (fun h3 => ?_)
      · have h3 : v = 2 ^ s.n.toNat := of_decide_eq_true h3
        conv => whnf
        refine ifb (fun h4 => ?_) (fun h4 => ?_)
        · conv => whnf
          exact ⟨rfl, _, rfl, iff_of_true rfl (.inl ⟨rfl, rfl, h3, .inl h4⟩)⟩
        · have h4 : s.up = false := h4
          conv => whnf
          refine ⟨rfl, _, rfl, ?_⟩
          show decide (s.d = 1) = true ↔ _
          simp [FolX, h3, h4]
          try omega
      · have h3 : ¬ v = 2 ^ s.n.toNat := of_decide_eq_false h3
        conv => whnf
        refine ⟨rfl, false, rfl, ?_⟩
        simp [FolX, h3]
        try omega
    · have h2 : ¬ at_ = [] := by
        have : decide (((at_.map (D.int .i64)).length : Int) = 0) = false := h2
        simpa using this
      conv => whnf
      refine ⟨rfl, false, rfl, ?_⟩
      simp [FolX, h2]
      try omega
  have nb1 : by_ ≠ 1 := by simpa using h1
  conv => whnf
  refine ifb (fun h1 => ?_) (fun h1 => ?_)
  · have h1 : by_ = 2 := by simpa using h1
    subst h1
    conv => whnf
    refine ifb (fun h2 => ?_) (fun h2 => ?_)
    · have h2 : at_ = [] := by
        have : decide (((at_.map (D.int .i64)).length : Int) = 0) = true := h2
        simpa using this
      subst h2
      conv => whnf
      refine ifb (fun h3 => ?_) (fun h3 => ?_)
      · have h3 : v = 2 := of_decide_eq_true h3
        conv => whnf
        refine ifb (fun h4 => ?_) (fun h4 => ?_)
        · have h4 : s.up = false := by
            have : (!s.up) = true := h4
            simpa using this
          conv => whnf
          exact ⟨rfl, _, rfl, iff_of_true rfl (.inr (.inl ⟨rfl, rfl, h3, .inl h4⟩))⟩
        · have h4 : s.up = true := by
            have : (!s.up) = false := h4
            simpa using this
          conv => whnf
          refine ⟨rfl, _, rfl, ?_⟩
          show decide (s.d = s.n) = true ↔ _
          simp [FolX, h3, h4]
          try omega
      · have h3 : ¬ v = 2 := of_decide_eq_false h3
        conv => whnf
        refine ⟨rfl, false, rfl, ?_⟩
        simp [FolX, h3]
        try omega
    · have h2 : ¬ at_ = [] := by
        have : decide (((at_.map (D.int .i64)).length : Int) = 0) = false := h2
        simpa using this
      conv => whnf
      refine ⟨rfl, false, rfl, ?_⟩
      simp [FolX, h2]
      try omega
  have nb2 : by_ ≠ 2 := by simpa using h1
  conv => whnf
  refine ifb (fun h3 => ?_) (fun h3 => ?_)
  · have h3 : at_.length ≠ 1 := by
      have : (!decide (((at_.map (D.int .i64)).length : Int) = 1)) = true := h3
      simp at this; omega
    conv => whnf
    exact ⟨rfl, false, rfl, iff_of_false (by simp) (FolX_len nb1 nb2 h3)⟩
  have h3 : at_.length = 1 := by
    have : (!decide (((at_.map (D.int .i64)).length : Int) = 1)) = false := h3
    simp at this; omega
  obtain ⟨a, rfl⟩ : ∃ a, at_ = [a] := by
    match at_, h3 with
    | [a], _ => exact ⟨a, rfl⟩
  conv => whnf
  refine ob (by decide) ⟨.int .i64 a, rfl, ?_⟩
  conv => whnf
  refine ifb (fun h4 => ?_) (fun h4 => ?_)
  · have h4 : a < 0 := by simpa using h4
    conv => whnf
    exact ⟨rfl, false, rfl, iff_of_false (by simp) (FolX_neg nb1 nb2 h4)⟩
  have h4 : 0 ≤ a := by
    have : decide (a < 0) = false := h4
    simpa using this
  obtain ⟨a, rfl⟩ : ∃ n : Nat, a = n := ⟨a.toNat, by omega⟩
  conv => whnf
  refine ob (by decide) ⟨.int .i64 a, rfl, ?_⟩
  conv => whnf
  refine ifb (fun h6 => ?_) (fun h6 => ?_)
  · have h6 : before.length ≤ a := by
      have : decide (((List.drop 0 (List.take before.length BB)).length : Int) ≤ (a : Int)) = true := h6
      rw [htk2, List.length_map] at this
      simp at this; omega
    conv => whnf
    exact ⟨rfl, false, rfl, iff_of_false (by simp) (FolX_far nb0 nb1 nb2 (List.getElem?_eq_none h6))⟩
  have h6 : a < before.length := by
    have : decide (((List.drop 0 (List.take before.length BB)).length : Int) ≤ (a : Int)) = false := h6
    rw [htk2, List.length_map] at this
    simp at this; omega
  have hp' : before[a]? = some before[a] := List.getElem?_eq_getElem h6
  obtain ⟨hpc, hp1, hp2⟩ := hb0 before[a] (List.getElem_mem h6)
  generalize before[a] = p at hp' hpc hp1 hp2
  have hpD : (List.drop 0 (List.take before.length BB))[a]? = some p.D := by rw [htk2, List.getElem?_map, hp']; rfl
  have hpc1 := hpc.1
  have hpc2 := hpc.2.1
  have hpc3 := hpc.2.2
  conv => whnf
  refine ob (by decide) ⟨.int .i64 a, rfl, ?_⟩
  conv => whnf
  refine ob (by omega) ⟨p.D, hpD, ?_⟩
  obtain ⟨sn, sd, su⟩ := s
  simp only at hs1 hs2 hsd1 hsd2
  clear hx hBB hlen htk htk2 hpD hshl hp hs
  conv => whnf
  refine ifb (fun hu => ?_) (fun hu => ?_)
  · have hu : su = true := hu
    subst hu
    conv => whnf
    refine ifb (fun h7 => ?_) (fun h7 => ?_)
    · have h7 : by_ = 3 := of_decide_eq_true h7
      subst h7
      conv => whnf
      refine iv (sn - 1) (show IntKind.i64.wrap (sn - 1) = sn - 1 from w64 (by omega) (by omega)) ?_
      conv => whnf
      have hr := FolX_rule (K := K) (G := G) (s := ⟨sn, sd, true⟩) (v := v) (a := a) (r := 3) (by omega) (by omega) hp'
      rw [(srcHi sn sd).1] at hr
      refine Val.call (vFromR ⟨⟨sn, sd, true⟩, v, 3, [(a : Int)]⟩ p (sn - 1) (sd)) (.refl _) (ler _ _) (by simp only [clDs, cl_stp]; rfl) ?_
      rintro r rfl
      conv => whnf
      refine ifb (fun g1 => ?_) (fun g1 => ?_)
      · have g1 : p.s = ⟨sn - 1, sd, true⟩ := of_decide_eq_true g1
        conv => whnf
        refine ifb (fun g2 => ?_) (fun g2 => ?_)
        · have g2 : p.v < 4611686018427387904 := of_decide_eq_true g2
          conv => whnf
          refine iv (2 * p.v) (w64 (by omega) (by omega)) ?_
          conv => whnf
          refine ⟨rfl, _, rfl, Iff.trans ?_ hr.symm⟩
          show decide (v = 2 * p.v) = true ↔ _
          rw [decide_eq_true_iff]
          exact ⟨fun h => ⟨g1, fun _ => g2, h⟩, fun h => h.2.2⟩
        · have g2 : ¬ p.v < 4611686018427387904 := of_decide_eq_false g2
          conv => whnf
          exact ⟨rfl, false, rfl, iff_of_false (by simp) (fun h => g2 ((hr.1 h).2.1 rfl))⟩
      · have g1 : ¬ p.s = ⟨sn - 1, sd, true⟩ := of_decide_eq_false g1
        conv => whnf
        exact ⟨rfl, false, rfl, iff_of_false (by simp) (fun h => g1 (hr.1 h).1)⟩
    have nb3 : by_ ≠ 3 := of_decide_eq_false h7
    conv => whnf
    refine ifb (fun h7 => ?_) (fun h7 => ?_)
    · have h7 : by_ = 4 := of_decide_eq_true h7
      subst h7
      conv => whnf
      refine iv (sd - 1) (by show IntKind.i64.wrap (sd + -1) = _; rw [w64 (by omega) (by omega)]; omega) ?_
      conv => whnf
      have hr := FolX_rule (K := K) (G := G) (s := ⟨sn, sd, true⟩) (v := v) (a := a) (r := 4) (by omega) (by omega) hp'
      rw [(srcHi sn sd).2.2.1] at hr
      refine Val.call (vFromR ⟨⟨sn, sd, true⟩, v, 4, [(a : Int)]⟩ p (sn) (sd - 1)) (.refl _) (ler _ _) (by simp only [clDs, cl_stp]; rfl) ?_
      rintro r rfl
      conv => whnf
      refine ifb (fun g1 => ?_) (fun g1 => ?_)
      · have g1 : p.s = ⟨sn, sd - 1, true⟩ := of_decide_eq_true g1
        conv => whnf
        refine ⟨rfl, _, rfl, Iff.trans ?_ hr.symm⟩
        show decide (v = p.v) = true ↔ _
        rw [decide_eq_true_iff]
        exact ⟨fun h => ⟨g1, fun h => by omega, h⟩, fun h => h.2.2⟩
      · have g1 : ¬ p.s = ⟨sn, sd - 1, true⟩ := of_decide_eq_false g1
        conv => whnf
        exact ⟨rfl, false, rfl, iff_of_false (by simp) (fun h => g1 (hr.1 h).1)⟩
    have nb4 : by_ ≠ 4 := of_decide_eq_false h7
    conv => whnf
    refine ifb (fun h7 => ?_) (fun h7 => ?_)
    · have h7 : by_ = 5 := of_decide_eq_true h7
      subst h7
      conv => whnf
      refine iv (sn + 1) (by show IntKind.i64.wrap (sn - -1) = _; rw [w64 (by omega) (by omega)]; omega) ?_
      conv => whnf
      have hr := FolX_rule (K := K) (G := G) (s := ⟨sn, sd, true⟩) (v := v) (a := a) (r := 5) (by omega) (by omega) hp'
      rw [(srcHi sn sd).2.1] at hr
      refine Val.call (vFromR ⟨⟨sn, sd, true⟩, v, 5, [(a : Int)]⟩ p (sn + 1) (sd)) (.refl _) (ler _ _) (by simp only [clDs, cl_stp]; rfl) ?_
      rintro r rfl
      conv => whnf
      refine ifb (fun g1 => ?_) (fun g1 => ?_)
      · have g1 : p.s = ⟨sn + 1, sd, true⟩ := of_decide_eq_true g1
        conv => whnf
        refine ⟨rfl, _, rfl, Iff.trans ?_ hr.symm⟩
        show decide (v = p.v) = true ↔ _
        rw [decide_eq_true_iff]
        exact ⟨fun h => ⟨g1, fun h => by omega, h⟩, fun h => h.2.2⟩
      · have g1 : ¬ p.s = ⟨sn + 1, sd, true⟩ := of_decide_eq_false g1
        conv => whnf
        exact ⟨rfl, false, rfl, iff_of_false (by simp) (fun h => g1 (hr.1 h).1)⟩
    have nb5 : by_ ≠ 5 := of_decide_eq_false h7
    conv => whnf
    refine ifb (fun h7 => ?_) (fun h7 => ?_)
    · have h7 : by_ = 6 := of_decide_eq_true h7
      subst h7
      have hod : od sd = 1 - 2 * (sd + 1).tmod 2 ∧ (od sd = 1 ∨ od sd = -1) ∧ (sd + 1).tmod 2 ≤ 1 ∧ 0 ≤ (sd + 1).tmod 2 := by
        have e1 : sd.tmod 2 = sd % 2 := Int.tmod_eq_emod_of_nonneg (by omega)
        have e2 : (sd + 1).tmod 2 = (sd + 1) % 2 := Int.tmod_eq_emod_of_nonneg (by omega)
        unfold od
        rw [e1, e2]
        split <;> omega
      conv => whnf
      refine iv (sd + 1) (show IntKind.i64.wrap (sd + 1) = sd + 1 from w64 (by omega) (by omega)) ?_
      conv => whnf
      refine ob (by decide) ?_
      refine iv ((sd + 1).tmod 2) rfl ?_
      conv => whnf
      refine iv (2 * (sd + 1).tmod 2) (show IntKind.i64.wrap (2 * (sd + 1).tmod 2) = 2 * (sd + 1).tmod 2 from w64 (by omega) (by omega)) ?_
      conv => whnf
      refine iv (od sd) (by show IntKind.i64.wrap (1 - 2 * (sd + 1).tmod 2) = _; rw [w64 (by omega) (by omega)]; omega) ?_
      conv => whnf
      refine iv (sn + od sd) (show IntKind.i64.wrap (sn + od sd) = sn + od sd from w64 (by omega) (by omega)) ?_
      conv => whnf
      refine iv (sd + od sd) (show IntKind.i64.wrap (sd + od sd) = sd + od sd from w64 (by omega) (by omega)) ?_
      conv => whnf
      have hr := FolX_rule (K := K) (G := G) (s := ⟨sn, sd, true⟩) (v := v) (a := a) (r := 6) (by omega) (by omega) hp'
      rw [(srcHi sn sd).2.2.2] at hr
      refine Val.call (vFromR ⟨⟨sn, sd, true⟩, v, 6, [(a : Int)]⟩ p (sn + od sd) (sd + od sd)) (.refl _) (ler _ _) (by simp only [clDs, cl_stp]; rfl) ?_
      rintro r rfl
      conv => whnf
      refine ifb (fun g1 => ?_) (fun g1 => ?_)
      · have g1 : p.s = ⟨sn + od sd, sd + od sd, true⟩ := of_decide_eq_true g1
        conv => whnf
        refine ⟨rfl, _, rfl, Iff.trans ?_ hr.symm⟩
        show decide (v = p.v) = true ↔ _
        rw [decide_eq_true_iff]
        exact ⟨fun h => ⟨g1, fun h => by omega, h⟩, fun h => h.2.2⟩
      · have g1 : ¬ p.s = ⟨sn + od sd, sd + od sd, true⟩ := of_decide_eq_false g1
        conv => whnf
        exact ⟨rfl, false, rfl, iff_of_false (by simp) (fun h => g1 (hr.1 h).1)⟩
    have nb6 : by_ ≠ 6 := of_decide_eq_false h7
    conv => whnf
    refine ⟨rfl, false, rfl, iff_of_false (by simp) (FolX_other ?_)⟩
    intro r hr
    have : r = 0 ∨ r = 1 ∨ r = 2 ∨ r = 3 ∨ r = 4 ∨ r = 5 ∨ r = 6 := by omega
    rcases this with rfl | rfl | rfl | rfl | rfl | rfl | rfl
    · exact nb0
    · exact nb1
    · exact nb2
    · exact nb3
    · exact nb4
    · exact nb5
    · exact nb6
  · have hu : su = false := hu
    subst hu
    conv => whnf
    refine ifb (fun h7 => ?_) (fun h7 => ?_)
    · have h7 : by_ = 3 := of_decide_eq_true h7
      subst h7
      conv => whnf
      refine iv (sn + 1) (show IntKind.i64.wrap (sn + 1) = sn + 1 from w64 (by omega) (by omega)) ?_
      conv => whnf
      have hr := FolX_rule (K := K) (G := G) (s := ⟨sn, sd, false⟩) (v := v) (a := a) (r := 3) (by omega) (by omega) hp'
      rw [(srcLo sn sd).2.1] at hr
      refine Val.call (vFromR ⟨⟨sn, sd, false⟩, v, 3, [(a : Int)]⟩ p (sn + 1) (sd)) (.refl _) (ler _ _) (by simp only [clDs, cl_stp]; rfl) ?_
      rintro r rfl
      conv => whnf
      refine ifb (fun g1 => ?_) (fun g1 => ?_)
      · have g1 : p.s = ⟨sn + 1, sd, false⟩ := of_decide_eq_true g1
        have hpv := hp2 (by rw [g1])
        conv => whnf
        refine iv (p.v + 1) (w64 (by omega) (by omega)) ?_
        conv => whnf
        refine ob (by decide) ?_
        have ht := (tdiv2 (p.v + 1)).1 (by omega)
        refine iv ((p.v + 1).tdiv 2) (w64 (by omega) (by omega)) ?_
        conv => whnf
        refine ⟨rfl, _, rfl, Iff.trans ?_ hr.symm⟩
        show decide (v = (p.v + 1).tdiv 2) = true ↔ _
        rw [decide_eq_true_iff]
        exact ⟨fun h => ⟨g1, fun _ => by omega, h⟩, fun h => h.2.2⟩
      · have g1 : ¬ p.s = ⟨sn + 1, sd, false⟩ := of_decide_eq_false g1
        conv => whnf
        exact ⟨rfl, false, rfl, iff_of_false (by simp) (fun h => g1 (hr.1 h).1)⟩
    have nb3 : by_ ≠ 3 := of_decide_eq_false h7
    conv => whnf
    refine ifb (fun h7 => ?_) (fun h7 => ?_)
    · have h7 : by_ = 4 := of_decide_eq_true h7
      subst h7
      conv => whnf
      refine iv (sd + 1) (by show IntKind.i64.wrap (sd + 1) = _; rw [w64 (by omega) (by omega)]) ?_
      conv => whnf
      have hr := FolX_rule (K := K) (G := G) (s := ⟨sn, sd, false⟩) (v := v) (a := a) (r := 4) (by omega) (by omega) hp'
      rw [(srcLo sn sd).2.2.1] at hr
      refine Val.call (vFromR ⟨⟨sn, sd, false⟩, v, 4, [(a : Int)]⟩ p (sn) (sd + 1)) (.refl _) (ler _ _) (by simp only [clDs, cl_stp]; rfl) ?_
      rintro r rfl
      conv => whnf
      refine ifb (fun g1 => ?_) (fun g1 => ?_)
      · have g1 : p.s = ⟨sn, sd + 1, false⟩ := of_decide_eq_true g1
        conv => whnf
        refine ⟨rfl, _, rfl, Iff.trans ?_ hr.symm⟩
        show decide (v = p.v) = true ↔ _
        rw [decide_eq_true_iff]
        exact ⟨fun h => ⟨g1, fun h => by omega, h⟩, fun h => h.2.2⟩
      · have g1 : ¬ p.s = ⟨sn, sd + 1, false⟩ := of_decide_eq_false g1
        conv => whnf
        exact ⟨rfl, false, rfl, iff_of_false (by simp) (fun h => g1 (hr.1 h).1)⟩
    have nb4 : by_ ≠ 4 := of_decide_eq_false h7
    conv => whnf
    refine ifb (fun h7 => ?_) (fun h7 => ?_)
    · have h7 : by_ = 5 := of_decide_eq_true h7
      subst h7
      conv => whnf
      refine iv (sn - 1) (by show IntKind.i64.wrap (sn - 1) = _; rw [w64 (by omega) (by omega)]) ?_
      conv => whnf
      have hr := FolX_rule (K := K) (G := G) (s := ⟨sn, sd, false⟩) (v := v) (a := a) (r := 5) (by omega) (by omega) hp'
      rw [(srcLo sn sd).1] at hr
      refine Val.call (vFromR ⟨⟨sn, sd, false⟩, v, 5, [(a : Int)]⟩ p (sn - 1) (sd)) (.refl _) (ler _ _) (by simp only [clDs, cl_stp]; rfl) ?_
      rintro r rfl
      conv => whnf
      refine ifb (fun g1 => ?_) (fun g1 => ?_)
      · have g1 : p.s = ⟨sn - 1, sd, false⟩ := of_decide_eq_true g1
        conv => whnf
        refine ⟨rfl, _, rfl, Iff.trans ?_ hr.symm⟩
        show decide (v = p.v) = true ↔ _
        rw [decide_eq_true_iff]
        exact ⟨fun h => ⟨g1, fun h => by omega, h⟩, fun h => h.2.2⟩
      · have g1 : ¬ p.s = ⟨sn - 1, sd, false⟩ := of_decide_eq_false g1
        conv => whnf
        exact ⟨rfl, false, rfl, iff_of_false (by simp) (fun h => g1 (hr.1 h).1)⟩
    have nb5 : by_ ≠ 5 := of_decide_eq_false h7
    conv => whnf
    refine ifb (fun h7 => ?_) (fun h7 => ?_)
    · have h7 : by_ = 6 := of_decide_eq_true h7
      subst h7
      have hod : od sd = 1 - 2 * (sd + 1).tmod 2 ∧ (od sd = 1 ∨ od sd = -1) ∧ (sd + 1).tmod 2 ≤ 1 ∧ 0 ≤ (sd + 1).tmod 2 := by
        have e1 : sd.tmod 2 = sd % 2 := Int.tmod_eq_emod_of_nonneg (by omega)
        have e2 : (sd + 1).tmod 2 = (sd + 1) % 2 := Int.tmod_eq_emod_of_nonneg (by omega)
        unfold od
        rw [e1, e2]
        split <;> omega
      conv => whnf
      refine iv (sd + 1) (show IntKind.i64.wrap (sd + 1) = sd + 1 from w64 (by omega) (by omega)) ?_
      conv => whnf
      refine ob (by decide) ?_
      refine iv ((sd + 1).tmod 2) rfl ?_
      conv => whnf
      refine iv (2 * (sd + 1).tmod 2) (show IntKind.i64.wrap (2 * (sd + 1).tmod 2) = 2 * (sd + 1).tmod 2 from w64 (by omega) (by omega)) ?_
      conv => whnf
      refine iv (od sd) (by show IntKind.i64.wrap (1 - 2 * (sd + 1).tmod 2) = _; rw [w64 (by omega) (by omega)]; omega) ?_
      conv => whnf
      refine iv (sn + od sd) (show IntKind.i64.wrap (sn + od sd) = sn + od sd from w64 (by omega) (by omega)) ?_
      conv => whnf
      refine iv (sd + od sd) (show IntKind.i64.wrap (sd + od sd) = sd + od sd from w64 (by omega) (by omega)) ?_
      conv => whnf
      have hr := FolX_rule (K := K) (G := G) (s := ⟨sn, sd, false⟩) (v := v) (a := a) (r := 6) (by omega) (by omega) hp'
      rw [(srcLo sn sd).2.2.2] at hr
      refine Val.call (vFromR ⟨⟨sn, sd, false⟩, v, 6, [(a : Int)]⟩ p (sn + od sd) (sd + od sd)) (.refl _) (ler _ _) (by simp only [clDs, cl_stp]; rfl) ?_
      rintro r rfl
      conv => whnf
      refine ifb (fun g1 => ?_) (fun g1 => ?_)
      · have g1 : p.s = ⟨sn + od sd, sd + od sd, false⟩ := of_decide_eq_true g1
        conv => whnf
        refine ⟨rfl, _, rfl, Iff.trans ?_ hr.symm⟩
        show decide (v = p.v) = true ↔ _
        rw [decide_eq_true_iff]
        exact ⟨fun h => ⟨g1, fun h => by omega, h⟩, fun h => h.2.2⟩
      · have g1 : ¬ p.s = ⟨sn + od sd, sd + od sd, false⟩ := of_decide_eq_false g1
        conv => whnf
        exact ⟨rfl, false, rfl, iff_of_false (by simp) (fun h => g1 (hr.1 h).1)⟩
    have nb6 : by_ ≠ 6 := of_decide_eq_false h7
    conv => whnf
    refine ⟨rfl, false, rfl, iff_of_false (by simp) (FolX_other ?_)⟩
    intro r hr
    have : r = 0 ∨ r = 1 ∨ r = 2 ∨ r = 3 ∨ r = 4 ∨ r = 5 ∨ r = 6 := by omega
    rcases this with rfl | rfl | rfl | rfl | rfl | rfl | rfl
    · exact nb0
    · exact nb1
    · exact nb2
    · exact nb3
    · exact nb4
    · exact nb5
    · exact nb6

end Go.Proofs.Ythplmnpfaagciaa.Pw

/- The reference: which steps are accepted. -/
set_option linter.unusedVariables false
set_option linter.unusedSimpArgs false
namespace Go.Proofs.Ythplmnpfaagciaa.Pw
open Go

open Classical in
theorem vFollowsR (fk fg fb : Bool) (K : List Known) (G : List Int) (before : List Stp) (x : Stp) (hs : isC 8 x.s) (hb0 : ∀ y ∈ before, okStp y) :
    Val Try.prog 32 [.list fk sh5 (K.map Known.D), .list fg .leaf (G.map (.int .i64)), .list fb sh6 ((before ++ [x]).map Stp.D)] (fun r => r = .bool (decide (FolX K G before x))) := by
  refine (vFollowsR0 fk fg fb K G before x hs hb0).mono ?_
  rintro r ⟨b, rfl, h⟩
  congr 1
  cases b
  · have : ¬ FolX K G before x := fun h' => by simp [h'] at h
    simp [this]
  · have : FolX K G before x := h.1 rfl
    simp [this]

open Classical in
theorem vCheckR (fk fg fs : Bool) (K : List Known) (G : List Int) (L : List Stp) :
    Val Try.prog 19 [.list fk sh5 (K.map Known.D), .list fg .leaf (G.map (.int .i64)), .list fs sh6 (L.map Stp.D)] (fun r => r = .int .i64 (checkR K G L)) := by
  refine Val.of ?_
  refine hc_ofS (okc Try.f19.ntmps 0) (fn := Try.f19) (cd := _) rfl rfl rfl rfl rfl rfl (fun hbd => ?_)
  conv => whnf
  refine Val.call (vRightR fk K) (.refl _) (ler _ _) rfl ?_
  rintro r rfl
  have h1c : rightK K = true ∨ rightK K = false := by cases rightK K <;> simp
  rcases h1c with h1 | h1
  · rw [h1]
    conv => whnf
    refine ifb (fun h2 => ?_) (fun h2 => ?_)
    · have h2 : ¬ (1 ≤ L.length ∧ L.length ≤ 400) := by
        have : decide (((L.map Stp.D).length : Int) < 1) = true := h2
        simp at this; omega
      conv => whnf
      exact ⟨rfl, by simp [oneR, checkR, h1, h2]⟩
    have h2 : 1 ≤ L.length := by
      have : decide (((L.map Stp.D).length : Int) < 1) = false := h2
      simp at this; omega
    conv => whnf
    refine ifb (fun h3 => ?_) (fun h3 => ?_)
    · have h3 : ¬ (1 ≤ L.length ∧ L.length ≤ 400) := by
        have : decide ((400 : Int) < ((L.map Stp.D).length : Int)) = true := h3
        simp at this; omega
      conv => whnf
      exact ⟨rfl, by simp [oneR, checkR, h1, h3]⟩
    have h3 : L.length ≤ 400 := by
      have : decide ((400 : Int) < ((L.map Stp.D).length : Int)) = false := h3
      simp at this; omega
    conv => whnf
    refine lp (fun n e H => ∃ i : Nat, i ≤ L.length ∧ n = L.length - i ∧ (∀ (j : Nat) x, j < i → L[j]? = some x → isC 8 x.s ∧ FolX K G (L.take j) x) ∧ H = [] ∧
      e = [(7, .int .i64 i), (0, .list fk sh5 (K.map Known.D)), (1, .list fg .leaf (G.map (.int .i64))), (2, .list fs sh6 (L.map Stp.D))]) ?_ ?_
    · refine ⟨L.length + 1, back L.length _ (by omega) ?_ ⟨0, by omega, by omega, by omega, rfl, rfl⟩⟩
      exact se0 rfl (se0 rfl (se0 rfl (se0 rfl trivial)))
    · rintro n e H ⟨i, hi, rfl, hall, rfl, rfl⟩
      conv => whnf
      refine ifb (fun c2 => ?_) (fun c2 => ?_)
      · have c2 : i < L.length := by
          have : decide ((i : Int) < ((L.map Stp.D).length : Nat)) = true := c2
          simp at this; omega
        obtain ⟨x, hx⟩ : ∃ x, L[i]? = some x := ⟨_, List.getElem?_eq_getElem c2⟩
        have hxD : (L.map Stp.D)[i]? = some x.D := by rw [List.getElem?_map, hx]; rfl
        have htk : L.take (i + 1) = L.take i ++ [x] := by
          rw [List.take_succ_eq_append_getElem c2]
          rw [List.getElem?_eq_getElem c2] at hx; cases hx; rfl
        have hsl : List.drop 0 (List.take (i + 1) (L.map Stp.D)) = (L.take i ++ [x]).map Stp.D := by
          rw [List.drop_zero, ← List.map_take, htk]
        have bad : ¬ (isC 8 x.s ∧ FolX K G (L.take i) x) → checkR K G L = 6 := by
          intro h
          unfold checkR
          rw [if_pos h1, if_neg]
          rintro ⟨_, h5⟩
          exact h (h5 i x hx)
        conv => whnf
        refine drT 21 (by decide +kernel) ?_
        conv => whnf
        refine ob (by omega) ⟨x.D, hxD, ?_⟩
        conv => whnf
        refine ob (by omega) ⟨x.D, hxD, ?_⟩
        conv => whnf
        refine ⟨_, none, PureC.val (vIs x.s.n x.s.d 8) (ler _ _) rfl (fun r H h => h.2.2) rfl, ?_⟩
        conv => whnf
        refine ifb (fun h5 => ?_) (fun h5 => ?_)
        · have h5 : isCell x.s.n x.s.d 8 = false := by
            have : (!isCell x.s.n x.s.d 8) = true := h5
            simpa using this
          have hc : ¬ isC 8 x.s := by rw [← cell_iff, h5]; simp
          conv => whnf
          exact ⟨rfl, by rw [bad (fun h => hc h.1)]; rfl⟩
        · have h5 : isCell x.s.n x.s.d 8 = true := by
            have : (!isCell x.s.n x.s.d 8) = false := h5
            simpa using this
          have hc : isC 8 x.s := (cell_iff _ _).1 h5
          have hok := AllX.ok h1 i hall i (Nat.le_refl _)
          have key : Val Try.prog 32 [.list fk sh5 (K.map Known.D), .list fg .leaf (G.map (.int .i64)), .list false sh6 (List.drop 0 (List.take (i + 1) (L.map Stp.D)))] (fun r => r = .bool (decide (FolX K G (L.take i) x))) := by
            rw [hsl]
            exact vFollowsR fk fg false K G (L.take i) x hc hok
          conv => whnf
          refine iv ((i + 1 : Nat) : Int) (by rw [w64 (by omega) (by omega)]; omega) ?_
          conv => whnf
          refine ob ⟨by omega, by rw [List.length_map]; omega⟩ ?_
          conv => whnf
          refine ⟨_, none, PureC.val key (ler _ _) rfl (fun r H h => h.2.2) rfl, ?_⟩
          conv => whnf
          refine ifb (fun h6 => ?_) (fun h6 => ?_)
          · have h6 : ¬ FolX K G (L.take i) x := by
              have : (!decide (FolX K G (L.take i) x)) = true := h6
              simpa using this
            conv => whnf
            exact ⟨rfl, by rw [bad (fun h => h6 h.2)]; rfl⟩
          · have h6 : FolX K G (L.take i) x := by
              have : (!decide (FolX K G (L.take i) x)) = false := h6
              simpa using this
            conv => whnf
            refine iv ((i + 1 : Nat) : Int) (by rw [w64 (by omega) (by omega)]; omega) ?_
            conv => whnf
            refine back (L.length - (i + 1)) _ (by omega) ?_ ⟨i + 1, by omega, rfl, ?_, rfl, rfl⟩
            · exact se0 rfl (se0 rfl (se0 rfl (se0 rfl trivial)))
            · intro j y hj hy
              by_cases e : j = i
              · subst e; rw [hx] at hy; cases hy; exact ⟨hc, h6⟩
              · exact hall j y (by omega) hy
      · have : i = L.length := by
          have : decide ((i : Int) < ((L.map Stp.D).length : Nat)) = false := c2
          simp at this; omega
        subst this
        have hA : AllX K G L := by
          intro j x hx
          exact hall j x (List.getElem?_eq_some_iff.1 hx).1 hx
        conv => whnf
        refine ⟨rfl, ?_⟩
        simp [oneR, checkR, h1, h2, h3, hA]
  · rw [h1]
    conv => whnf
    exact ⟨rfl, by simp [oneR, checkR, h1]⟩

end Go.Proofs.Ythplmnpfaagciaa.Pw

/- Tables in memory, of any length. -/
set_option linter.unusedVariables false
set_option linter.unusedSimpArgs false
namespace Go.Proofs.Ythplmnpfaagciaa.Pw
open Go

theorem nfq {n : Nat} {k : Nat → Prop} (h : k n) : nfrc n k := by rw [nfrc_eq]; exact h

/-! ### Objects at the end that are dropped -/
theorem range_get {n g : Nat} (h : g < n) : (List.range n).getD g 0 = g := by rw [List.getD, List.getElem?_range h]; rfl
mutual
theorem renD_id (n : Nat) : ∀ d : D, inD n d = true → renD (List.range n) d = d
  | .sl g o l, h => by simp only [inD] at h; simp only [renD, range_get (Nat.le_of_ble_eq_true h)]
  | .ptr g p, h => by simp only [inD] at h; simp only [renD, range_get (Nat.le_of_ble_eq_true h)]
  | .map g, h => by simp only [inD] at h; simp only [renD, range_get (Nat.le_of_ble_eq_true h)]
  | .func f caps, h => by simp only [inD] at h; simp only [renD, renDs_id n caps h]
  | .agg ds, h => by simp only [inD] at h; simp only [renD, renDs_id n ds h]
  | .tuple ds, h => by simp only [inD] at h; simp only [renD, renDs_id n ds h]
  | .top, _ => rfl
  | .bool _, _ => rfl
  | .int _ _, _ => rfl
  | .str _, _ => rfl
  | .nilp, _ => rfl
  | .nilf, _ => rfl
  | .nilm, _ => rfl
  | .nils, _ => rfl
  | .list _ _ _, _ => rfl
  | .ref _ _, _ => rfl
theorem renDs_id (n : Nat) : ∀ ds : List D, inDs n ds = true → renDs (List.range n) ds = ds
  | [], _ => rfl
  | d :: ds, h => by
    simp only [inDs] at h
    cases h1 : inD n d with
    | false => rw [h1] at h; cases h
    | true =>
      rw [h1] at h
      simp only [renDs, renD_id n d h1, renDs_id n ds h]
end
theorem renM_id (n : Nat) : ∀ es : List (D × D), inM n es = true → renM (List.range n) es = es
  | [], _ => rfl
  | p :: es, h => by
    simp only [inM] at h
    cases h1 : inD n p.1 with
    | false => rw [h1] at h; cases h
    | true =>
      cases h2 : inD n p.2 with
      | false => rw [h1, h2] at h; cases h
      | true =>
        rw [h1, h2] at h
        simp only [renM, renD_id n _ h1, renD_id n _ h2, renM_id n es h]
theorem renO_id (n : Nat) : ∀ o : Ob, inO n o = true → renO (List.range n) o = o
  | .var d, h => by simp only [renO, renD_id n d h]
  | .row sh ds, h => by simp only [renO, renDs_id n ds h]
  | .map es, h => by simp only [renO, renM_id n es h]
  | .dead, _ => rfl
  | .frz _ _, _ => rfl
  | .fvar _, _ => rfl
theorem subH_range (n : Nat) : ∀ (B A X : List Ob), n = A.length + B.length → (∀ o ∈ B, inO n o = true) → SubH (List.range n) n (A ++ B ++ X) B ((List.range B.length).map (A.length + ·))
  | [], A, X, hn, h => trivial
  | o :: B, A, X, hn, h => by
    have ih := subH_range n B (A ++ [o]) X (by simp at hn ⊢; omega) (fun o ho => h o (List.mem_cons_of_mem _ ho))
    rw [List.length_cons, List.range_succ_eq_map]
    simp only [List.map_cons, List.map_map, Nat.add_zero]
    refine ⟨?_, h o (by simp), ?_⟩
    · rw [renO_id n o (h o (by simp)), List.getD, List.append_assoc, List.getElem?_append_right (Nat.le_refl _)]
      simp
    · have e1 : A ++ [o] ++ B ++ X = A ++ o :: B ++ X := by simp
      have e2 : ((fun x => A.length + x) ∘ Nat.succ) = fun x => (A ++ [o]).length + x := by funext x; simp; omega
      rw [e1] at ih
      rw [e2]
      exact ih
theorem nodup_range : ∀ n, nodup (List.range n) = true := by
  intro n
  refine nodup_mk _ ?_
  exact List.nodup_range
def inE (n : Nat) : Env → Bool
  | [] => true
  | (_, d) :: e => cond (inD n d) (inE n e) false
theorem subE_range {n : Nat} {H : List Ob} {e : Env} : ∀ {e2 : Env}, SubE0 H e e2 → inE n e2 = true → SubE (List.range n) n H e e2
  | [], _, _ => trivial
  | (s, d) :: e2, h, hin => by
    simp only [inE] at hin
    cases h1 : inD n d with
    | false => rw [h1] at hin; cases hin
    | true =>
      rw [h1] at hin
      exact ⟨by rw [renD_id n d h1]; exact h.1, h1, subE_range h.2 hin⟩
theorem back_drop {M : Nat} {I : Nat → Env → List Ob → Prop} {n : Nat} {e : Env} (H2 X : List Ob) (m : Nat) (e2 : Env) (hlt : m < n) (he : SubE0 (H2 ++ X) e e2) (hin : inE H2.length e2 = true) (hob : ∀ o ∈ H2, inO H2.length o = true) (hM : M ≤ H2.length) (hI : I m e2 H2) : Back M I n e (H2 ++ X) := by
  refine ⟨m, e2, H2, hlt, ⟨H2 ++ X, .refl _, .inr ⟨List.range H2.length, subE_range he hin, ?_, nodup_range _, ?_⟩⟩, hI⟩
  · have := subH_range H2.length H2 [] X (by simp) hob
    simpa using this
  · rw [List.take_range, Nat.min_eq_left hM]

/-- The rows of a table, one from below and one from above in turn. -/
def inter : List (List Int) → List (List Int) → List Ob
  | a :: l, b :: h => rowO a :: rowO b :: inter l h
  | _, _ => []
def refsI (b w : Nat) : Nat → List D
  | 0 => []
  | k + 1 => refsI b w k ++ [.sl (b + 2 * k) 0 w]
theorem refsI_len (b w : Nat) : ∀ k, (refsI b w k).length = k
  | 0 => rfl
  | k + 1 => by simp [refsI, refsI_len b w k]
theorem refsI_get (b w : Nat) : ∀ k i, i < k → (refsI b w k)[i]? = some (.sl (b + 2 * i) 0 w)
  | 0, i, h => by omega
  | k + 1, i, h => by
    rw [refsI]
    by_cases e : i = k
    · subst e
      rw [List.getElem?_append_right (by rw [refsI_len]; omega), refsI_len]; simp
    · rw [List.getElem?_append_left (by rw [refsI_len]; omega)]
      exact refsI_get b w k i (by omega)
def stI (d0 : D) (N : Nat) (t : Tb) : List Ob := [.var d0, .var (.agg [.sl 2 0 N, .sl 3 0 N]), .row .leaf (refsI 4 N N), .row .leaf (refsI 5 N N)] ++ inter t.lo t.hi
theorem inter_len : ∀ l h : List (List Int), l.length = h.length → (inter l h).length = 2 * l.length
  | [], [], _ => rfl
  | a :: l, b :: h, e => by simp only [inter, List.length_cons, inter_len l h (by simpa using e)]; omega
  | [], _ :: _, e => by simp at e
  | _ :: _, [], e => by simp at e
theorem inter_lo : ∀ (l h : List (List Int)) (i : Nat) (r : List Int), l.length = h.length → l[i]? = some r → (inter l h)[2 * i]? = some (rowO r)
  | [], _, i, r, _, hr => by simp at hr
  | a :: l, [], i, r, e, _ => by simp at e
  | a :: l, b :: h, 0, r, e, hr => by simp at hr; subst hr; rfl
  | a :: l, b :: h, i + 1, r, e, hr => by
    have := inter_lo l h i r (by simpa using e) (by simpa using hr)
    rw [show 2 * (i + 1) = 2 * i + 1 + 1 by omega]
    simpa [inter] using this
theorem inter_hi : ∀ (l h : List (List Int)) (i : Nat) (r : List Int), l.length = h.length → h[i]? = some r → (inter l h)[2 * i + 1]? = some (rowO r)
  | _, [], i, r, _, hr => by simp at hr
  | [], b :: h, i, r, e, _ => by simp at e
  | a :: l, b :: h, 0, r, e, hr => by simp at hr; subst hr; rfl
  | a :: l, b :: h, i + 1, r, e, hr => by
    have := inter_hi l h i r (by simpa using e) (by simpa using hr)
    rw [show 2 * (i + 1) + 1 = (2 * i + 1) + 1 + 1 by omega]
    simpa [inter] using this
theorem inter_setlo : ∀ (l h : List (List Int)) (i : Nat) (r : List Int), l.length = h.length → (inter l h).set (2 * i) (rowO r) = inter (l.set i r) h
  | [], [], i, r, _ => rfl
  | [], _ :: _, _, _, e => by simp at e
  | _ :: _, [], _, _, e => by simp at e
  | a :: l, b :: h, 0, r, e => rfl
  | a :: l, b :: h, i + 1, r, e => by
    have := inter_setlo l h i r (by simpa using e)
    rw [show 2 * (i + 1) = 2 * i + 1 + 1 by omega]
    simp only [inter, List.set_cons_succ, this]
theorem inter_sethi : ∀ (l h : List (List Int)) (i : Nat) (r : List Int), l.length = h.length → (inter l h).set (2 * i + 1) (rowO r) = inter l (h.set i r)
  | [], [], i, r, _ => rfl
  | [], _ :: _, _, _, e => by simp at e
  | _ :: _, [], _, _, e => by simp at e
  | a :: l, b :: h, 0, r, e => rfl
  | a :: l, b :: h, i + 1, r, e => by
    have := inter_sethi l h i r (by simpa using e)
    rw [show 2 * (i + 1) + 1 = (2 * i + 1) + 1 + 1 by omega]
    simp only [inter, List.set_cons_succ, this]

/-- A table of N rows. -/
structure TbN (N : Nat) (t : Tb) : Prop where
  ll : t.lo.length = N
  lh : t.hi.length = N
  rl : ∀ r ∈ t.lo, r.length = N
  rh : ∀ r ∈ t.hi, r.length = N
theorem TbN.lo {N : Nat} {t : Tb} (h : TbN N t) {i : Nat} (hi : i < N) : ∃ r, t.lo[i]? = some r ∧ r.length = N :=
  ⟨t.lo[i]'(by rw [h.ll]; exact hi), List.getElem?_eq_getElem (by rw [h.ll]; exact hi), h.rl _ (List.getElem_mem _)⟩
theorem TbN.hi {N : Nat} {t : Tb} (h : TbN N t) {i : Nat} (hi : i < N) : ∃ r, t.hi[i]? = some r ∧ r.length = N :=
  ⟨t.hi[i]'(by rw [h.lh]; exact hi), List.getElem?_eq_getElem (by rw [h.lh]; exact hi), h.rh _ (List.getElem_mem _)⟩
theorem stI_len {d0 : D} {N : Nat} {t : Tb} (h : TbN N t) : (stI d0 N t).length = 4 + 2 * N := by
  rw [stI, List.length_append, inter_len _ _ (by rw [h.ll, h.lh]), h.ll]; rfl
theorem stI_lo {d0 : D} {N : Nat} {t : Tb} (h : TbN N t) {i : Nat} {r : List Int} (hr : t.lo[i]? = some r) (X : List Ob) : (stI d0 N t ++ X).getD (4 + 2 * i) .dead = rowO r := by
  have h1 := inter_lo t.lo t.hi i r (by rw [h.ll, h.lh]) hr
  have h2 := (List.getElem?_eq_some_iff.1 h1).1
  rw [stI, List.append_assoc, List.getD, List.getElem?_append_right (by simp)]
  rw [List.getElem?_append_left (by simp; omega)]
  simp [show 4 + 2 * i - 4 = 2 * i by omega, h1]
theorem stI_hi {d0 : D} {N : Nat} {t : Tb} (h : TbN N t) {i : Nat} {r : List Int} (hr : t.hi[i]? = some r) (X : List Ob) : (stI d0 N t ++ X).getD (5 + 2 * i) .dead = rowO r := by
  have h1 := inter_hi t.lo t.hi i r (by rw [h.ll, h.lh]) hr
  have h2 := (List.getElem?_eq_some_iff.1 h1).1
  rw [stI, List.append_assoc, List.getD, List.getElem?_append_right (by simp; omega)]
  rw [List.getElem?_append_left (by simp; omega)]
  simp [show 5 + 2 * i - 4 = 2 * i + 1 by omega, h1]
theorem stI_setlo {d0 : D} {N : Nat} {t : Tb} (h : TbN N t) (i : Nat) (r : List Int) (hi : i < N) (X : List Ob) : (stI d0 N t ++ X).set (4 + 2 * i) (rowO r) = stI d0 N ⟨t.lo.set i r, t.hi⟩ ++ X := by
  have hl : t.lo.length = t.hi.length := by rw [h.ll, h.lh]
  have hln := inter_len _ _ hl
  rw [h.ll] at hln
  rw [stI, stI, List.append_assoc, List.append_assoc, show 4 + 2 * i = 2 * i + 1 + 1 + 1 + 1 by omega]
  simp only [List.cons_append, List.nil_append, List.set_cons_succ]
  rw [List.set_append_left _ _ (by omega), inter_setlo _ _ _ _ hl]
theorem stI_sethi {d0 : D} {N : Nat} {t : Tb} (h : TbN N t) (i : Nat) (r : List Int) (hi : i < N) (X : List Ob) : (stI d0 N t ++ X).set (5 + 2 * i) (rowO r) = stI d0 N ⟨t.lo, t.hi.set i r⟩ ++ X := by
  have hl : t.lo.length = t.hi.length := by rw [h.ll, h.lh]
  have hln := inter_len _ _ hl
  rw [h.ll] at hln
  rw [stI, stI, List.append_assoc, List.append_assoc, show 5 + 2 * i = (2 * i + 1) + 1 + 1 + 1 + 1 by omega]
  simp only [List.cons_append, List.nil_append, List.set_cons_succ]
  rw [List.set_append_left _ _ (by omega), inter_sethi _ _ _ _ hl]
theorem in_refs (n b w : Nat) : ∀ k, b + 2 * k ≤ n + 1 → inDs n (refsI b w k) = true
  | 0, _ => rfl
  | k + 1, h => by
    have ih := in_refs n b w k (by omega)
    have : ∀ (xs : List D) (y : D), inDs n xs = true → inD n y = true → inDs n (xs ++ [y]) = true := by
      intro xs
      induction xs with
      | nil => intro y _ hy; simp only [List.nil_append, inDs, hy]; rfl
      | cons x xs ih =>
        intro y hx hy
        simp only [inDs] at hx
        cases h1 : inD n x with
        | false => rw [h1] at hx; cases hx
        | true =>
          rw [h1] at hx
          simp only [List.cons_append, inDs, h1, ih y hx hy, cond_true]
    rw [refsI]
    exact this _ _ ih (Nat.ble_eq_true_of_le (by omega))
theorem inter_in (n : Nat) : ∀ (l h : List (List Int)), ∀ o ∈ inter l h, inO n o = true
  | [], _, o, ho => by simp [inter] at ho
  | _ :: _, [], o, ho => by simp [inter] at ho
  | a :: l, b :: h, o, ho => by
    simp only [inter, List.mem_cons] at ho
    rcases ho with rfl | rfl | ho
    · exact in_cls _ _ (cl_ints a)
    · exact in_cls _ _ (cl_ints b)
    · exact inter_in n l h o ho
theorem stI_in {d0 : D} {N : Nat} {t : Tb} (h : TbN N t) (hd : ∀ n, 4 ≤ n → inD n d0 = true) : ∀ o ∈ stI d0 N t, inO (stI d0 N t).length o = true := by
  intro o ho
  rw [stI_len h]
  simp only [stI, List.cons_append, List.nil_append, List.mem_cons] at ho
  rcases ho with rfl | rfl | rfl | rfl | ho
  · exact hd _ (by omega)
  · have h2 : Nat.blt 2 (4 + 2 * N) = true := Nat.ble_eq_true_of_le (by omega)
    have h3 : Nat.blt 3 (4 + 2 * N) = true := Nat.ble_eq_true_of_le (by omega)
    simp only [inO, inD, inDs, h2, h3, cond_true]
  · exact in_refs _ _ _ _ (by omega)
  · exact in_refs _ _ _ _ (by omega)
  · exact inter_in _ _ _ o ho
theorem TbN.setlo {N : Nat} {t : Tb} (h : TbN N t) (i : Nat) (r : List Int) (hr : r.length = N) : TbN N ⟨t.lo.set i r, t.hi⟩ :=
  ⟨by simp [h.ll], h.lh, fun x hx => (List.mem_or_eq_of_mem_set hx).elim (h.rl x) (fun e => e ▸ hr), h.rh⟩
theorem TbN.sethi {N : Nat} {t : Tb} (h : TbN N t) (i : Nat) (r : List Int) (hr : r.length = N) : TbN N ⟨t.lo, t.hi.set i r⟩ :=
  ⟨h.ll, by simp [h.lh], h.rl, fun x hx => (List.mem_or_eq_of_mem_set hx).elim (h.rh x) (fun e => e ▸ hr)⟩

end Go.Proofs.Ythplmnpfaagciaa.Pw

/- The closure of the reference, of any length: parts. -/
set_option linter.unusedVariables false
set_option linter.unusedSimpArgs false
namespace Go.Proofs.Ythplmnpfaagciaa.Pw
open Go

theorem shapes_ap : ∀ a b : List D, shapes (a ++ b) = shapes a ++ shapes b
  | [], _ => rfl
  | x :: a, b => by simp only [List.cons_append, shapes, shapes_ap a b]
theorem leDs_ap {H : List Ob} : ∀ {a b : List D} {c d : List D}, LeDs H a c → LeDs H b d → LeDs H (a ++ b) (c ++ d)
  | _, _, _, _, .nil, h => h
  | _, _, _, _, .cons d e ds es h1 h2, h => .cons d e _ _ h1 (leDs_ap h2 h)
/-! ### A table may be frozen -/
def frzO (r : List Int) : Ob := .frz .leaf (r.map (.int .i64))
def interF : List (List Int) → List (List Int) → List Ob
  | a :: l, b :: h => frzO a :: frzO b :: interF l h
  | _, _ => []
theorem frz_inter : ∀ (l h : List (List Int)) (A : List Ob) (H' : List Ob), Frz (A ++ interF l h) H' → Frz (A ++ inter l h) H'
  | [], h, A, H', hf => by cases h <;> exact hf
  | a :: l, [], A, H', hf => hf
  | a :: l, b :: h, A, H', hf => by
    have ih := frz_inter l h (A ++ [frzO a, frzO b]) H' (by simpa [interF] using hf)
    have e0 : (A ++ inter (a :: l) (b :: h)).getD A.length .dead = rowO a := by simp [inter, List.getD]
    refine Frz.step A.length .leaf (a.map (.int .i64)) e0 (cl_ints a) ?_
    have e1 : (A ++ inter (a :: l) (b :: h)).set A.length (.frz .leaf (a.map (.int .i64))) = A ++ frzO a :: rowO b :: inter l h := by
      rw [List.set_append_right _ _ (Nat.le_refl _)]; simp [inter, frzO]
    rw [e1]
    have e2 : (A ++ frzO a :: rowO b :: inter l h).getD (A.length + 1) .dead = rowO b := by
      rw [List.getD, List.getElem?_append_right (by omega)]; simp
    refine Frz.step (A.length + 1) .leaf (b.map (.int .i64)) e2 (cl_ints b) ?_
    have e3 : (A ++ frzO a :: rowO b :: inter l h).set (A.length + 1) (.frz .leaf (b.map (.int .i64))) = A ++ [frzO a, frzO b] ++ inter l h := by
      rw [List.set_append_right _ _ (by omega)]; simp [frzO]
    rw [e3]
    exact ih
theorem interF_lo : ∀ (l h : List (List Int)) (i : Nat) (r : List Int), l.length = h.length → l[i]? = some r → (interF l h)[2 * i]? = some (frzO r)
  | [], _, i, r, _, hr => by simp at hr
  | a :: l, [], i, r, e, _ => by simp at e
  | a :: l, b :: h, 0, r, e, hr => by simp at hr; subst hr; rfl
  | a :: l, b :: h, i + 1, r, e, hr => by
    have := interF_lo l h i r (by simpa using e) (by simpa using hr)
    rw [show 2 * (i + 1) = 2 * i + 1 + 1 by omega]
    simpa [interF] using this
theorem interF_hi : ∀ (l h : List (List Int)) (i : Nat) (r : List Int), l.length = h.length → h[i]? = some r → (interF l h)[2 * i + 1]? = some (frzO r)
  | _, [], i, r, _, hr => by simp at hr
  | [], b :: h, i, r, e, _ => by simp at e
  | a :: l, b :: h, 0, r, e, hr => by simp at hr; subst hr; rfl
  | a :: l, b :: h, i + 1, r, e, hr => by
    have := interF_hi l h i r (by simpa using e) (by simpa using hr)
    rw [show 2 * (i + 1) + 1 = (2 * i + 1) + 1 + 1 by omega]
    simpa [interF] using this
theorem le_refs {H : List Ob} {b W : Nat} {rows : List (List Int)} (h : ∀ i r, rows[i]? = some r → H.getD (b + 2 * i) .dead = frzO r ∧ r.length = W) : ∀ k, k ≤ rows.length → LeDs H ((rows.take k).map rowD) (refsI b W k)
  | 0, _ => .nil
  | k + 1, hk => by
    rw [List.take_succ_eq_append_getElem (by omega), List.map_append, refsI]
    refine leDs_ap (le_refs h k (by omega)) (.cons _ _ _ _ ?_ .nil)
    obtain ⟨h1, h2⟩ := h k rows[k] (List.getElem?_eq_getElem (by omega))
    have := LeD.frz (H := H) (b + 2 * k) 0 W .leaf (rows[k].map (.int .i64)) h1 (by simp [h2])
    rw [List.drop_zero, List.take_of_length_le (by simp [h2])] at this
    exact this
theorem shapes_refs (b W : Nat) : ∀ k, shapes (refsI b W k) = List.replicate k .leaf
  | 0 => rfl
  | k + 1 => by rw [refsI, shapes_ap, shapes_refs b W k, List.replicate_succ']; rfl
theorem shapes_rows : ∀ l : List (List Int), shapes (l.map rowD) = List.replicate l.length .leaf
  | [] => rfl
  | r :: l => by simp only [List.map_cons, shapes, shapes_rows l, List.length_cons, List.replicate_succ]; rfl
theorem ok_rows : ∀ l : List (List Int), okDs (l.map rowD) = true
  | [] => rfl
  | r :: l => by simp only [List.map_cons, okDs, ok_rows l]; rfl
theorem frzG (d0 : D) {W : Nat} {t : Tb} (h : TbN W t) : ∃ H1, Frz (stI d0 W t) H1 ∧ LeD H1 (rowsD t.lo) (.sl 2 0 W) ∧ LeD H1 (rowsD t.hi) (.sl 3 0 W) := by
  have hl : t.lo.length = t.hi.length := by rw [h.ll, h.lh]
  obtain ⟨F, hF⟩ : ∃ F, F = interF t.lo t.hi := ⟨_, rfl⟩
  have glo : ∀ (A : List Ob), A.length = 4 → ∀ i r, t.lo[i]? = some r → (A ++ F).getD (4 + 2 * i) .dead = frzO r ∧ r.length = W := by
    intro A hA i r hr
    refine ⟨?_, h.rl r (List.mem_of_getElem? hr)⟩
    rw [List.getD, List.getElem?_append_right (by omega), hA, show 4 + 2 * i - 4 = 2 * i by omega, hF, interF_lo _ _ _ _ hl hr]; rfl
  have ghi : ∀ (A : List Ob), A.length = 4 → ∀ i r, t.hi[i]? = some r → (A ++ F).getD (5 + 2 * i) .dead = frzO r ∧ r.length = W := by
    intro A hA i r hr
    refine ⟨?_, h.rh r (List.mem_of_getElem? hr)⟩
    rw [List.getD, List.getElem?_append_right (by omega), hA, show 5 + 2 * i - 4 = 2 * i + 1 by omega, hF, interF_hi _ _ _ _ hl hr]; rfl
  have tl : t.lo.take W = t.lo := by rw [List.take_of_length_le (by rw [h.ll]; exact Nat.le_refl _)]
  have th : t.hi.take W = t.hi := by rw [List.take_of_length_le (by rw [h.lh]; exact Nat.le_refl _)]
  refine ⟨[.var d0, .var (.agg [.sl 2 0 W, .sl 3 0 W]), .frz .leaf (t.lo.map rowD), .frz .leaf (t.hi.map rowD)] ++ F, ?_, ?_, ?_⟩
  · refine frz_inter _ _ _ _ ?_
    rw [← hF]
    have l1 := le_refs (glo [.var d0, .var (.agg [.sl 2 0 W, .sl 3 0 W]), .row .leaf (refsI 4 W W), .row .leaf (refsI 5 W W)] rfl) W (by rw [h.ll]; exact Nat.le_refl _)
    rw [tl] at l1
    refine Frz.row' (H2 := [.var d0, .var (.agg [.sl 2 0 W, .sl 3 0 W]), .row .leaf (t.lo.map rowD), .row .leaf (refsI 5 W W)] ++ F) 2 .leaf (t.lo.map rowD) (refsI 4 W W) rfl l1 (by rw [shapes_refs, shapes_rows, h.ll]) (ok_rows _) rfl ?_
    have l2 := le_refs (ghi [.var d0, .var (.agg [.sl 2 0 W, .sl 3 0 W]), .row .leaf (t.lo.map rowD), .row .leaf (refsI 5 W W)] rfl) W (by rw [h.lh]; exact Nat.le_refl _)
    rw [th] at l2
    refine Frz.row' (H2 := [.var d0, .var (.agg [.sl 2 0 W, .sl 3 0 W]), .row .leaf (t.lo.map rowD), .row .leaf (t.hi.map rowD)] ++ F) 3 .leaf (t.hi.map rowD) (refsI 5 W W) rfl l2 (by rw [shapes_refs, shapes_rows, h.lh]) (ok_rows _) rfl ?_
    refine Frz.step' (H2 := [.var d0, .var (.agg [.sl 2 0 W, .sl 3 0 W]), .frz .leaf (t.lo.map rowD), .row .leaf (t.hi.map rowD)] ++ F) 2 .leaf (t.lo.map rowD) rfl (cl_rows _) rfl ?_
    exact Frz.step' (H2 := [.var d0, .var (.agg [.sl 2 0 W, .sl 3 0 W]), .frz .leaf (t.lo.map rowD), .frz .leaf (t.hi.map rowD)] ++ F) 3 .leaf (t.hi.map rowD) rfl (cl_rows _) rfl (.refl _)
  · have := LeD.frz (H := [.var d0, .var (.agg [.sl 2 0 W, .sl 3 0 W]), .frz .leaf (t.lo.map rowD), .frz .leaf (t.hi.map rowD)] ++ F) 2 0 W .leaf (t.lo.map rowD) rfl (by simp [h.ll])
    rw [List.drop_zero, List.take_of_length_le (by simp [h.ll])] at this
    exact this
  · have := LeD.frz (H := [.var d0, .var (.agg [.sl 2 0 W, .sl 3 0 W]), .frz .leaf (t.lo.map rowD), .frz .leaf (t.hi.map rowD)] ++ F) 3 0 W .leaf (t.hi.map rowD) rfl (by simp [h.lh])
    rw [List.drop_zero, List.take_of_length_le (by simp [h.lh])] at this
    exact this

/-! ### Names behind the call of first -/
theorem putB_nil (ρ : List Nat) : ∀ (os H : List Ob), putB ρ H [] os = H ++ os.map (renO ρ)
  | [], H => by simp [putB]
  | o :: os, H => by rw [putB, putB_nil ρ os]; simp
theorem ren_refs (ρ : List Nat) (b W s : Nat) : ∀ k, (∀ i, i < k → ρ.getD (b + 2 * i) 0 = s + 2 * i) → renDs ρ (refsI b W k) = refsI s W k
  | 0, _ => rfl
  | k + 1, h => by
    have two : ∀ (xs ys : List D), renDs ρ (xs ++ ys) = renDs ρ xs ++ renDs ρ ys := by
      intro xs
      induction xs with
      | nil => intro ys; rfl
      | cons x xs ih => intro ys; simp only [List.cons_append, renDs, ih]
    rw [refsI, two, ren_refs ρ b W s k (fun i hi => h i (by omega)), refsI]
    simp only [renDs, renD, h k (by omega)]
theorem ren_inter (ρ : List Nat) : ∀ l h : List (List Int), (inter l h).map (renO ρ) = inter l h
  | [], h => by cases h <;> rfl
  | a :: l, [] => rfl
  | a :: l, b :: h => by
    have e : ∀ r : List Int, renO ρ (rowO r) = rowO r := fun r => by
      show Ob.row .leaf (renDs ρ (r.map (.int .i64))) = _
      rw [ren_cls _ _ (cl_ints r)]; rfl
    simp only [inter, List.map_cons, e, ren_inter ρ l h]
/-- The objects behind the call. -/
def stJ (W : Nat) (t : Tb) : List Ob := [.var (.agg [.nils, .nils]), .var (.agg [.sl 3 0 W, .sl 4 0 W]), .var (.agg [.sl 3 0 W, .sl 4 0 W]), .row .leaf (refsI 5 W W), .row .leaf (refsI 6 W W)] ++ inter t.lo t.hi
theorem shift_get {m g : Nat} (h : g < m) : (outN [] 1 m).getD g 0 = 1 + g := by
  simp [outN, List.getD, List.getElem?_range h]
theorem first_put {W : Nat} {t : Tb} (h : TbN W t) : putB (outN [] 1 ((stI (.agg [.sl 2 0 W, .sl 3 0 W]) W t).length - 0)) [.var (.agg [.nils, .nils])] [] (stI (.agg [.sl 2 0 W, .sl 3 0 W]) W t) = stJ W t := by
  rw [stI_len h, Nat.sub_zero, putB_nil]
  have g2 := shift_get (m := 4 + 2 * W) (g := 2) (by omega)
  have g3 := shift_get (m := 4 + 2 * W) (g := 3) (by omega)
  rw [stI, stJ, List.map_append, ren_inter]
  simp only [List.map_cons, List.map_nil, renO, renD, renDs, g2, g3]
  rw [ren_refs _ 4 W 5 W (fun i hi => by rw [shift_get (by omega)]; omega), ren_refs _ 5 W 6 W (fun i hi => by rw [shift_get (by omega)]; omega)]
  rfl
theorem first_res {W : Nat} {t : Tb} (h : TbN W t) : renD (outN [] 1 ((stI (.agg [.sl 2 0 W, .sl 3 0 W]) W t).length - 0)) (.agg [.sl 2 0 W, .sl 3 0 W]) = .agg [.sl 3 0 W, .sl 4 0 W] := by
  rw [stI_len h, Nat.sub_zero]
  have g2 := shift_get (m := 4 + 2 * W) (g := 2) (by omega)
  have g3 := shift_get (m := 4 + 2 * W) (g := 3) (by omega)
  simp only [renD, renDs, g2, g3]
theorem subH_rows (ρ : List Nat) (n : Nat) : ∀ (B A X : List Ob), (∀ o ∈ B, ∃ r, o = rowO r) → SubH ρ n (A ++ B ++ X) B ((List.range B.length).map (A.length + ·))
  | [], A, X, h => trivial
  | o :: B, A, X, h => by
    have ih := subH_rows ρ n B (A ++ [o]) X (fun o ho => h o (List.mem_cons_of_mem _ ho))
    obtain ⟨r, rfl⟩ := h o (by simp)
    rw [List.length_cons, List.range_succ_eq_map]
    simp only [List.map_cons, List.map_map, Nat.add_zero]
    refine subRow ?_ ?_
    · rw [List.getD, List.append_assoc, List.getElem?_append_right (Nat.le_refl _)]
      simp
    · have e1 : A ++ [rowO r] ++ B ++ X = A ++ rowO r :: B ++ X := by simp
      have e2 : ((fun x => A.length + x) ∘ Nat.succ) = fun x => (A ++ [rowO r]).length + x := by funext x; simp; omega
      rw [e1] at ih
      rw [e2]
      exact ih
theorem inter_rows : ∀ l h : List (List Int), ∀ o ∈ inter l h, ∃ r, o = rowO r
  | [], h, o, ho => by cases h <;> simp [inter] at ho
  | a :: l, [], o, ho => by simp [inter] at ho
  | a :: l, b :: h, o, ho => by
    simp only [inter, List.mem_cons] at ho
    rcases ho with rfl | rfl | ho
    · exact ⟨a, rfl⟩
    · exact ⟨b, rfl⟩
    · exact inter_rows l h o ho

end Go.Proofs.Ythplmnpfaagciaa.Pw
