/- Parts of the proof, merged: LR LS LT LU. -/
import Derived.Test.YthplmnpfaagciaaLb
import Derived.Test.YthplmnpfaagciaaPd
/- follows. -/
set_option linter.unusedVariables false
set_option linter.unnecessarySimpa false
set_option linter.unusedSimpArgs false
namespace Go.Proofs.Ythplmnpfaagciaa.Pw
open Go

def FolX (K : List Known) (G : List Int) (before : List Stp) (x : Stp) : Prop :=
  (x.by_ = 1 ∧ x.at_ = [] ∧ x.v = 2 ^ x.s.n.toNat ∧ (x.s.up = true ∨ x.s.d = 1)) ∨
  (x.by_ = 2 ∧ x.at_ = [] ∧ x.v = 2 ∧ (x.s.up = false ∨ x.s.d = x.s.n)) ∨
  (x.by_ = 0 ∧ ∃ (i : Nat) (k : Known), x.at_ = [(i : Int)] ∧ K[i]? = some k ∧ force k G = true ∧ k.s = x.s ∧ k.v = x.v) ∨
  (∃ (r : Nat) (j : Nat) (y : Stp), 3 ≤ r ∧ r ≤ 6 ∧ x.by_ = r ∧ x.at_ = [(j : Int)] ∧ before[j]? = some y ∧ y.s = srcS r x.s ∧ (r = 3 → y.v < 4611686018427387904) ∧ x.v = valS r x.s y.v)
/-- Steps that were accepted. -/
def okStp (y : Stp) : Prop := isC 8 y.s ∧ 1 ≤ y.v ∧ (y.s.up = false → y.v ≤ 16777216)

theorem FolX_len {K : List Known} {G : List Int} {before : List Stp} {s : Side} {v by_ : Int} {at_ : List Int} (h1 : by_ ≠ 1) (h2 : by_ ≠ 2) (h : at_.length ≠ 1) : ¬ FolX K G before ⟨s, v, by_, at_⟩ := by
  rintro (⟨h3, _⟩ | ⟨h3, _⟩ | ⟨_, i, k, h3, _⟩ | ⟨r, j, y, _, _, _, h3, _⟩)
  · exact h1 h3
  · exact h2 h3
  · have h3 : at_ = _ := h3
    rw [h3] at h; simp at h
  · have h3 : at_ = _ := h3
    rw [h3] at h; simp at h
theorem FolX_neg {K : List Known} {G : List Int} {before : List Stp} {s : Side} {v by_ a : Int} (h1 : by_ ≠ 1) (h2 : by_ ≠ 2) (h : a < 0) : ¬ FolX K G before ⟨s, v, by_, [a]⟩ := by
  rintro (⟨h3, _⟩ | ⟨h3, _⟩ | ⟨_, i, k, h3, _⟩ | ⟨r, j, y, _, _, _, h3, _⟩)
  · exact h1 h3
  · exact h2 h3
  · simp at h3; omega
  · simp at h3; omega
theorem FolX_known {K : List Known} {G : List Int} {before : List Stp} {s : Side} {v : Int} {a : Nat} : FolX K G before ⟨s, v, 0, [(a : Int)]⟩ ↔ ∃ k, K[a]? = some k ∧ force k G = true ∧ k.s = s ∧ k.v = v := by
  constructor
  · rintro (⟨h3, _⟩ | ⟨h3, _⟩ | ⟨_, i, k, h3, h4, h5, h6, h7⟩ | ⟨r, j, y, h3, _, h4, _⟩)
    · simp at h3
    · simp at h3
    · have h3 : a = i := by simp at h3; omega
      subst h3
      exact ⟨k, h4, h5, h6, h7⟩
    · have h4 : (0 : Int) = r := h4
      omega
  · rintro ⟨k, h4, h5, h6, h7⟩
    exact .inr (.inr (.inl ⟨rfl, a, k, rfl, h4, h5, h6, h7⟩))
theorem FolX_far {K : List Known} {G : List Int} {before : List Stp} {s : Side} {v by_ : Int} {a : Nat} (h0 : by_ ≠ 0) (h1 : by_ ≠ 1) (h2 : by_ ≠ 2) (h : before[a]? = none) : ¬ FolX K G before ⟨s, v, by_, [(a : Int)]⟩ := by
  rintro (⟨h3, _⟩ | ⟨h3, _⟩ | ⟨h3, _⟩ | ⟨r, j, y, _, _, _, h3, h4, _⟩)
  · exact h1 h3
  · exact h2 h3
  · exact h0 h3
  · have h3 : a = j := by simp at h3; omega
    subst h3
    rw [h] at h4; cases h4
theorem FolX_rule {K : List Known} {G : List Int} {before : List Stp} {s : Side} {v : Int} {a r : Nat} {p : Stp} (h3 : 3 ≤ r) (h6 : r ≤ 6) (hp : before[a]? = some p) :
    FolX K G before ⟨s, v, r, [(a : Int)]⟩ ↔ (p.s = srcS r s ∧ (r = 3 → p.v < 4611686018427387904) ∧ v = valS r s p.v) := by
  constructor
  · rintro (⟨h, _⟩ | ⟨h, _⟩ | ⟨h, _⟩ | ⟨r', j, y, _, _, h, h4, h5, h7, h8, h9⟩)
    · have h : (r : Int) = 1 := h
      omega
    · have h : (r : Int) = 2 := h
      omega
    · have h : (r : Int) = 0 := h
      omega
    · have h : (r : Int) = r' := h
      have h : r = r' := by omega
      subst h
      have h4 : a = j := by simp at h4; omega
      subst h4
      rw [hp] at h5; cases h5
      exact ⟨h7, h8, h9⟩
  · rintro ⟨h7, h8, h9⟩
    exact .inr (.inr (.inr ⟨r, a, p, h3, h6, rfl, rfl, hp, h7, h8, h9⟩))
theorem FolX_other {K : List Known} {G : List Int} {before : List Stp} {s : Side} {v by_ : Int} {at_ : List Int} (h : ∀ r : Nat, r ≤ 6 → by_ ≠ r) : ¬ FolX K G before ⟨s, v, by_, at_⟩ := by
  rintro (⟨h3, _⟩ | ⟨h3, _⟩ | ⟨h3, _⟩ | ⟨r, j, y, _, h6, h3, _⟩)
  · exact h 1 (by omega) h3
  · exact h 2 (by omega) h3
  · exact h 0 (by omega) h3
  · exact h r h6 h3

theorem side_ext {a b : Side} (h1 : a.n = b.n) (h2 : a.d = b.d) (h3 : a.up = b.up) : a = b := by
  obtain ⟨x, y, z⟩ := a; obtain ⟨x', y', z'⟩ := b
  simp only at h1 h2 h3
  rw [h1, h2, h3]

theorem vFollows (fk fg fb : Bool) (K : List Known) (G : List Int) (before : List Stp) (x : Stp) (hs : isC 8 x.s) (hb0 : ∀ y ∈ before, okStp y) :
    Val Try.prog 31 [.list fk sh5 (K.map Known.D), .list fg .leaf (G.map (.int .i64)), x.D, .list fb sh6 (before.map Stp.D)] (fun r => ∃ b, r = .bool b ∧ (b = true ↔ FolX K G before x)) := by
  refine Val.of ?_
  obtain ⟨s, v, by_, at_⟩ := x
  have hs : isC 8 s := hs
  have hs1 : 1 ≤ s.n := by have := hs.1; have := hs.2.1; omega
  have hs2 : s.n ≤ 8 := hs.2.2
  have hp := two_pow hs1 hs2
  have hsn : small s.n := by unfold small; omega
  have hsd : small s.d := by unfold small; have := hs.1; have := hs.2.1; omega
  have hshl : IntKind.i64.wrap (1 * 2 ^ min s.n.toNat IntKind.i64.bits) = 2 ^ s.n.toNat := by
    have : min s.n.toNat IntKind.i64.bits = s.n.toNat := by show min s.n.toNat 64 = _; omega
    rw [this, w64 (by omega) (by omega)]; omega
  refine hc_ofS (okc Try.f31.ntmps 0) (fn := Try.f31) (cd := _) rfl rfl rfl rfl rfl rfl (fun hbd => ?_)
  conv => whnf
  refine ifb (fun h1 => ?_) (fun h1 => ?_)
  · have h1 : by_ = 1 := by simpa using h1
    subst h1
    conv => whnf
    refine drS 22 (by decide +kernel) ?_
    conv => whnf
    refine ifb (fun h2 => ?_) (fun h2 => ?_)
    · have h2 : at_ = [] := by simpa using h2
      subst h2
      conv => whnf
      refine ob (show 0 ≤ s.n by omega) ?_
      refine iv (2 ^ s.n.toNat) hshl ?_
      conv => whnf
      refine ifb (fun h3 => ?_) (fun h3 => ?_)
      · have h3 : v = 2 ^ s.n.toNat := by simpa using h3
        conv => whnf
        refine ifb (fun h4 => ?_) (fun h4 => ?_)
        · conv => whnf
          exact ⟨rfl, _, rfl, iff_of_true (by simpa using h4) (.inl ⟨rfl, rfl, h3, .inl h4⟩)⟩
        · conv => whnf
          refine ⟨rfl, _, rfl, ?_⟩
          have h4 : s.up = false := by simpa using h4
          simp [FolX, h3, h4]
          try omega
      · conv => whnf
        refine ⟨rfl, _, rfl, ?_⟩
        simp at h3
        simp [FolX, h3]
        try omega
    · conv => whnf
      refine ⟨rfl, _, rfl, ?_⟩
      simp at h2
      simp [FolX, h2]
      try omega
  · have nb1 : by_ ≠ 1 := by simpa using h1
    conv => whnf
    refine ifb (fun h2 => ?_) (fun h2 => ?_)
    · have h2 : by_ = 2 := by simpa using h2
      subst h2
      conv => whnf
      refine ifb (fun h2 => ?_) (fun h2 => ?_)
      · have h2 : at_ = [] := by simpa using h2
        subst h2
        conv => whnf
        refine ifb (fun h3 => ?_) (fun h3 => ?_)
        · have h3 : v = 2 := by simpa using h3
          conv => whnf
          refine ifb (fun h4 => ?_) (fun h4 => ?_)
          · conv => whnf
            exact ⟨rfl, _, rfl, iff_of_true (by simpa using h4) (.inr (.inl ⟨rfl, rfl, h3, .inl (by simpa using h4)⟩))⟩
          · conv => whnf
            refine ⟨rfl, _, rfl, ?_⟩
            simp at h4
            simp [FolX, h3, h4]
        · conv => whnf
          refine ⟨rfl, _, rfl, ?_⟩
          simp at h3
          simp [FolX, h3]
          try omega
      · conv => whnf
        refine ⟨rfl, _, rfl, ?_⟩
        simp at h2
        simp [FolX, h2]
        try omega
    · have nb2 : by_ ≠ 2 := by simpa using h2
      conv => whnf
      refine ifb (fun h3 => ?_) (fun h3 => ?_)
      · have h3 : at_.length ≠ 1 := by
          have : (!decide (((at_.map (D.int .i64)).length : Int) = 1)) = true := h3
          simp at this; omega
        conv => whnf
        exact ⟨rfl, false, rfl, iff_of_false (by simp) (FolX_len nb1 nb2 h3)⟩
      have h3 : at_.length = 1 := by
        have : (!decide (((at_.map (D.int .i64)).length : Int) = 1)) = false := h3
        simp at this; omega
      obtain ⟨a, rfl⟩ : ∃ a, at_ = [a] := by
        match at_, h3 with
        | [a], _ => exact ⟨a, rfl⟩
      conv => whnf
      refine ob (by decide) ?_
      refine ⟨.int .i64 a, rfl, ?_⟩
      conv => whnf
      refine ifb (fun h4 => ?_) (fun h4 => ?_)
      · have h4 : a < 0 := by simpa using h4
        conv => whnf
        exact ⟨rfl, false, rfl, iff_of_false (by simp) (FolX_neg nb1 nb2 h4)⟩
      have h4 : 0 ≤ a := by
        have : decide (a < 0) = false := h4
        simpa using this
      obtain ⟨a, rfl⟩ : ∃ n : Nat, a = n := ⟨a.toNat, by omega⟩
      conv => whnf
      refine ifb (fun h5 => ?_) (fun h5 => ?_)
      · have h5 : by_ = 0 := by simpa using h5
        subst h5
        conv => whnf
        refine drS 46 (by decide +kernel) ?_
        conv => whnf
        refine ob (by decide) ?_
        refine ⟨.int .i64 a, rfl, ?_⟩
        conv => whnf
        refine ifb (fun h6 => ?_) (fun h6 => ?_)
        · have h6 : a < K.length := by
            have : decide ((a : Int) < ((K.map Known.D).length : Nat)) = true := h6
            simp at this; omega
          conv => whnf
          refine ob (by decide) ?_
          refine ⟨.int .i64 a, rfl, ?_⟩
          conv => whnf
          refine ob (by omega) ?_
          refine ⟨K[a].D, by simp [h6], ?_⟩
          conv => whnf
          refine ⟨_, none, PureC.val (vForce K[a] fg G) (ler _ _) (by simp only [clDs, clD, Known.bndD']; rfl) (fun r H h => h.2.2) rfl, ?_⟩
          conv => whnf
          refine ifb (fun h7 => ?_) (fun h7 => ?_)
          · have h7 : force K[a] G = true := h7
            conv => whnf
            refine ob (by decide) ?_
            refine ⟨.int .i64 a, rfl, ?_⟩
            conv => whnf
            refine ob (by omega) ?_
            refine ⟨K[a].D, by simp [h6], ?_⟩
            conv => whnf
            refine ob (by decide) ?_
            refine ⟨.int .i64 a, rfl, ?_⟩
            conv => whnf
            refine ob (by omega) ?_
            refine ⟨K[a].D, by simp [h6], ?_⟩
            conv => whnf
            refine ⟨rfl, _, rfl, ?_⟩
            rw [FolX_known]
            show (decide (K[a].n = s.n) && (decide (K[a].d = s.d) && (K[a].up == s.up && (decide (K[a].v = v) && decide (K[a].lm = K[a].lm))))) = true ↔ _
            simp only [Bool.and_eq_true, decide_eq_true_eq, beq_iff_eq]
            constructor
            · rintro ⟨a1, a2, a3, a4, _⟩
              refine ⟨K[a], List.getElem?_eq_getElem h6, h7, ?_, a4⟩
              obtain ⟨sn, sd, su⟩ := s
              simp only at a1 a2 a3
              simp [Known.s, a1, a2, a3]
            · rintro ⟨k, hk, _, hks, hkv⟩
              rw [List.getElem?_eq_getElem h6] at hk; cases hk
              rw [← hks]
              exact ⟨rfl, rfl, rfl, hkv, trivial⟩
          · have h7 : force K[a] G = false := h7
            conv => whnf
            refine ⟨rfl, false, rfl, iff_of_false (by simp) ?_⟩
            rw [FolX_known]
            rintro ⟨k, hk, hk2, _⟩
            rw [List.getElem?_eq_getElem h6] at hk; cases hk
            rw [h7] at hk2; cases hk2
        · have h6 : K.length ≤ a := by
            have : decide ((a : Int) < ((K.map Known.D).length : Nat)) = false := h6
            simp at this; omega
          conv => whnf
          refine ⟨rfl, false, rfl, iff_of_false (by simp) ?_⟩
          rw [FolX_known]
          rintro ⟨k, hk, _⟩
          rw [List.getElem?_eq_none h6] at hk; cases hk
      · have nb0 : by_ ≠ 0 := by simpa using h5
        conv => whnf
        refine ob (by decide) ?_
        refine ⟨.int .i64 a, rfl, ?_⟩
        conv => whnf
        refine ifb (fun h6 => ?_) (fun h6 => ?_)
        · have h6 : before.length ≤ a := by
            have : decide (((before.map Stp.D).length : Int) ≤ (a : Int)) = true := h6
            simp at this; omega
          conv => whnf
          exact ⟨rfl, false, rfl, iff_of_false (by simp) (FolX_far nb0 nb1 nb2 (List.getElem?_eq_none h6))⟩
        have h6 : a < before.length := by
          have : decide (((before.map Stp.D).length : Int) ≤ (a : Int)) = false := h6
          simp at this; omega
        have hp' : before[a]? = some before[a] := List.getElem?_eq_getElem h6
        obtain ⟨hpc, hp1, hp2⟩ := hb0 before[a] (List.getElem_mem h6)
        generalize before[a] = p at hp' hpc hp1 hp2
        conv => whnf
        refine ob (by decide) ?_
        refine ⟨.int .i64 a, rfl, ?_⟩
        conv => whnf
        refine ob (by omega) ?_
        refine ⟨p.D, by simp [hp'], ?_⟩
        conv => whnf
        refine Val.call vRules (.refl _) .nil rfl ?_
        rintro r rfl
        conv => whnf
        refine lp (fun n e H => ∃ k : Nat, k ≤ 4 ∧ n = 4 - k ∧ (∀ r : Nat, r < k + 3 → by_ ≠ r) ∧ H = [.var (Stp.D ⟨s, v, by_, [(a : Int)]⟩), .var s.D, .var p.D] ∧
          e = [(150, .int .i64 k), (149, .int .i64 4), (148, .list false sh3 rulesL), (6, .ptr 0 []), (9, .ptr 1 []), (10, .ptr 2 [])]) ?_ ?_
        · refine ⟨5, back 4 _ (by omega) ?_ ⟨0, by omega, rfl, ?_, rfl, rfl⟩⟩
          · exact se0 rfl (se0 rfl (se0 rfl (se0 rfl (se0 rfl (se0 rfl trivial)))))
          · intro r hr
            have : r = 0 ∨ r = 1 ∨ r = 2 := by omega
            rcases this with rfl | rfl | rfl
            · exact nb0
            · exact nb1
            · exact nb2
        · rintro n e H ⟨k, hk, rfl, hno, rfl, rfl⟩
          conv => whnf
          refine ifb (fun h7 => ?_) (fun h7 => ?_)
          · have h7 : k < 4 := by simp at h7; omega
            obtain ⟨f, cp, g, hrule, hcp, hf, hg⟩ := rule_at s hsn hsd k h7
            conv => whnf
            refine ob (by omega) ?_
            refine ⟨_, hrule, ?_⟩
            conv => whnf
            refine ifb (fun h8 => ?_) (fun h8 => ?_)
            · have h8 : by_ = (k + 3 : Nat) := by
                have : decide (((k + 3 : Nat) : Int) = by_) = true := h8
                simp at this; omega
              subst h8
              conv => whnf
              refine Val.call hf (.refl _) (ler _ _) (by simp only [clDs, cl_side, hcp]; rfl) ?_
              rintro r rfl
              conv => whnf
              refine drS 39 (by decide +kernel) ?_
              conv => whnf
              refine ifb (fun g1 => ?_) (fun g1 => ?_)
              · have g1 : p.s.n = (srcS (k + 3) s).n := by simpa using g1
                conv => whnf
                refine ifb (fun g2 => ?_) (fun g2 => ?_)
                · have g2 : p.s.d = (srcS (k + 3) s).d := by simpa using g2
                  conv => whnf
                  refine ifb (fun g3 => ?_) (fun g3 => ?_)
                  · have g3 : p.s.up = s.up := by simpa using g3
                    have g4 : p.s = srcS (k + 3) s := by
                      exact side_ext g1 g2 (g3.trans (srcS_up _ _).symm)
                    conv => whnf
                    refine ifb (fun g5 => ?_) (fun g5 => ?_)
                    · have g5 : k ≠ 0 := by
                        have : (!decide (((k + 3 : Nat) : Int) = 3)) = true := g5
                        simp at this; omega
                      conv => whnf
                      refine ⟨_, none, PureC.val (hg p.v (fun h => absurd h g5)) (ler _ _) rfl (fun r H h => h.2.2) rfl, ?_⟩
                      conv => whnf
                      refine ⟨rfl, _, rfl, ?_⟩
                      rw [FolX_rule (by omega) (by omega) hp']
                      show decide (v = valS (k + 3) s p.v) = true ↔ _
                      simp only [decide_eq_true_eq]
                      exact ⟨fun h => ⟨g4, fun h => by omega, h⟩, fun h => h.2.2⟩
                    · have g5 : k = 0 := by
                        have : (!decide (((k + 3 : Nat) : Int) = 3)) = false := g5
                        simp at this; omega
                      subst g5
                      conv => whnf
                      refine ifb (fun g6 => ?_) (fun g6 => ?_)
                      · have g6 : p.v < 4611686018427387904 := by simpa using g6
                        conv => whnf
                        refine ⟨_, none, PureC.val (hg p.v (fun _ => ⟨by omega, g6⟩)) (ler _ _) rfl (fun r H h => h.2.2) rfl, ?_⟩
                        conv => whnf
                        refine ⟨rfl, _, rfl, ?_⟩
                        rw [FolX_rule (by omega) (by omega) hp']
                        show decide (v = valS (0 + 3) s p.v) = true ↔ _
                        simp only [decide_eq_true_eq]
                        exact ⟨fun h => ⟨g4, fun _ => g6, h⟩, fun h => h.2.2⟩
                      · have g6 : 4611686018427387904 ≤ p.v := by simpa using g6
                        conv => whnf
                        refine ⟨rfl, _, rfl, iff_of_false (by simp) ?_⟩
                        rw [FolX_rule (by omega) (by omega) hp']
                        rintro ⟨q1, q2, q3⟩
                        have := q2 rfl
                        omega
                  · have g3 : p.s.up ≠ s.up := by simpa using g3
                    conv => whnf
                    refine ⟨rfl, _, rfl, iff_of_false (by simp) ?_⟩
                    rw [FolX_rule (by omega) (by omega) hp']
                    rintro ⟨q1, q2, q3⟩
                    rw [q1, srcS_up] at g3
                    exact g3 rfl
                · have g2 : p.s.d ≠ (srcS (k + 3) s).d := by simpa using g2
                  conv => whnf
                  refine ⟨rfl, _, rfl, iff_of_false (by simp) ?_⟩
                  rw [FolX_rule (by omega) (by omega) hp']
                  rintro ⟨q1, q2, q3⟩
                  rw [q1] at g2
                  exact g2 rfl
              · have g1 : p.s.n ≠ (srcS (k + 3) s).n := by simpa using g1
                conv => whnf
                refine ⟨rfl, _, rfl, iff_of_false (by simp) ?_⟩
                rw [FolX_rule (by omega) (by omega) hp']
                rintro ⟨q1, q2, q3⟩
                rw [q1] at g1
                exact g1 rfl
            · have h8 : by_ ≠ (k + 3 : Nat) := by
                have : decide (((k + 3 : Nat) : Int) = by_) = false := h8
                simp at this; omega
              conv => whnf
              refine iv ((k + 1 : Nat) : Int) (by rw [w64 (by omega) (by omega)]; omega) ?_
              conv => whnf
              refine ⟨4 - (k + 1), _, _, by omega, ⟨_, .refl _, .inr ⟨[0, 1, 2], ⟨?_, ?_, rfl, rfl⟩⟩⟩, k + 1, by omega, rfl, ?_, rfl, rfl⟩
              · exact ⟨.refl _, rfl, .refl _, rfl, .refl _, rfl, .refl _, rfl, .refl _, rfl, .refl _, rfl, trivial⟩
              · refine ⟨?_, rfl, rfl, rfl, ?_, rfl, trivial⟩
                · exact congrArg Ob.var (ren_cl _ _ (cl_stp _)).symm
                · exact congrArg Ob.var (ren_cl _ _ (cl_stp _)).symm
              · intro r hr
                by_cases e : r = k + 3
                · subst e; exact h8
                · exact hno r (by omega)
          · have : k = 4 := by simp at h7; omega
            subst this
            conv => whnf
            exact ⟨rfl, false, rfl, iff_of_false (by simp) (FolX_other (fun r hr => hno r (by omega)))⟩

end Go.Proofs.Ythplmnpfaagciaa.Pw

/- Check. -/
set_option linter.unusedVariables false
set_option linter.unusedSimpArgs false
namespace Go.Proofs.Ythplmnpfaagciaa.Pw
open Go

theorem okStp_next {K : List Known} {G : List Int} {before : List Stp} {x : Stp} (hK : rightK K = true) (hs : isC 8 x.s) (hb : ∀ y ∈ before, okStp y) (h : FolX K G before x) : okStp x := by
  have hp := two_pow (n := x.s.n) (by have := hs.1; have := hs.2.1; omega) hs.2.2
  refine ⟨hs, ?_⟩
  rcases h with ⟨_, _, h, _⟩ | ⟨_, _, h, _⟩ | ⟨_, i, k, _, hk, _, hks, hv⟩ | ⟨r, j, y, h3, h6, _, _, hy, hys, hr, hv⟩
  · rw [h]; omega
  · rw [h]; omega
  · have := known_ok hK (List.mem_of_getElem? hk)
    omega
  · obtain ⟨_, h1, h2⟩ := hb y (List.mem_of_getElem? hy)
    have hu : y.s.up = x.s.up := by rw [hys, srcS_up]
    rw [hv]
    unfold valS
    split
    · unfold dbl
      have ht := (tdiv2 (y.v + 1)).1 (by omega)
      cases hx : x.s.up
      · rw [hx] at hu
        have := h2 hu
        simp
        omega
      · simp; omega
    · rw [← hu]; exact ⟨h1, h2⟩

def AllX (K : List Known) (G : List Int) (L : List Stp) : Prop := ∀ (i : Nat) x, L[i]? = some x → isC 8 x.s ∧ FolX K G (L.take i) x
open Classical in
noncomputable def checkR (K : List Known) (G : List Int) (L : List Stp) : Int := if rightK K = true then (if (1 ≤ L.length ∧ L.length ≤ 400) ∧ AllX K G L then 0 else 6) else 1

theorem AllX.ok {K : List Known} {G : List Int} (hK : rightK K = true) {L : List Stp} (n : Nat) (h : ∀ (i : Nat) x, i < n → L[i]? = some x → isC 8 x.s ∧ FolX K G (L.take i) x) : ∀ i, i ≤ n → ∀ y ∈ L.take i, okStp y := by
  intro i
  induction i with
  | zero => intro _ y hy; simp at hy
  | succ i ih =>
    intro hi y hy
    obtain ⟨j, hj⟩ := List.getElem?_of_mem hy
    rw [List.getElem?_take] at hj
    split at hj
    · by_cases e : j = i
      · subst e
        obtain ⟨a, b⟩ := h j y (by omega) hj
        exact okStp_next hK a (ih (by omega)) b
      · exact ih (by omega) y (by
          refine List.mem_of_getElem? (i := j) ?_
          rw [List.getElem?_take, if_pos (by omega)]; exact hj)
    · cases hj

open Classical in
theorem vFollows' (fk fg fb : Bool) (K : List Known) (G : List Int) (before : List Stp) (x : Stp) (hs : isC 8 x.s) (hb0 : ∀ y ∈ before, okStp y) :
    Val Try.prog 31 [.list fk sh5 (K.map Known.D), .list fg .leaf (G.map (.int .i64)), x.D, .list fb sh6 (before.map Stp.D)] (fun r => r = .bool (decide (FolX K G before x))) := by
  refine (vFollows fk fg fb K G before x hs hb0).mono ?_
  rintro r ⟨b, rfl, h⟩
  congr 1
  cases b
  · have : ¬ FolX K G before x := fun h' => by simp [h'] at h
    simp [this]
  · have : FolX K G before x := h.1 rfl
    simp [this]

open Classical in
theorem vCheck (fk fg fs : Bool) (K : List Known) (G : List Int) (L : List Stp) :
    Val Try.prog 18 [.list fk sh5 (K.map Known.D), .list fg .leaf (G.map (.int .i64)), .list fs sh6 (L.map Stp.D)] (fun r => r = .int .i64 (checkR K G L)) := by
  refine Val.of ?_
  refine hc_of (okc Try.f18.ntmps 0) (fn := Try.f18) (cd := _) rfl rfl rfl rfl rfl rfl (fun hbd => ?_)
  have hlen64 : L.length ≤ 9223372036854775807 := by simpa [maxInt] using hbd.2.2.1.1
  conv => whnf
  refine Val.call (vRight fk K) (.refl _) (ler _ _) rfl ?_
  rintro r rfl
  conv => whnf
  refine ifb (fun h1 => ?_) (fun h1 => ?_)
  · have h1 : rightK K = false := by
      cases hr : rightK K
      · rfl
      · rw [hr] at h1; simp at h1
    conv => whnf
    exact ⟨rfl, by simp [oneR, checkR, h1]⟩
  have h1 : rightK K = true := by
    cases hr : rightK K
    · rw [hr] at h1; simp at h1
    · rfl
  conv => whnf
  refine ifb (fun h2 => ?_) (fun h2 => ?_)
  · have h2 : ¬ (1 ≤ L.length ∧ L.length ≤ 400) := by
      have : decide (((L.map Stp.D).length : Int) < 1) = true := h2
      simp at this; omega
    conv => whnf
    exact ⟨rfl, by simp [oneR, checkR, h1, h2]⟩
  have h2 : 1 ≤ L.length := by
    have : decide (((L.map Stp.D).length : Int) < 1) = false := h2
    simp at this; omega
  conv => whnf
  refine ifb (fun h3 => ?_) (fun h3 => ?_)
  · have h3 : ¬ (1 ≤ L.length ∧ L.length ≤ 400) := by
      have : decide ((400 : Int) < ((L.map Stp.D).length : Int)) = true := h3
      simp at this; omega
    conv => whnf
    exact ⟨rfl, by simp [oneR, checkR, h1, h3]⟩
  have h3 : L.length ≤ 400 := by
    have : decide ((400 : Int) < ((L.map Stp.D).length : Int)) = false := h3
    simp at this; omega
  conv => whnf
  refine lp (fun n e H => ∃ k : Nat, k ≤ L.length ∧ n = L.length - k ∧ (∀ (i : Nat) x, i < k → L[i]? = some x → isC 8 x.s ∧ FolX K G (L.take i) x) ∧ H = [] ∧
    e = [(25, .int .i64 k), (24, .int .i64 L.length), (23, .list fs sh6 (L.map Stp.D)), (0, .list fk sh5 (K.map Known.D)), (1, .list fg .leaf (G.map (.int .i64))), (2, .list fs sh6 (L.map Stp.D))]) ?_ ?_
  · refine ⟨L.length + 1, back L.length _ (by omega) ?_ ⟨0, by omega, by omega, by simp, rfl, rfl⟩⟩
    exact se0 rfl (se0 (show D.int .i64 ((L.map Stp.D).length : Nat) = _ by simp) (se0 rfl (se0 rfl (se0 rfl (se0 rfl trivial)))))
  · rintro n e H ⟨k, hk, rfl, hall, rfl, rfl⟩
    conv => whnf
    refine ifb (fun h4 => ?_) (fun h4 => ?_)
    · have h4 : k < L.length := by simpa using h4
      have hx : L[k]? = some L[k] := List.getElem?_eq_getElem h4
      have hno : ¬ (isC 8 L[k].s ∧ FolX K G (L.take k) L[k]) → checkR K G L = 6 := by
        intro h
        unfold checkR
        rw [if_pos h1, if_neg]
        rintro ⟨_, h'⟩
        exact h (h' k _ hx)
      have hok := AllX.ok h1 k hall k (Nat.le_refl _)
      conv => whnf
      refine ob (by omega) ?_
      refine ⟨L[k].D, by simp [h4], ?_⟩
      generalize L[k] = x at hx hno
      conv => whnf
      refine dr 16 (by decide +kernel) ?_
      conv => whnf
      refine ⟨.bool (isCell x.s.n x.s.d 8), none, PureC.val (hcCell x.s.n x.s.d 8) (ler _ _) rfl (fun r H h => h.2) rfl, ?_⟩
      conv => whnf
      refine ifb (fun h5 => ?_) (fun h5 => ?_)
      · have h5 : isCell x.s.n x.s.d 8 = false := by simpa using h5
        conv => whnf
        have hc : ¬ isC 8 x.s := by rw [← cell_iff, h5]; simp
        exact ⟨rfl, by rw [hno (fun h => hc h.1)]; rfl⟩
      · have h5 : isCell x.s.n x.s.d 8 = true := by simpa using h5
        have hc : isC 8 x.s := (cell_iff _ _).1 h5
        conv => whnf
        refine ob ⟨by omega, by simp; omega⟩ ?_
        conv => whnf
        have hcl6 : ∀ l : List Known, clDs (l.map Known.D) = true := by
          intro l
          induction l with
          | nil => rfl
          | cons k l ih => simp only [List.map_cons, clDs, Known.bndD', ih]; rfl
        refine ⟨.bool (decide (FolX K G (L.take k) x)), none, PureC.val (vFollows' fk fg false K G (L.take k) x hc hok) (.cons _ _ _ _ (.refl _) (.cons _ _ _ _ (.refl _) (.cons _ _ _ _ (.refl _) (.cons _ _ _ _ ?_ .nil)))) ?_ (fun r H h => h.2.2) rfl, ?_⟩
        · show LeD _ (.list false sh6 ((L.take k).map Stp.D)) (.list false sh6 (((L.map Stp.D).take k).drop 0))
          rw [List.map_take, List.drop_zero]; exact .refl _
        · rfl
        conv => whnf
        refine ifb (fun h6 => ?_) (fun h6 => ?_)
        · have h6 : ¬ FolX K G (L.take k) x := by
            have : (!decide (FolX K G (L.take k) x)) = true := h6
            simpa using this
          conv => whnf
          exact ⟨rfl, by rw [hno (fun h => h6 h.2)]; rfl⟩
        · have h6 : FolX K G (L.take k) x := by
            have : (!decide (FolX K G (L.take k) x)) = false := h6
            simpa using this
          conv => whnf
          refine iv ((k + 1 : Nat) : Int) (by rw [w64 (by omega) (by omega)]; omega) ?_
          conv => whnf
          refine ⟨L.length - (k + 1), _, ([] : List Ob), by omega, ⟨_, .refl _, .inr ⟨[], ⟨?_, trivial, rfl, rfl⟩⟩⟩, k + 1, by omega, rfl, ?_, rfl, rfl⟩
          · exact ⟨.refl _, rfl, .refl _, rfl, .refl _, rfl, .refl _, rfl, .refl _, rfl, .refl _, rfl, trivial⟩
          · intro i y hi hy
            by_cases e : i = k
            · subst e; rw [hx] at hy; cases hy; exact ⟨hc, h6⟩
            · exact hall i y (by omega) hy
    · have : k = L.length := by simp at h4; omega
      subst this
      conv => whnf
      refine ⟨rfl, ?_⟩
      unfold checkR
      rw [if_pos h1, if_pos]
      · rfl
      · exact ⟨⟨h2, h3⟩, fun i x hx => hall i x (List.getElem?_eq_some_iff.1 hx).1 hx⟩

end Go.Proofs.Ythplmnpfaagciaa.Pw

/- Small functions of the laws. -/
set_option linter.unusedVariables false
set_option linter.unusedSimpArgs false
namespace Go.Proofs.Ythplmnpfaagciaa.Pw
open Go

theorem cl_knowns : ∀ l : List Known, clDs (l.map Known.D) = true
  | [] => rfl
  | k :: l => by simp only [List.map_cons, clDs, Known.bndD', cl_knowns l]; rfl
def knownsD (f : Bool) (K : List Known) : D := .list f sh5 (K.map Known.D)
def intsD (f : Bool) (G : List Int) : D := .list f .leaf (G.map (.int .i64))
def closedD (c : List CellM × Int) : D := .agg [cellsD c.1, .int .i64 c.2]
theorem vClosed (fk fg : Bool) (K : List Known) (G : List Int) (n : Int) :
    Val Try.prog 14 [.int .i64 n, knownsD fk K, intsD fg G] (fun r => r = closedD (closeR K G n)) := by
  refine Val.of ?_
  refine hc_of (okc Try.f14.ntmps 0) (fn := Try.f14) (cd := _) rfl rfl rfl rfl rfl rfl (fun hbd => ?_)
  conv => whnf
  refine Val.call (vClose fk fg K G n) (.refl _) (ler _ _) rfl ?_
  rintro r rfl
  conv => whnf
  exact ⟨rfl, rfl⟩
theorem vWhyL (fk fg : Bool) (K : List Known) (G : List Int) (k : Known) :
    Val Try.prog 16 [knownsD fk K, intsD fg G, k.D] (fun r => ∃ L e, r = .agg [stepsD L, .int .i64 e] ∧ WhyR K G k L e) := by
  refine Val.of ?_
  refine hc_of (okc Try.f16.ntmps 0) (fn := Try.f16) (cd := _) rfl rfl rfl rfl rfl rfl (fun hbd => ?_)
  conv => whnf
  refine Val.call (vWhy fk fg K G k) (.refl _) (ler _ _) rfl ?_
  rintro r ⟨L, e, rfl, h⟩
  conv => whnf
  exact ⟨rfl, L, e, rfl, h⟩

open Classical in
theorem vSameCells (fa fb : Bool) (a b : List CellM) : Val Try.prog 28 [.list fa sh4 (a.map CellM.D), .list fb sh4 (b.map CellM.D)] (fun r => r = .bool (decide (a = b))) := by
  refine Val.of ?_
  refine hc_of (okc Try.f28.ntmps 0) (fn := Try.f28) (cd := _) rfl rfl rfl rfl rfl rfl (fun hbd => ?_)
  have hlen64 : a.length ≤ 9223372036854775807 := by simpa [maxInt] using hbd.1.1
  conv => whnf
  refine ifb (fun h1 => ?_) (fun h1 => ?_)
  · have h1 : a.length ≠ b.length := by
      have : (!decide (((a.map CellM.D).length : Int) = ((b.map CellM.D).length : Nat))) = true := h1
      simp at this; omega
    conv => whnf
    refine ⟨rfl, ?_⟩
    have : a ≠ b := fun h => h1 (by rw [h])
    simp [oneR, this]
  have h1 : a.length = b.length := by
    have : (!decide (((a.map CellM.D).length : Int) = ((b.map CellM.D).length : Nat))) = false := h1
    simp at this; omega
  conv => whnf
  refine lp (fun n e H => ∃ k : Nat, k ≤ a.length ∧ n = a.length - k ∧ (∀ i, i < k → a[i]? = b[i]?) ∧ H = [] ∧
    e = [(5, .int .i64 k), (0, .list fa sh4 (a.map CellM.D)), (1, .list fb sh4 (b.map CellM.D))]) ?_ ?_
  · refine ⟨a.length + 1, back a.length _ (by omega) ?_ ⟨0, by omega, by omega, by simp, rfl, rfl⟩⟩
    exact se0 rfl (se0 rfl (se0 rfl trivial))
  · rintro n e H ⟨k, hk, rfl, hall, rfl, rfl⟩
    conv => whnf
    refine ifb (fun h4 => ?_) (fun h4 => ?_)
    · have h4 : k < a.length := by
        have : decide ((k : Int) < ((a.map CellM.D).length : Nat)) = true := h4
        simp at this; omega
      have h5 : k < b.length := by omega
      conv => whnf
      refine dr 9 rfl ?_
      conv => whnf
      refine ob (by omega) ?_
      refine ⟨a[k].D, by simp [h4], ?_⟩
      conv => whnf
      refine ob (by omega) ?_
      refine ⟨b[k].D, by simp [h5], ?_⟩
      conv => whnf
      refine ifb (fun h6 => ?_) (fun h6 => ?_)
      · have h6 : a[k] ≠ b[k] := by
          intro e
          have : (!(decide (a[k].n = b[k].n) && (decide (a[k].d = b[k].d) && (decide (a[k].lo = b[k].lo) && decide (a[k].hi = b[k].hi))))) = true := h6
          rw [e] at this; simp at this
        conv => whnf
        refine ⟨rfl, ?_⟩
        have : a ≠ b := by
          intro h; subst h; exact h6 rfl
        simp [oneR, this]
      · have h6 : a[k] = b[k] := by
          have : (!(decide (a[k].n = b[k].n) && (decide (a[k].d = b[k].d) && (decide (a[k].lo = b[k].lo) && decide (a[k].hi = b[k].hi))))) = false := h6
          simp only [Bool.not_eq_false', Bool.and_eq_true, decide_eq_true_eq] at this
          generalize a[k] = x at this
          generalize b[k] = y at this
          obtain ⟨p1, p2, p3, p4⟩ := x; obtain ⟨q1, q2, q3, q4⟩ := y
          simp only at this
          simp [this]
        conv => whnf
        refine iv ((k + 1 : Nat) : Int) (by rw [w64 (by omega) (by omega)]; omega) ?_
        conv => whnf
        refine back (a.length - (k + 1)) _ (by omega) ?_ ⟨k + 1, by omega, rfl, ?_, rfl, rfl⟩
        · exact se0 rfl (se0 rfl (se0 rfl trivial))
        · intro i hi
          by_cases e : i = k
          · subst e; rw [List.getElem?_eq_getElem h4, List.getElem?_eq_getElem h5, h6]
          · exact hall i (by omega)
    · have : k = a.length := by
        have : decide ((k : Int) < ((a.map CellM.D).length : Nat)) = false := h4
        simp at this; omega
      subst this
      conv => whnf
      refine ⟨rfl, ?_⟩
      have : a = b := by
        apply List.ext_getElem?
        intro i
        by_cases hi : i < a.length
        · exact hall i hi
        · rw [List.getElem?_eq_none (by omega), List.getElem?_eq_none (by omega)]
      simp [oneR, this]

open Classical in
theorem vSameL (a b : List CellM × Int) : Val Try.prog 13 [closedD a, closedD b] (fun r => r = .bool (decide (a.2 = b.2) && decide (a.1 = b.1))) := by
  refine Val.of ?_
  refine hc_of (okc Try.f13.ntmps 0) (fn := Try.f13) (cd := _) rfl rfl rfl rfl rfl rfl (fun hbd => ?_)
  conv => whnf
  refine ifb (fun h1 => ?_) (fun h1 => ?_)
  · conv => whnf
    refine Val.call (vSameCells false false a.1 b.1) (.refl _) (ler _ _) rfl ?_
    rintro r rfl
    conv => whnf
    exact ⟨rfl, by simp at h1; simp [oneR, h1]⟩
  · conv => whnf
    exact ⟨rfl, by simp at h1; simp [oneR, h1]⟩

def CellM.zero : CellM := ⟨0, 0, 0, 0⟩
def atL (l : List CellM) (n d : Int) : CellM := if 0 ≤ (n * (n - 1)).tdiv 2 + d - 1 then l.getD ((n * (n - 1)).tdiv 2 + d - 1).toNat .zero else .zero
theorem vAt (a : List CellM × Int) (n d : Int) (hn : -1000 ≤ n ∧ n ≤ 1000) (hd : -1000 ≤ d ∧ d ≤ 1000) : Val Try.prog 21 [closedD a, .int .i64 n, .int .i64 d] (fun r => r = (atL a.1 n d).D) := by
  refine Val.of ?_
  have hm : -1001000 ≤ n * (n - 1) ∧ n * (n - 1) ≤ 1001000 := by
    have h1 : n * (n - 1) ≤ 1000 * 1001 := by
      rcases Int.le_total 0 n with h | h
      · rcases Int.le_total 1 n with h2 | h2
        · have := Int.mul_le_mul (show n ≤ 1000 by omega) (show n - 1 ≤ 999 by omega) (show 0 ≤ n - 1 by omega) (by omega); omega
        · have : n = 0 ∨ n = 1 := by omega
          rcases this with rfl | rfl <;> decide
      · have := Int.mul_le_mul (show -n ≤ 1000 by omega) (show -(n - 1) ≤ 1001 by omega) (show 0 ≤ -(n - 1) by omega) (by omega)
        rw [Int.neg_mul_neg] at this; omega
    have h2 : 0 ≤ n * (n - 1) := by
      rcases Int.le_total 1 n with h | h
      · exact Int.mul_nonneg (by omega) (by omega)
      · rcases Int.le_total 0 n with h0 | h0
        · have : n = 0 ∨ n = 1 := by omega
          rcases this with rfl | rfl <;> decide
        · have := Int.mul_nonneg (show 0 ≤ -n by omega) (show 0 ≤ -(n - 1) by omega)
          rw [Int.neg_mul_neg] at this; exact this
    omega
  have ht := tdiv2 (n * (n - 1))
  have hlen64 : ∀ hbd : bndDs [closedD a, .int .i64 n, .int .i64 d], a.1.length ≤ 9223372036854775807 := by
    intro hbd
    have := hbd.1.1.1
    simpa [maxInt] using this
  refine hc_of (okc Try.f21.ntmps 0) (fn := Try.f21) (cd := _) rfl rfl rfl rfl rfl rfl (fun hbd => ?_)
  have hlen64 := hlen64 hbd
  conv => whnf
  refine iv (n - 1) (w64 (by omega) (by omega)) ?_
  conv => whnf
  refine iv (n * (n - 1)) (w64 (by omega) (by omega)) ?_
  conv => whnf
  refine ob (by decide) ?_
  refine iv ((n * (n - 1)).tdiv 2) (w64 (by rcases Int.le_total 0 (n * (n - 1)) with h | h; (have := ht.1 h; omega); (have := ht.2 h; omega)) (by rcases Int.le_total 0 (n * (n - 1)) with h | h; (have := ht.1 h; omega); (have := ht.2 h; omega))) ?_
  have hq : -500500 ≤ (n * (n - 1)).tdiv 2 ∧ (n * (n - 1)).tdiv 2 ≤ 500500 := by
    rcases Int.le_total 0 (n * (n - 1)) with h | h
    · have := ht.1 h; omega
    · have := ht.2 h; omega
  unfold atL
  generalize (n * (n - 1)).tdiv 2 = q at hq
  conv => whnf
  refine iv (q + d) (w64 (by omega) (by omega)) ?_
  conv => whnf
  refine iv (q + d - 1) (w64 (by omega) (by omega)) ?_
  conv => whnf
  refine ifb (fun h1 => ?_) (fun h1 => ?_)
  · have h1 : q + d - 1 < 0 := by simpa using h1
    conv => whnf
    refine ⟨rfl, ?_⟩
    rw [if_neg (by omega)]; rfl
  · have h1 : 0 ≤ q + d - 1 := by simpa using h1
    conv => whnf
    refine ifb (fun h2 => ?_) (fun h2 => ?_)
    · have h2 : (a.1.length : Int) ≤ q + d - 1 := by
        have : decide (((a.1.map CellM.D).length : Int) ≤ q + d - 1) = true := h2
        simpa using this
      conv => whnf
      refine ⟨rfl, ?_⟩
      rw [if_pos h1, List.getD, List.getElem?_eq_none (by omega)]; rfl
    · have h2 : q + d - 1 < (a.1.length : Int) := by
        have : decide (((a.1.map CellM.D).length : Int) ≤ q + d - 1) = false := h2
        simpa using this
      have h3 : (q + d - 1).toNat < a.1.length := by omega
      conv => whnf
      refine ob h1 ?_
      refine ⟨(a.1[(q + d - 1).toNat]).D, by rw [List.getElem?_map, List.getElem?_eq_getElem h3]; rfl, ?_⟩
      conv => whnf
      refine ⟨rfl, ?_⟩
      rw [if_pos h1, List.getD, List.getElem?_eq_getElem h3]; rfl

end Go.Proofs.Ythplmnpfaagciaa.Pw

/- Chains are accepted; what is accepted can be derived; the closure reckoned. -/
set_option linter.unusedVariables false
set_option linter.unusedSimpArgs false
namespace Go.Proofs.Ythplmnpfaagciaa.Pw
open Go

theorem Chain.last {st : List Stp} {i : Nat} {L : List Stp} (h : Chain st i L) : ∃ x y, st[i]? = some x ∧ L[L.length - 1]? = some y ∧ y.s = x.s ∧ y.v = x.v := by
  cases h with
  | base i x hx hb => exact ⟨x, x, hx, rfl, rfl, rfl⟩
  | step i j x L hx hb hat hji hL => exact ⟨x, ⟨x.s, x.v, x.by_, [((L.length - 1 : Nat) : Int)]⟩, hx, by simp, rfl, rfl⟩
theorem Chain.mem {st : List Stp} {i : Nat} {L : List Stp} (h : Chain st i L) : ∀ e ∈ L, ∃ idx x, idx ≤ i ∧ st[idx]? = some x ∧ e.s = x.s ∧ e.v = x.v := by
  induction h with
  | base i x hx hb => intro e he; simp at he; subst he; exact ⟨i, e, Nat.le_refl _, hx, rfl, rfl⟩
  | step i j x L hx hb hat hji hL ih =>
    intro e he
    rcases List.mem_append.1 he with he | he
    · obtain ⟨idx, y, h1, h2, h3⟩ := ih e he
      exact ⟨idx, y, by omega, h2, h3⟩
    · simp at he; subst he; exact ⟨i, x, Nat.le_refl _, hx, rfl, rfl⟩
theorem valS_nb {r : Nat} {s : Side} {v : Int} (h : 1 ≤ v) (h2 : v ≤ 16777216) : better s (valS r s v) v = false := by
  unfold valS
  split
  · cases hu : s.up
    · have := dbl_lo hu h h2
      simp [better, hu]; omega
    · simp [better, dbl, hu]; omega
  · simp [better]
theorem Inv.rule_at {K : List Known} {G : List Int} {n : Int} {l : Lg} (h : Inv K G n l) {i j : Nat} {x : Stp} (hx : l.steps[i]? = some x) (hb : 2 < x.by_) (hat : x.at_ = [(j : Int)]) :
    ∃ (r : Nat) (y : Stp), 3 ≤ r ∧ r ≤ 6 ∧ x.by_ = r ∧ l.steps[j]? = some y ∧ y.s = srcS r x.s ∧ isC n y.s ∧ x.v = valS r x.s y.v := by
  have hf := h.fol i x hx
  cases hf with
  | known => simp at hb
  | one => simp at hb
  | two => simp at hb
  | rule r s j' y h3 h6 hy hys hcy =>
    have : j' = j := by simp at hat; omega
    subst this
    refine ⟨r, y, h3, h6, rfl, ?_, hys, hcy, rfl⟩
    rw [List.getElem?_take] at hy
    split at hy
    · exact hy
    · cases hy
theorem Chain.nb {K : List Known} {G : List Int} {n : Int} {l : Lg} (h : Inv K G n l) {i : Nat} {L : List Stp} (hc : Chain l.steps i L) : ∀ x, l.steps[i]? = some x → ∀ e ∈ L, e.s.up = x.s.up ∧ better x.s x.v e.v = false := by
  induction hc with
  | base i x hx hb =>
    intro x' hx' e he
    rw [hx] at hx'; cases hx'
    simp at he; subst he
    exact ⟨rfl, by simp [better]⟩
  | step i j x L hx hb hat hji hL ih =>
    intro x' hx' e he
    rw [hx] at hx'; cases hx'
    obtain ⟨r, y, h3, h6, hr, hy, hys, hcy, hv⟩ := h.rule_at hx hb hat
    rcases List.mem_append.1 he with he | he
    · obtain ⟨h1, h2⟩ := ih y hy e he
      have hu : y.s.up = x.s.up := by rw [hys, srcS_up]
      refine ⟨h1.trans hu, ?_⟩
      rw [better_up hu] at h2
      rw [hv]
      exact nb_trans (valS_nb (h.cell j y hy).2.1 (h.cell j y hy).2.2) h2
    · simp at he; subst he; exact ⟨rfl, by simp [better]⟩
theorem Chain.nodup {K : List Known} {G : List Int} {n : Int} {l : Lg} (h : Inv K G n l) {i : Nat} {L : List Stp} (hc : Chain l.steps i L) : (L.map Stp.s).Nodup := by
  induction hc with
  | base i x hx hb => simp
  | step i j x L hx hb hat hji hL ih =>
    rw [List.map_append, List.nodup_append]
    refine ⟨ih, by simp, ?_⟩
    intro a ha b hb' hab
    simp at hb'
    subst hb'
    obtain ⟨e, he, hes⟩ := List.mem_map.1 ha
    obtain ⟨r, y, h3, h6, hr, hy, hys, hcy, hv⟩ := h.rule_at hx hb hat
    obtain ⟨h1, h2⟩ := Chain.nb h hL y hy e he
    have hu : y.s.up = x.s.up := by rw [hys, srcS_up]
    rw [better_up hu] at h2
    obtain ⟨idx, z, hz1, hz2, hz3, hz4⟩ := Chain.mem hL e he
    have ho := h.ord idx i z x (by omega) hz2 hx (by rw [← hz3, hes, hab])
    rw [← hz4] at ho
    have := nb_trans (valS_nb (r := r) (s := x.s) (h.cell j y hy).2.1 (h.cell j y hy).2.2) h2
    rw [← hv, ho] at this
    cases this
theorem nodup_le {α : Type} [DecidableEq α] : ∀ (l m : List α), l.Nodup → (∀ a ∈ l, a ∈ m) → l.length ≤ m.length
  | [], m, _, _ => by simp
  | a :: l, m, h, hs => by
    have ha := hs a (by simp)
    have := nodup_le l (m.erase a) (List.nodup_cons.1 h).2 (fun b hb => by
      have hb1 := hs b (by simp [hb])
      have hne : b ≠ a := fun e => (List.nodup_cons.1 h).1 (e ▸ hb)
      exact (List.mem_erase_of_ne hne).2 hb1)
    rw [List.length_erase_of_mem ha] at this
    have : 0 < m.length := List.length_pos_of_mem ha
    simp; omega
theorem Chain.len72 {K : List Known} {G : List Int} {n : Int} {l : Lg} (h : Inv K G n l) (hn : n ≤ 8) {i : Nat} {L : List Stp} (hc : Chain l.steps i L) : L.length ≤ 72 := by
  have := nodup_le (L.map Stp.s) (sidesL 8) (hc.nodup h) (fun a ha => by
    obtain ⟨e, he, rfl⟩ := List.mem_map.1 ha
    obtain ⟨idx, z, _, hz2, hz3, _⟩ := hc.mem e he
    rw [hz3]
    have := (h.cell idx z hz2).1
    exact (mem_sides _ _).2 ⟨this.1, this.2.1, by have := this.2.2; show z.s.n ≤ 8; omega⟩)
  rw [List.length_map] at this
  exact Nat.le_trans this (by decide)

theorem Chain.allX {K : List Known} {G : List Int} {l : Lg} (h : Inv K G 8 l) {i : Nat} {L : List Stp} (hc : Chain l.steps i L) : AllX K G L := by
  induction hc with
  | base i x hx hb =>
    intro k y hy
    match k, hy with
    | 0, hy =>
      have hy : x = y := by simpa using hy
      subst hy
      refine ⟨(h.cell i x hx).1, ?_⟩
      have hf := h.fol i x hx
      generalize l.steps.take i = bf at hf
      cases hf with
      | known s v j k h1 h2 h3 h4 h5 h6 =>
        refine .inr (.inr (.inl ⟨rfl, j, k, rfl, h1, h2, ?_, h6⟩))
        exact side_ext h3 h4 h5
      | one s h1 => exact .inl ⟨rfl, rfl, rfl, h1⟩
      | two s h1 => exact .inr (.inl ⟨rfl, rfl, rfl, h1⟩)
      | rule r s j y h3 h6 hy hys hcy =>
        have hb : (r : Int) ≤ 2 := hb
        omega
    | k + 1, hy => simp at hy
  | step i j x L hx hb hat hji hL ih =>
    obtain ⟨r, y, h3, h6, hr, hy, hys, hcy, hv⟩ := h.rule_at hx hb hat
    intro k z hz
    rw [List.getElem?_append] at hz
    split at hz
    · next hk =>
      obtain ⟨a, b⟩ := ih k z hz
      rw [List.take_append_of_le_length (by omega)]
      exact ⟨a, b⟩
    · next hk =>
      have hk : k = L.length := by
        have := (List.getElem?_eq_some_iff.1 hz).1
        simp at this; omega
      subst hk
      simp at hz
      subst hz
      rw [List.take_append_of_le_length (Nat.le_refl _), List.take_length]
      refine ⟨(h.cell i x hx).1, ?_⟩
      obtain ⟨y', w, hy', hw, hws, hwv⟩ := hL.last
      rw [hy] at hy'; cases hy'
      refine .inr (.inr (.inr ⟨r, L.length - 1, w, h3, h6, hr, rfl, hw, by rw [hws, hys], ?_, by rw [hwv]; exact hv⟩))
      intro _
      rw [hwv]
      have := (h.cell j y hy).2.2
      omega

theorem AllX.der {K : List Known} {G : List Int} {L : List Stp} (h : AllX K G L) : ∀ (i : Nat) x, L[i]? = some x → Der K G 8 x.s x.v := by
  intro i
  induction i using Nat.strongRecOn with
  | ind i ih =>
    intro x hx
    obtain ⟨hc, hf⟩ := h i x hx
    rcases hf with ⟨_, _, hv, hd⟩ | ⟨_, _, hv, hd⟩ | ⟨_, j, k, _, hk, hfo, hks, hv⟩ | ⟨r, j, y, h3, h6, _, _, hy, hys, _, hv⟩
    · rw [hv]; exact .one x.s hc hd
    · rw [hv]; exact .two x.s hc hd
    · rw [← hv, ← hks]
      exact .known k (List.mem_of_getElem? hk) hfo (by rw [← hks] at hc; exact hc)
    · have hj : j < i := by
        have := (List.getElem?_eq_some_iff.1 hy).1
        simp at this; omega
      have hy' : L[j]? = some y := by rw [List.getElem?_take, if_pos hj] at hy; exact hy
      have hd := ih j hj y hy'
      have hcy := (h j y hy').1
      rw [hys] at hd hcy
      rw [hv]
      exact .rule r x.s y.v hc h3 h6 hcy hd

/-! ### Reckoning -/
def iterM (n : Nat) : Nat → Lg → Option Lg
  | 0, _ => none
  | f + 1, l => if ((sidesL n).foldl (passS n) (l, false)).2 then iterM n f ((sidesL n).foldl (passS n) (l, false)).1 else some ((sidesL n).foldl (passS n) (l, false)).1
def knM (G : List Int) (n : Int) : Nat → List Known → Lg → Lg
  | _, [], l => l
  | i, k :: K, l => knM G n (i + 1) K (knownS G n l i k)
def cloM (K : List Known) (G : List Int) (n : Nat) : Option Lg := iterM n 40 (knM G n 0 K ((sidesL n).foldl baseL ⟨[], []⟩))

theorem iterM_ok {K : List Known} {G : List Int} {n : Nat} (hn : n ≤ 8) : ∀ (f : Nat) (l l' : Lg), Inv K G n l → Full n l → (∀ s, isC n s → BaseOk l s) → (∀ k ∈ K, KnownOk G n l k) → iterM n f l = some l' → Closd K G n l'
  | 0, l, l', _, _, _, _, h => by simp [iterM] at h
  | f + 1, l, l', hI, hF, hB, hK, h => by
    obtain ⟨q1, q2, q3, q4, q5, q6, q7⟩ := foldS_pot (show (n : Int) ≤ 8 by omega) (sidesL n) l false hI hF (fun s h => isC_side h)
    unfold iterM at h
    split at h
    · exact iterM_ok hn f _ l' q1 q2 (fun s hs => q6 s (hB s hs)) (fun k hk => q7 k (hK k hk)) h
    · next hc =>
      simp only [Option.some.injEq] at h
      have hc : ((sidesL n).foldl (passS n) (l, false)).2 = false := by simpa using hc
      obtain ⟨_, w2, w3⟩ := q5 hc
      rw [w2] at h
      subst h
      exact ⟨hI, hF, hB, hK, fun s hs r h3 h6 => w3 s ((mem_sides _ _).2 hs) r h3 h6⟩
theorem knM_ok {K0 : List Known} {G : List Int} {n : Int} (hK : rightK K0 = true) (hn : n ≤ 8) : ∀ (K : List Known) (i : Nat) (l : Lg), (∀ (j : Nat) k, K[j]? = some k → K0[i + j]? = some k) → Inv K0 G n l →
    Inv K0 G n (knM G n i K l) ∧ (∀ k, k ∈ K ∨ KnownOk G n l k → KnownOk G n (knM G n i K l) k) ∧ ∀ t, BaseOk l t → BaseOk (knM G n i K l) t
  | [], i, l, _, h => ⟨h, fun k hk => hk.resolve_left (by simp), fun t ht => ht⟩
  | k :: K, i, l, hs, h => by
    obtain ⟨a, b, c, d⟩ := knownS_inv (i := i) hK h hn (hs 0 k rfl)
    obtain ⟨e, f, g⟩ := knM_ok hK hn K (i + 1) (knownS G n l i k) (fun j k' hj => by have := hs (j + 1) k' (by simpa using hj); rwa [show i + (j + 1) = i + 1 + j by omega] at this) a
    refine ⟨e, ?_, fun t ht => g t (c t ht)⟩
    intro k' hk'
    refine f k' ?_
    rcases hk' with hk' | hk'
    · rcases List.mem_cons.1 hk' with rfl | hk'
      · exact .inr b
      · exact .inl hk'
    · exact .inr (d k' hk')
theorem cloM_ok {K : List Known} {G : List Int} {n : Nat} (hK : rightK K = true) (hn : n ≤ 8) {l : Lg} (h : cloM K G n = some l) : Closd K G n l := by
  obtain ⟨b1, b2⟩ := baseFold (K := K) (G := G) (show (n : Int) ≤ 8 by omega) (sidesL n) ⟨[], []⟩ (inv0 K G n) (fun s h => isC_side h)
  obtain ⟨k1, k2, k3⟩ := knM_ok hK (show (n : Int) ≤ 8 by omega) K 0 _ (fun j k hj => by simpa using hj) b1
  have hB : ∀ s, isC n s → BaseOk (knM G n 0 K ((sidesL n).foldl baseL ⟨[], []⟩)) s := fun s hs => k3 s (b2 s (.inl ((mem_sides _ _).2 hs)))
  refine iterM_ok hn 40 _ l k1 ?_ hB (fun k hk => k2 k (.inl hk)) h
  intro s hs
  have := hB s hs
  cases hu : s.up
  · exact taken_full (this.2 (.inl hu))
  · exact taken_full (this.1 (.inl hu))
def valM (l : Lg) (s : Side) : Int := (valOf l s).getD 0
theorem bst_of {K : List Known} {G : List Int} {n : Nat} {l : Lg} (h : Closd K G n l) {s : Side} (hs : isC n s) : bst K G n s = valM l s := by
  obtain ⟨i, x, hi, hx, _, hv, _⟩ := h.inv.at h.full hs
  rw [(h.best hs hi hx).eq, valM, hv]; rfl
def cellV (l : Lg) (m d : Nat) : CellM := ⟨m, d, valM l ⟨m, d, false⟩, valM l ⟨m, d, true⟩⟩
def rowV (l : Lg) (m : Nat) : Nat → List CellM
  | 0 => []
  | k + 1 => rowV l m k ++ [cellV l m (k + 1)]
def cellsV (l : Lg) : Nat → List CellM
  | 0 => []
  | m + 1 => cellsV l m ++ rowV l (m + 1) (m + 1)
theorem rowV_eq {K : List Known} {G : List Int} {n : Nat} {l : Lg} (h : Closd K G n l) {m : Nat} (hm : m ≤ n) : ∀ k, k ≤ m → rowC K G n m k = rowV l m k
  | 0, _ => rfl
  | k + 1, hk => by
    rw [rowC, rowV, rowV_eq h hm k (by omega)]
    congr 2
    unfold cellM cellV
    rw [bst_of h (by refine ⟨?_, ?_, ?_⟩ <;> simp only <;> omega), bst_of h (by refine ⟨?_, ?_, ?_⟩ <;> simp only <;> omega)]
theorem cellsV_eq {K : List Known} {G : List Int} {n : Nat} {l : Lg} (h : Closd K G n l) : ∀ k, k ≤ n → cellsC K G n k = cellsV l k
  | 0, _ => rfl
  | k + 1, hk => by rw [cellsC, cellsV, cellsV_eq h k (by omega), rowV_eq h hk (k + 1) (Nat.le_refl _)]
def okB (l : List CellM) : Bool := l.all fun c => decide (c.lo ≤ c.hi)
theorem okB_iff (l : List CellM) : okB l = true ↔ okCells l := by simp [okB, okCells, List.all_eq_true]
def closeM (l : Lg) (n : Nat) : List CellM × Int := if okB (cellsV l n) then (cellsV l n, 0) else ([], 6)
theorem closeM_eq {K : List Known} {G : List Int} {n : Nat} (h1 : 1 ≤ n) (hn : n ≤ 8) (hK : rightK K = true) {l : Lg} (h : cloM K G n = some l) : closeR K G n = closeM l n := by
  have hc := cloM_ok hK hn h
  unfold closeR closeM
  rw [if_pos ⟨by omega, by omega, hK⟩]
  simp only [Int.toNat_natCast]
  have he := cellsV_eq hc n (Nat.le_refl _)
  by_cases ho : okCells (cellsV l n)
  · rw [if_pos (he ▸ ho), if_pos ((okB_iff _).2 ho), he]
  · rw [if_neg (he ▸ ho), if_neg (fun h => ho ((okB_iff _).1 h))]

end Go.Proofs.Ythplmnpfaagciaa.Pw
