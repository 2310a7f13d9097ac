/- Parts of the proof, merged: MB. -/
import Derived.Test.YthplmnpfaagciaaLe
/- Whole, at n = 8 without known bounds. -/
set_option linter.unusedVariables false
set_option linter.unusedSimpArgs false
set_option maxHeartbeats 40000000
namespace Go.Proofs.Ythplmnpfaagciaa.Pw
open Go

def zW : D := .agg [.nils, .nils]
def E1 (c : Bool) : Env := [(8, .bool c), (0, .int .i64 8), (7, .ptr 1 []), (6, .ptr 0 [])]
/-- What holds of a pass so far: c tells whether the table t' is another one than t; the cells ahead of (m, d) do not change t where it is not. -/
structure Prog (J : Tb → Prop) (μ : Tb → Nat) (t t' : Tb) (c : Bool) (m d : Nat) : Prop where
  j : J t'
  le : μ t' ≤ μ t
  lt : c = true → μ t' < μ t
  same : c = false → t' = t ∧ ∀ a b : Nat, 1 ≤ b → b ≤ a → a ≤ 8 → (a < m ∨ (a = m ∧ b < d)) → unch t a b
def Steps (J : Tb → Prop) (μ : Tb → Nat) : Prop := ∀ (t : Tb) (m d : Nat), 1 ≤ d → d ≤ m → m ≤ 8 → J t → J (updT t m d) ∧ μ (updT t m d) ≤ μ t ∧ (¬ unch t m d → μ (updT t m d) < μ t)
theorem Prog.step {J : Tb → Prop} {μ : Tb → Nat} {t t' : Tb} {c : Bool} {m d : Nat} (h : Prog J μ t t' c m d) (hs : Steps J μ) (h1 : 1 ≤ d) (h2 : d ≤ m) (h3 : m ≤ 8) (c' : Bool) (hc : c' = true ↔ (c = true ∨ ¬ unch t' m d)) :
    Prog J μ t (updT t' m d) c' m (d + 1) := by
  obtain ⟨a1, a2, a3⟩ := hs t' m d h1 h2 h3 h.j
  refine ⟨a1, Nat.le_trans a2 h.le, ?_, ?_⟩
  · intro hc'
    rcases hc.1 hc' with e | e
    · exact Nat.lt_of_le_of_lt a2 (h.lt e)
    · exact Nat.lt_of_lt_of_le (a3 e) h.le
  · intro hc'
    have hcf : c = false := by
      cases hcc : c
      · rfl
      · rw [hc.2 (.inl hcc)] at hc'; cases hc'
    have hu : unch t' m d := by
      apply Classical.byContradiction
      intro hn
      rw [hc.2 (.inr hn)] at hc'; cases hc'
    obtain ⟨e1, e2⟩ := h.same hcf
    rw [updT_same hu]
    refine ⟨e1, ?_⟩
    intro a b g1 g2 g3 g4
    by_cases e : a = m ∧ b = d
    · obtain ⟨rfl, rfl⟩ := e
      rw [← e1]; exact hu
    · exact e2 a b g1 g2 g3 (by omega)
theorem Prog.step' {J : Tb → Prop} {μ : Tb → Nat} {t t' : Tb} {c : Bool} {m d : Nat} (h : Prog J μ t t' c m d) (hs : Steps J μ) (h1 : 1 ≤ d) (h2 : d ≤ m) (h3 : m ≤ 8) (x y : Int) (hx : x = againLo 8 t' m d) (hy : y = againHi 8 t' m d)
    (c' : Bool) (hc : c' = true ↔ (c = true ∨ ¬ (x = gt2 t'.lo m d ∧ y = gt2 t'.hi m d))) : Prog J μ t ⟨t'.lo.set m ((t'.lo.getD m []).set d x), t'.hi.set m ((t'.hi.getD m []).set d y)⟩ c' m (d + 1) := by
  subst hx; subst hy
  exact h.step hs h1 h2 h3 c' hc
theorem gt2_get {l : List (List Int)} {i d : Nat} {r : List Int} (h : l[i]? = some r) (hd : d < r.length) : r[d]? = some (gt2 l i d) := by
  unfold gt2
  simp only [Int.toNat_natCast, List.getD, h, Option.getD_some, List.getElem?_eq_getElem hd]
theorem Prog.row {J : Tb → Prop} {μ : Tb → Nat} {t t' : Tb} {c : Bool} {m : Nat} (h : Prog J μ t t' c m (m + 1)) : Prog J μ t t' c (m + 1) 1 :=
  ⟨h.j, h.le, h.lt, fun hc => ⟨(h.same hc).1, fun a b g1 g2 g3 g4 => (h.same hc).2 a b g1 g2 g3 (by omega)⟩⟩
theorem setRow {r : List Int} {d : Nat} {x : Int} : (r.map (D.int .i64)).set d (.int .i64 x) = (r.set d x).map (.int .i64) := by rw [List.map_set]

theorem hcWhole8 (J : Tb → Prop) (μ : Tb → Nat) (h0 : J t0) (hR : ∀ t, J t → Rect 8 t.lo ∧ Rect 8 t.hi ∧ Bdd t.lo ∧ Bdd t.hi) (hS : Steps J μ) :
    HC Try.prog 23 [.int .i64 8, .list false sh5 [], .list false .leaf []] [] (fun r H' => ∃ t, J t ∧ (∀ m d : Nat, 1 ≤ d → d ≤ m → m ≤ 8 → unch t m d) ∧ r = .agg [.sl 2 0 9, .sl 3 0 9] ∧ H' = stW (.agg [.sl 2 0 9, .sl 3 0 9]) t) := by
  refine hc_ofS (okc Try.f23.ntmps 0) (fn := Try.f23) (cd := _) rfl rfl rfl rfl rfl rfl (fun hbd => ?_)
  conv => whnf
  refine HC.frame [] hcFirst (.refl _) trivial rfl (by simp) (ler _ _) rfl ?_
  rintro r H0' ⟨rfl, rfl⟩ _
  conv => whnf
  refine lp (fun k e H => ∃ (t : Tb) (c : Bool), k = (if c then μ t + 1 else 0) ∧ J t ∧ (c = false → ∀ m d : Nat, 1 ≤ d → d ≤ m → m ≤ 8 → unch t m d) ∧ H = stW zW t ∧ e = E1 c) ?_ ?_
  · refine ⟨μ t0 + 2, μ t0 + 1, E1 true, stW zW t0, by omega, ⟨_, .refl _, .inr ⟨[0, 23, 3, 4, 5, 6, 7, 8, 9, 10, 11, 12, 13, 14, 15, 16, 17, 18, 19, 20, 21, 22], ⟨?_, ?_, rfl, rfl⟩⟩⟩, t0, true, rfl, h0, by simp, rfl, rfl⟩
    · exact ⟨.refl _, rfl, .refl _, rfl, .refl _, rfl, .refl _, rfl, trivial⟩
    · exact ⟨rfl, rfl, rfl, rfl, rfl, rfl, rfl, rfl, rfl, rfl, rfl, rfl, rfl, rfl, rfl, rfl, rfl, rfl, rfl, rfl, rfl, rfl, rfl, rfl, rfl, rfl, rfl, rfl, rfl, rfl, rfl, rfl, rfl, rfl, rfl, rfl, rfl, rfl, rfl, rfl, rfl, rfl, rfl, rfl, trivial⟩
  · rintro k e H ⟨t, c, rfl, hJ, hst, rfl, rfl⟩
    conv => whnf
    refine ifb (fun h1 => ?_) (fun h1 => ?_)
    · subst h1
      conv => whnf
      refine lp (fun k e H => ∃ (m : Nat) (t' : Tb) (c' : Bool), 1 ≤ m ∧ m ≤ 9 ∧ k = 9 - m ∧ Prog J μ t t' c' m 1 ∧ H = stW zW t' ∧ e = (9, .int .i64 m) :: E1 c') ?_ ?_
      · refine ⟨9, back 8 _ (by omega) ?_ ⟨1, t, false, by omega, by omega, rfl, ⟨hJ, Nat.le_refl _, by simp, fun _ => ⟨rfl, fun a b g1 g2 g3 g4 => by omega⟩⟩, rfl, rfl⟩⟩
        exact se0 rfl (se0 rfl (se0 rfl (se0 rfl (se0 rfl trivial))))
      · rintro k e H ⟨m, t', c', hm1, hm9, rfl, hP, rfl, rfl⟩
        conv => whnf
        refine ifb (fun h2 => ?_) (fun h2 => ?_)
        · have h2 : m ≤ 8 := by
            have : decide ((m : Int) ≤ 8) = true := h2
            simp at this; omega
          conv => whnf
          refine lp (fun k e H => ∃ (d : Nat) (t' : Tb) (c' : Bool), 1 ≤ d ∧ d ≤ m + 1 ∧ k = m + 1 - d ∧ Prog J μ t t' c' m d ∧ H = stW zW t' ∧ e = (10, .int .i64 d) :: (9, .int .i64 m) :: E1 c') ?_ ?_
          · refine ⟨m + 1, back m _ (by omega) ?_ ⟨1, t', c', by omega, by omega, by omega, hP, rfl, rfl⟩⟩
            exact se0 rfl (se0 rfl (se0 rfl (se0 rfl (se0 rfl (se0 rfl trivial)))))
          · rintro k e H ⟨d, t', c', hd1, hd9, rfl, hP, rfl, rfl⟩
            conv => whnf
            refine ifb (fun h3 => ?_) (fun h3 => ?_)
            · have h3 : d ≤ m := by
                have : decide ((d : Int) ≤ (m : Int)) = true := h3
                simp at this; omega
              obtain ⟨hRl, hRh, hBl, hBh⟩ := hR t' hP.j
              have key := vAgain 8 m d t' (by omega) (by omega) (by omega) (by omega) hRl hRh hBl hBh
              obtain ⟨x, hx⟩ : ∃ x, x = againLo 8 t' m d := ⟨_, rfl⟩
              obtain ⟨y, hy⟩ : ∃ y, y = againHi 8 t' m d := ⟨_, rfl⟩
              rw [← hx, ← hy] at key
              have hun := hP.step' hS hd1 h3 h2 x y hx hy
              obtain ⟨ga, hga0⟩ : ∃ g, g = gt2 t'.lo m d := ⟨_, rfl⟩
              obtain ⟨gb, hgb0⟩ : ∃ g, g = gt2 t'.hi m d := ⟨_, rfl⟩
              rw [← hga0, ← hgb0] at hun
              clear hx hy hP hBl hBh
              obtain ⟨lo, hi⟩ := t'
              have hRl : Rect 8 lo := hRl
              have hRh : Rect 8 hi := hRh
              obtain ⟨A0, A1, A2, A3, A4, A5, A6, A7, A8, rfl, ha0, ha1, ha2, ha3, ha4, ha5, ha6, ha7, ha8⟩ := rect9 hRl
              obtain ⟨B0, B1, B2, B3, B4, B5, B6, B7, B8, rfl, hb0, hb1, hb2, hb3, hb4, hb5, hb6, hb7, hb8⟩ := rect9 hRh
              dsimp only at hun hga0 hgb0
              clear hRl hRh
              have hmc : m = 1 ∨ m = 2 ∨ m = 3 ∨ m = 4 ∨ m = 5 ∨ m = 6 ∨ m = 7 ∨ m = 8 := by omega
              have fz := frzW zW A0 A1 A2 A3 A4 A5 A6 A7 A8 B0 B1 B2 B3 B4 B5 B6 B7 B8 ha0 ha1 ha2 ha3 ha4 ha5 ha6 ha7 ha8 hb0 hb1 hb2 hb3 hb4 hb5 hb6 hb7 hb8 []
              rw [List.append_nil] at fz
              obtain ⟨H1, hz, hz1, hz2⟩ := fz
              conv => whnf
              refine HC.borrow key hz (.cons _ _ _ _ (.agg _ _ (.cons _ _ _ _ hz1 (.cons _ _ _ _ hz2 .nil)) rfl) (.cons _ _ _ _ (.refl _) (.cons _ _ _ _ (.refl _) .nil))) rfl ?_
              clear hz hz1 hz2 key
              rintro r H0' ⟨_, _, rfl⟩
              refine ⟨rfl, ?_⟩
              rcases hmc with rfl | rfl | rfl | rfl | rfl | rfl | rfl | rfl
              · have hga : A1[d]? = some ga := by rw [hga0]; exact gt2_get rfl (by omega)
                have hgb : B1[d]? = some gb := by rw [hgb0]; exact gt2_get rfl (by omega)
                clear hga0 hgb0
                conv => whnf
                refine drS 28 (by decide +kernel) ?_
                conv => whnf
                refine ifb (fun c1 => ?_) (fun c1 => ?_)
                · conv => whnf
                  refine drS 9 (by decide +kernel) ?_
                  conv => whnf
                  refine ob (by decide) ?_
                  conv => whnf
                  refine ⟨.sl 5 0 9, rfl, ?_⟩
                  conv => whnf
                  refine ob (by decide) ?_
                  conv => whnf
                  refine ob (by omega) ?_
                  conv => whnf
                  refine ob (by simp; omega) ?_
                  conv => whnf
                  refine drS 9 (by decide +kernel) ?_
                  conv => whnf
                  refine ob (by decide) ?_
                  conv => whnf
                  refine ⟨.sl 14 0 9, rfl, ?_⟩
                  conv => whnf
                  refine ob (by decide) ?_
                  conv => whnf
                  refine ob (by omega) ?_
                  conv => whnf
                  refine ob (by simp; omega) ?_
                  conv => whnf
                  refine iv ((d + 1 : Nat) : Int) (by rw [w64 (by omega) (by omega)]; omega) ?_
                  conv => whnf
                  refine ⟨1 + 1 - (d + 1), _, stW zW ⟨[A0, A1, A2, A3, A4, A5, A6, A7, A8].set 1 (([A0, A1, A2, A3, A4, A5, A6, A7, A8].getD 1 []).set d x), [B0, B1, B2, B3, B4, B5, B6, B7, B8].set 1 (([B0, B1, B2, B3, B4, B5, B6, B7, B8].getD 1 []).set d y)⟩, by omega, ⟨_, .refl _, .inr ⟨[0, 1, 2, 3, 4, 5, 6, 7, 8, 9, 10, 11, 12, 13, 14, 15, 16, 17, 18, 19, 20, 21], ⟨?_, ?_, rfl, rfl⟩⟩⟩, d + 1, _, true, by omega, by omega, rfl, hun true (by simp [c1]), rfl, rfl⟩
                  · exact ⟨.refl _, rfl, .refl _, rfl, .refl _, rfl, .refl _, rfl, .refl _, rfl, .refl _, rfl, trivial⟩
                  · refine ⟨rfl, rfl, rfl, rfl, rfl, rfl, rfl, rfl, ?_⟩
                    refine subRow rfl ?_
                    refine subRow (by show Ob.row .leaf ((A1.map (D.int .i64)).set (0 + ((d : Int)).toNat) (.int .i64 x)) = _; rw [Nat.zero_add, Int.toNat_natCast, setRow]; rfl) ?_
                    refine subRow rfl ?_
                    refine subRow rfl ?_
                    refine subRow rfl ?_
                    refine subRow rfl ?_
                    refine subRow rfl ?_
                    refine subRow rfl ?_
                    refine subRow rfl ?_
                    refine subRow rfl ?_
                    refine subRow (by show Ob.row .leaf ((B1.map (D.int .i64)).set (0 + ((d : Int)).toNat) (.int .i64 y)) = _; rw [Nat.zero_add, Int.toNat_natCast, setRow]; rfl) ?_
                    refine subRow rfl ?_
                    refine subRow rfl ?_
                    refine subRow rfl ?_
                    refine subRow rfl ?_
                    refine subRow rfl ?_
                    refine subRow rfl ?_
                    refine subRow rfl ?_
                    trivial
                · conv => whnf
                  refine ob (by decide) ?_
                  conv => whnf
                  refine ob (by decide) ?_
                  conv => whnf
                  refine ⟨.sl 5 0 9, rfl, ?_⟩
                  conv => whnf
                  refine ob (by omega) ?_
                  conv => whnf
                  refine ⟨.int .i64 ga, by rw [List.getElem?_map]; simp only [Nat.zero_add, Int.toNat_natCast]; rw [hga]; rfl, ?_⟩
                  conv => whnf
                  refine ifb (fun c2 => ?_) (fun c2 => ?_)
                  · have c2 : x ≠ ga := by simpa using c2
                    conv => whnf
                    refine drS 9 (by decide +kernel) ?_
                    conv => whnf
                    refine ob (by decide) ?_
                    conv => whnf
                    refine ⟨.sl 5 0 9, rfl, ?_⟩
                    conv => whnf
                    refine ob (by decide) ?_
                    conv => whnf
                    refine ob (by omega) ?_
                    conv => whnf
                    refine ob (by simp; omega) ?_
                    conv => whnf
                    refine drS 9 (by decide +kernel) ?_
                    conv => whnf
                    refine ob (by decide) ?_
                    conv => whnf
                    refine ⟨.sl 14 0 9, rfl, ?_⟩
                    conv => whnf
                    refine ob (by decide) ?_
                    conv => whnf
                    refine ob (by omega) ?_
                    conv => whnf
                    refine ob (by simp; omega) ?_
                    conv => whnf
                    refine iv ((d + 1 : Nat) : Int) (by rw [w64 (by omega) (by omega)]; omega) ?_
                    conv => whnf
                    refine ⟨1 + 1 - (d + 1), _, stW zW ⟨[A0, A1, A2, A3, A4, A5, A6, A7, A8].set 1 (([A0, A1, A2, A3, A4, A5, A6, A7, A8].getD 1 []).set d x), [B0, B1, B2, B3, B4, B5, B6, B7, B8].set 1 (([B0, B1, B2, B3, B4, B5, B6, B7, B8].getD 1 []).set d y)⟩, by omega, ⟨_, .refl _, .inr ⟨[0, 1, 2, 3, 4, 5, 6, 7, 8, 9, 10, 11, 12, 13, 14, 15, 16, 17, 18, 19, 20, 21], ⟨?_, ?_, rfl, rfl⟩⟩⟩, d + 1, _, true, by omega, by omega, rfl, hun true (by simp [c2]), rfl, rfl⟩
                    · exact ⟨.refl _, rfl, .refl _, rfl, .refl _, rfl, .refl _, rfl, .refl _, rfl, .refl _, rfl, trivial⟩
                    · refine ⟨rfl, rfl, rfl, rfl, rfl, rfl, rfl, rfl, ?_⟩
                      refine subRow rfl ?_
                      refine subRow (by show Ob.row .leaf ((A1.map (D.int .i64)).set (0 + ((d : Int)).toNat) (.int .i64 x)) = _; rw [Nat.zero_add, Int.toNat_natCast, setRow]; rfl) ?_
                      refine subRow rfl ?_
                      refine subRow rfl ?_
                      refine subRow rfl ?_
                      refine subRow rfl ?_
                      refine subRow rfl ?_
                      refine subRow rfl ?_
                      refine subRow rfl ?_
                      refine subRow rfl ?_
                      refine subRow (by show Ob.row .leaf ((B1.map (D.int .i64)).set (0 + ((d : Int)).toNat) (.int .i64 y)) = _; rw [Nat.zero_add, Int.toNat_natCast, setRow]; rfl) ?_
                      refine subRow rfl ?_
                      refine subRow rfl ?_
                      refine subRow rfl ?_
                      refine subRow rfl ?_
                      refine subRow rfl ?_
                      refine subRow rfl ?_
                      refine subRow rfl ?_
                      trivial
                  · have c2 : x = ga := by simpa using c2
                    conv => whnf
                    refine ob (by decide) ?_
                    conv => whnf
                    refine ob (by decide) ?_
                    conv => whnf
                    refine ⟨.sl 14 0 9, rfl, ?_⟩
                    conv => whnf
                    refine ob (by omega) ?_
                    conv => whnf
                    refine ⟨.int .i64 gb, by rw [List.getElem?_map]; simp only [Nat.zero_add, Int.toNat_natCast]; rw [hgb]; rfl, ?_⟩
                    conv => whnf
                    have hb3 : (decide (y ≠ gb) = true) ↔ (c' = true ∨ ¬ (x = ga ∧ y = gb)) := by simp [c1, c2]
                    refine drS 9 (by decide +kernel) ?_
                    conv => whnf
                    refine ob (by decide) ?_
                    conv => whnf
                    refine ⟨.sl 5 0 9, rfl, ?_⟩
                    conv => whnf
                    refine ob (by decide) ?_
                    conv => whnf
                    refine ob (by omega) ?_
                    conv => whnf
                    refine ob (by simp; omega) ?_
                    conv => whnf
                    refine drS 9 (by decide +kernel) ?_
                    conv => whnf
                    refine ob (by decide) ?_
                    conv => whnf
                    refine ⟨.sl 14 0 9, rfl, ?_⟩
                    conv => whnf
                    refine ob (by decide) ?_
                    conv => whnf
                    refine ob (by omega) ?_
                    conv => whnf
                    refine ob (by simp; omega) ?_
                    conv => whnf
                    refine iv ((d + 1 : Nat) : Int) (by rw [w64 (by omega) (by omega)]; omega) ?_
                    conv => whnf
                    refine ⟨1 + 1 - (d + 1), _, stW zW ⟨[A0, A1, A2, A3, A4, A5, A6, A7, A8].set 1 (([A0, A1, A2, A3, A4, A5, A6, A7, A8].getD 1 []).set d x), [B0, B1, B2, B3, B4, B5, B6, B7, B8].set 1 (([B0, B1, B2, B3, B4, B5, B6, B7, B8].getD 1 []).set d y)⟩, by omega, ⟨_, .refl _, .inr ⟨[0, 1, 2, 3, 4, 5, 6, 7, 8, 9, 10, 11, 12, 13, 14, 15, 16, 17, 18, 19, 20, 21], ⟨?_, ?_, rfl, rfl⟩⟩⟩, d + 1, _, (!decide (y = gb)), by omega, by omega, rfl, hun (!decide (y = gb)) (by have := hb3; simpa using this), rfl, rfl⟩
                    · exact ⟨.refl _, rfl, .refl _, rfl, .refl _, rfl, .refl _, rfl, .refl _, rfl, .refl _, rfl, trivial⟩
                    · refine ⟨rfl, rfl, rfl, rfl, rfl, rfl, rfl, rfl, ?_⟩
                      refine subRow rfl ?_
                      refine subRow (by show Ob.row .leaf ((A1.map (D.int .i64)).set (0 + ((d : Int)).toNat) (.int .i64 x)) = _; rw [Nat.zero_add, Int.toNat_natCast, setRow]; rfl) ?_
                      refine subRow rfl ?_
                      refine subRow rfl ?_
                      refine subRow rfl ?_
                      refine subRow rfl ?_
                      refine subRow rfl ?_
                      refine subRow rfl ?_
                      refine subRow rfl ?_
                      refine subRow rfl ?_
                      refine subRow (by show Ob.row .leaf ((B1.map (D.int .i64)).set (0 + ((d : Int)).toNat) (.int .i64 y)) = _; rw [Nat.zero_add, Int.toNat_natCast, setRow]; rfl) ?_
                      refine subRow rfl ?_
                      refine subRow rfl ?_
                      refine subRow rfl ?_
                      refine subRow rfl ?_
                      refine subRow rfl ?_
                      refine subRow rfl ?_
                      refine subRow rfl ?_
                      trivial
              · have hga : A2[d]? = some ga := by rw [hga0]; exact gt2_get rfl (by omega)
                have hgb : B2[d]? = some gb := by rw [hgb0]; exact gt2_get rfl (by omega)
                clear hga0 hgb0
                conv => whnf
                refine drS 28 (by decide +kernel) ?_
                conv => whnf
                refine ifb (fun c1 => ?_) (fun c1 => ?_)
                · conv => whnf
                  refine drS 9 (by decide +kernel) ?_
                  conv => whnf
                  refine ob (by decide) ?_
                  conv => whnf
                  refine ⟨.sl 6 0 9, rfl, ?_⟩
                  conv => whnf
                  refine ob (by decide) ?_
                  conv => whnf
                  refine ob (by omega) ?_
                  conv => whnf
                  refine ob (by simp; omega) ?_
                  conv => whnf
                  refine drS 9 (by decide +kernel) ?_
                  conv => whnf
                  refine ob (by decide) ?_
                  conv => whnf
                  refine ⟨.sl 15 0 9, rfl, ?_⟩
                  conv => whnf
                  refine ob (by decide) ?_
                  conv => whnf
                  refine ob (by omega) ?_
                  conv => whnf
                  refine ob (by simp; omega) ?_
                  conv => whnf
                  refine iv ((d + 1 : Nat) : Int) (by rw [w64 (by omega) (by omega)]; omega) ?_
                  conv => whnf
                  refine ⟨2 + 1 - (d + 1), _, stW zW ⟨[A0, A1, A2, A3, A4, A5, A6, A7, A8].set 2 (([A0, A1, A2, A3, A4, A5, A6, A7, A8].getD 2 []).set d x), [B0, B1, B2, B3, B4, B5, B6, B7, B8].set 2 (([B0, B1, B2, B3, B4, B5, B6, B7, B8].getD 2 []).set d y)⟩, by omega, ⟨_, .refl _, .inr ⟨[0, 1, 2, 3, 4, 5, 6, 7, 8, 9, 10, 11, 12, 13, 14, 15, 16, 17, 18, 19, 20, 21], ⟨?_, ?_, rfl, rfl⟩⟩⟩, d + 1, _, true, by omega, by omega, rfl, hun true (by simp [c1]), rfl, rfl⟩
                  · exact ⟨.refl _, rfl, .refl _, rfl, .refl _, rfl, .refl _, rfl, .refl _, rfl, .refl _, rfl, trivial⟩
                  · refine ⟨rfl, rfl, rfl, rfl, rfl, rfl, rfl, rfl, ?_⟩
                    refine subRow rfl ?_
                    refine subRow rfl ?_
                    refine subRow (by show Ob.row .leaf ((A2.map (D.int .i64)).set (0 + ((d : Int)).toNat) (.int .i64 x)) = _; rw [Nat.zero_add, Int.toNat_natCast, setRow]; rfl) ?_
                    refine subRow rfl ?_
                    refine subRow rfl ?_
                    refine subRow rfl ?_
                    refine subRow rfl ?_
                    refine subRow rfl ?_
                    refine subRow rfl ?_
                    refine subRow rfl ?_
                    refine subRow rfl ?_
                    refine subRow (by show Ob.row .leaf ((B2.map (D.int .i64)).set (0 + ((d : Int)).toNat) (.int .i64 y)) = _; rw [Nat.zero_add, Int.toNat_natCast, setRow]; rfl) ?_
                    refine subRow rfl ?_
                    refine subRow rfl ?_
                    refine subRow rfl ?_
                    refine subRow rfl ?_
                    refine subRow rfl ?_
                    refine subRow rfl ?_
                    trivial
                · conv => whnf
                  refine ob (by decide) ?_
                  conv => whnf
                  refine ob (by decide) ?_
                  conv => whnf
                  refine ⟨.sl 6 0 9, rfl, ?_⟩
                  conv => whnf
                  refine ob (by omega) ?_
                  conv => whnf
                  refine ⟨.int .i64 ga, by rw [List.getElem?_map]; simp only [Nat.zero_add, Int.toNat_natCast]; rw [hga]; rfl, ?_⟩
                  conv => whnf
                  refine ifb (fun c2 => ?_) (fun c2 => ?_)
                  · have c2 : x ≠ ga := by simpa using c2
                    conv => whnf
                    refine drS 9 (by decide +kernel) ?_
                    conv => whnf
                    refine ob (by decide) ?_
                    conv => whnf
                    refine ⟨.sl 6 0 9, rfl, ?_⟩
                    conv => whnf
                    refine ob (by decide) ?_
                    conv => whnf
                    refine ob (by omega) ?_
                    conv => whnf
                    refine ob (by simp; omega) ?_
                    conv => whnf
                    refine drS 9 (by decide +kernel) ?_
                    conv => whnf
                    refine ob (by decide) ?_
                    conv => whnf
                    refine ⟨.sl 15 0 9, rfl, ?_⟩
                    conv => whnf
                    refine ob (by decide) ?_
                    conv => whnf
                    refine ob (by omega) ?_
                    conv => whnf
                    refine ob (by simp; omega) ?_
                    conv => whnf
                    refine iv ((d + 1 : Nat) : Int) (by rw [w64 (by omega) (by omega)]; omega) ?_
                    conv => whnf
                    refine ⟨2 + 1 - (d + 1), _, stW zW ⟨[A0, A1, A2, A3, A4, A5, A6, A7, A8].set 2 (([A0, A1, A2, A3, A4, A5, A6, A7, A8].getD 2 []).set d x), [B0, B1, B2, B3, B4, B5, B6, B7, B8].set 2 (([B0, B1, B2, B3, B4, B5, B6, B7, B8].getD 2 []).set d y)⟩, by omega, ⟨_, .refl _, .inr ⟨[0, 1, 2, 3, 4, 5, 6, 7, 8, 9, 10, 11, 12, 13, 14, 15, 16, 17, 18, 19, 20, 21], ⟨?_, ?_, rfl, rfl⟩⟩⟩, d + 1, _, true, by omega, by omega, rfl, hun true (by simp [c2]), rfl, rfl⟩
                    · exact ⟨.refl _, rfl, .refl _, rfl, .refl _, rfl, .refl _, rfl, .refl _, rfl, .refl _, rfl, trivial⟩
                    · refine ⟨rfl, rfl, rfl, rfl, rfl, rfl, rfl, rfl, ?_⟩
                      refine subRow rfl ?_
                      refine subRow rfl ?_
                      refine subRow (by show Ob.row .leaf ((A2.map (D.int .i64)).set (0 + ((d : Int)).toNat) (.int .i64 x)) = _; rw [Nat.zero_add, Int.toNat_natCast, setRow]; rfl) ?_
                      refine subRow rfl ?_
                      refine subRow rfl ?_
                      refine subRow rfl ?_
                      refine subRow rfl ?_
                      refine subRow rfl ?_
                      refine subRow rfl ?_
                      refine subRow rfl ?_
                      refine subRow rfl ?_
                      refine subRow (by show Ob.row .leaf ((B2.map (D.int .i64)).set (0 + ((d : Int)).toNat) (.int .i64 y)) = _; rw [Nat.zero_add, Int.toNat_natCast, setRow]; rfl) ?_
                      refine subRow rfl ?_
                      refine subRow rfl ?_
                      refine subRow rfl ?_
                      refine subRow rfl ?_
                      refine subRow rfl ?_
                      refine subRow rfl ?_
                      trivial
                  · have c2 : x = ga := by simpa using c2
                    conv => whnf
                    refine ob (by decide) ?_
                    conv => whnf
                    refine ob (by decide) ?_
                    conv => whnf
                    refine ⟨.sl 15 0 9, rfl, ?_⟩
                    conv => whnf
                    refine ob (by omega) ?_
                    conv => whnf
                    refine ⟨.int .i64 gb, by rw [List.getElem?_map]; simp only [Nat.zero_add, Int.toNat_natCast]; rw [hgb]; rfl, ?_⟩
                    conv => whnf
                    have hb3 : (decide (y ≠ gb) = true) ↔ (c' = true ∨ ¬ (x = ga ∧ y = gb)) := by simp [c1, c2]
                    refine drS 9 (by decide +kernel) ?_
                    conv => whnf
                    refine ob (by decide) ?_
                    conv => whnf
                    refine ⟨.sl 6 0 9, rfl, ?_⟩
                    conv => whnf
                    refine ob (by decide) ?_
                    conv => whnf
                    refine ob (by omega) ?_
                    conv => whnf
                    refine ob (by simp; omega) ?_
                    conv => whnf
                    refine drS 9 (by decide +kernel) ?_
                    conv => whnf
                    refine ob (by decide) ?_
                    conv => whnf
                    refine ⟨.sl 15 0 9, rfl, ?_⟩
                    conv => whnf
                    refine ob (by decide) ?_
                    conv => whnf
                    refine ob (by omega) ?_
                    conv => whnf
                    refine ob (by simp; omega) ?_
                    conv => whnf
                    refine iv ((d + 1 : Nat) : Int) (by rw [w64 (by omega) (by omega)]; omega) ?_
                    conv => whnf
                    refine ⟨2 + 1 - (d + 1), _, stW zW ⟨[A0, A1, A2, A3, A4, A5, A6, A7, A8].set 2 (([A0, A1, A2, A3, A4, A5, A6, A7, A8].getD 2 []).set d x), [B0, B1, B2, B3, B4, B5, B6, B7, B8].set 2 (([B0, B1, B2, B3, B4, B5, B6, B7, B8].getD 2 []).set d y)⟩, by omega, ⟨_, .refl _, .inr ⟨[0, 1, 2, 3, 4, 5, 6, 7, 8, 9, 10, 11, 12, 13, 14, 15, 16, 17, 18, 19, 20, 21], ⟨?_, ?_, rfl, rfl⟩⟩⟩, d + 1, _, (!decide (y = gb)), by omega, by omega, rfl, hun (!decide (y = gb)) (by have := hb3; simpa using this), rfl, rfl⟩
                    · exact ⟨.refl _, rfl, .refl _, rfl, .refl _, rfl, .refl _, rfl, .refl _, rfl, .refl _, rfl, trivial⟩
                    · refine ⟨rfl, rfl, rfl, rfl, rfl, rfl, rfl, rfl, ?_⟩
                      refine subRow rfl ?_
                      refine subRow rfl ?_
                      refine subRow (by show Ob.row .leaf ((A2.map (D.int .i64)).set (0 + ((d : Int)).toNat) (.int .i64 x)) = _; rw [Nat.zero_add, Int.toNat_natCast, setRow]; rfl) ?_
                      refine subRow rfl ?_
                      refine subRow rfl ?_
                      refine subRow rfl ?_
                      refine subRow rfl ?_
                      refine subRow rfl ?_
                      refine subRow rfl ?_
                      refine subRow rfl ?_
                      refine subRow rfl ?_
                      refine subRow (by show Ob.row .leaf ((B2.map (D.int .i64)).set (0 + ((d : Int)).toNat) (.int .i64 y)) = _; rw [Nat.zero_add, Int.toNat_natCast, setRow]; rfl) ?_
                      refine subRow rfl ?_
                      refine subRow rfl ?_
                      refine subRow rfl ?_
                      refine subRow rfl ?_
                      refine subRow rfl ?_
                      refine subRow rfl ?_
                      trivial
              · have hga : A3[d]? = some ga := by rw [hga0]; exact gt2_get rfl (by omega)
                have hgb : B3[d]? = some gb := by rw [hgb0]; exact gt2_get rfl (by omega)
                clear hga0 hgb0
                conv => whnf
                refine drS 28 (by decide +kernel) ?_
                conv => whnf
                refine ifb (fun c1 => ?_) (fun c1 => ?_)
                · conv => whnf
                  refine drS 9 (by decide +kernel) ?_
                  conv => whnf
                  refine ob (by decide) ?_
                  conv => whnf
                  refine ⟨.sl 7 0 9, rfl, ?_⟩
                  conv => whnf
                  refine ob (by decide) ?_
                  conv => whnf
                  refine ob (by omega) ?_
                  conv => whnf
                  refine ob (by simp; omega) ?_
                  conv => whnf
                  refine drS 9 (by decide +kernel) ?_
                  conv => whnf
                  refine ob (by decide) ?_
                  conv => whnf
                  refine ⟨.sl 16 0 9, rfl, ?_⟩
                  conv => whnf
                  refine ob (by decide) ?_
                  conv => whnf
                  refine ob (by omega) ?_
                  conv => whnf
                  refine ob (by simp; omega) ?_
                  conv => whnf
                  refine iv ((d + 1 : Nat) : Int) (by rw [w64 (by omega) (by omega)]; omega) ?_
                  conv => whnf
                  refine ⟨3 + 1 - (d + 1), _, stW zW ⟨[A0, A1, A2, A3, A4, A5, A6, A7, A8].set 3 (([A0, A1, A2, A3, A4, A5, A6, A7, A8].getD 3 []).set d x), [B0, B1, B2, B3, B4, B5, B6, B7, B8].set 3 (([B0, B1, B2, B3, B4, B5, B6, B7, B8].getD 3 []).set d y)⟩, by omega, ⟨_, .refl _, .inr ⟨[0, 1, 2, 3, 4, 5, 6, 7, 8, 9, 10, 11, 12, 13, 14, 15, 16, 17, 18, 19, 20, 21], ⟨?_, ?_, rfl, rfl⟩⟩⟩, d + 1, _, true, by omega, by omega, rfl, hun true (by simp [c1]), rfl, rfl⟩
                  · exact ⟨.refl _, rfl, .refl _, rfl, .refl _, rfl, .refl _, rfl, .refl _, rfl, .refl _, rfl, trivial⟩
                  · refine ⟨rfl, rfl, rfl, rfl, rfl, rfl, rfl, rfl, ?_⟩
                    refine subRow rfl ?_
                    refine subRow rfl ?_
                    refine subRow rfl ?_
                    refine subRow (by show Ob.row .leaf ((A3.map (D.int .i64)).set (0 + ((d : Int)).toNat) (.int .i64 x)) = _; rw [Nat.zero_add, Int.toNat_natCast, setRow]; rfl) ?_
                    refine subRow rfl ?_
                    refine subRow rfl ?_
                    refine subRow rfl ?_
                    refine subRow rfl ?_
                    refine subRow rfl ?_
                    refine subRow rfl ?_
                    refine subRow rfl ?_
                    refine subRow rfl ?_
                    refine subRow (by show Ob.row .leaf ((B3.map (D.int .i64)).set (0 + ((d : Int)).toNat) (.int .i64 y)) = _; rw [Nat.zero_add, Int.toNat_natCast, setRow]; rfl) ?_
                    refine subRow rfl ?_
                    refine subRow rfl ?_
                    refine subRow rfl ?_
                    refine subRow rfl ?_
                    refine subRow rfl ?_
                    trivial
                · conv => whnf
                  refine ob (by decide) ?_
                  conv => whnf
                  refine ob (by decide) ?_
                  conv => whnf
                  refine ⟨.sl 7 0 9, rfl, ?_⟩
                  conv => whnf
                  refine ob (by omega) ?_
                  conv => whnf
                  refine ⟨.int .i64 ga, by rw [List.getElem?_map]; simp only [Nat.zero_add, Int.toNat_natCast]; rw [hga]; rfl, ?_⟩
                  conv => whnf
                  refine ifb (fun c2 => ?_) (fun c2 => ?_)
                  · have c2 : x ≠ ga := by simpa using c2
                    conv => whnf
                    refine drS 9 (by decide +kernel) ?_
                    conv => whnf
                    refine ob (by decide) ?_
                    conv => whnf
                    refine ⟨.sl 7 0 9, rfl, ?_⟩
                    conv => whnf
                    refine ob (by decide) ?_
                    conv => whnf
                    refine ob (by omega) ?_
                    conv => whnf
                    refine ob (by simp; omega) ?_
                    conv => whnf
                    refine drS 9 (by decide +kernel) ?_
                    conv => whnf
                    refine ob (by decide) ?_
                    conv => whnf
                    refine ⟨.sl 16 0 9, rfl, ?_⟩
                    conv => whnf
                    refine ob (by decide) ?_
                    conv => whnf
                    refine ob (by omega) ?_
                    conv => whnf
                    refine ob (by simp; omega) ?_
                    conv => whnf
                    refine iv ((d + 1 : Nat) : Int) (by rw [w64 (by omega) (by omega)]; omega) ?_
                    conv => whnf
                    refine ⟨3 + 1 - (d + 1), _, stW zW ⟨[A0, A1, A2, A3, A4, A5, A6, A7, A8].set 3 (([A0, A1, A2, A3, A4, A5, A6, A7, A8].getD 3 []).set d x), [B0, B1, B2, B3, B4, B5, B6, B7, B8].set 3 (([B0, B1, B2, B3, B4, B5, B6, B7, B8].getD 3 []).set d y)⟩, by omega, ⟨_, .refl _, .inr ⟨[0, 1, 2, 3, 4, 5, 6, 7, 8, 9, 10, 11, 12, 13, 14, 15, 16, 17, 18, 19, 20, 21], ⟨?_, ?_, rfl, rfl⟩⟩⟩, d + 1, _, true, by omega, by omega, rfl, hun true (by simp [c2]), rfl, rfl⟩
                    · exact ⟨.refl _, rfl, .refl _, rfl, .refl _, rfl, .refl _, rfl, .refl _, rfl, .refl _, rfl, trivial⟩
                    · refine ⟨rfl, rfl, rfl, rfl, rfl, rfl, rfl, rfl, ?_⟩
                      refine subRow rfl ?_
                      refine subRow rfl ?_
                      refine subRow rfl ?_
                      refine subRow (by show Ob.row .leaf ((A3.map (D.int .i64)).set (0 + ((d : Int)).toNat) (.int .i64 x)) = _; rw [Nat.zero_add, Int.toNat_natCast, setRow]; rfl) ?_
                      refine subRow rfl ?_
                      refine subRow rfl ?_
                      refine subRow rfl ?_
                      refine subRow rfl ?_
                      refine subRow rfl ?_
                      refine subRow rfl ?_
                      refine subRow rfl ?_
                      refine subRow rfl ?_
                      refine subRow (by show Ob.row .leaf ((B3.map (D.int .i64)).set (0 + ((d : Int)).toNat) (.int .i64 y)) = _; rw [Nat.zero_add, Int.toNat_natCast, setRow]; rfl) ?_
                      refine subRow rfl ?_
                      refine subRow rfl ?_
                      refine subRow rfl ?_
                      refine subRow rfl ?_
                      refine subRow rfl ?_
                      trivial
                  · have c2 : x = ga := by simpa using c2
                    conv => whnf
                    refine ob (by decide) ?_
                    conv => whnf
                    refine ob (by decide) ?_
                    conv => whnf
                    refine ⟨.sl 16 0 9, rfl, ?_⟩
                    conv => whnf
                    refine ob (by omega) ?_
                    conv => whnf
                    refine ⟨.int .i64 gb, by rw [List.getElem?_map]; simp only [Nat.zero_add, Int.toNat_natCast]; rw [hgb]; rfl, ?_⟩
                    conv => whnf
                    have hb3 : (decide (y ≠ gb) = true) ↔ (c' = true ∨ ¬ (x = ga ∧ y = gb)) := by simp [c1, c2]
                    refine drS 9 (by decide +kernel) ?_
                    conv => whnf
                    refine ob (by decide) ?_
                    conv => whnf
                    refine ⟨.sl 7 0 9, rfl, ?_⟩
                    conv => whnf
                    refine ob (by decide) ?_
                    conv => whnf
                    refine ob (by omega) ?_
                    conv => whnf
                    refine ob (by simp; omega) ?_
                    conv => whnf
                    refine drS 9 (by decide +kernel) ?_
                    conv => whnf
                    refine ob (by decide) ?_
                    conv => whnf
                    refine ⟨.sl 16 0 9, rfl, ?_⟩
                    conv => whnf
                    refine ob (by decide) ?_
                    conv => whnf
                    refine ob (by omega) ?_
                    conv => whnf
                    refine ob (by simp; omega) ?_
                    conv => whnf
                    refine iv ((d + 1 : Nat) : Int) (by rw [w64 (by omega) (by omega)]; omega) ?_
                    conv => whnf
                    refine ⟨3 + 1 - (d + 1), _, stW zW ⟨[A0, A1, A2, A3, A4, A5, A6, A7, A8].set 3 (([A0, A1, A2, A3, A4, A5, A6, A7, A8].getD 3 []).set d x), [B0, B1, B2, B3, B4, B5, B6, B7, B8].set 3 (([B0, B1, B2, B3, B4, B5, B6, B7, B8].getD 3 []).set d y)⟩, by omega, ⟨_, .refl _, .inr ⟨[0, 1, 2, 3, 4, 5, 6, 7, 8, 9, 10, 11, 12, 13, 14, 15, 16, 17, 18, 19, 20, 21], ⟨?_, ?_, rfl, rfl⟩⟩⟩, d + 1, _, (!decide (y = gb)), by omega, by omega, rfl, hun (!decide (y = gb)) (by have := hb3; simpa using this), rfl, rfl⟩
                    · exact ⟨.refl _, rfl, .refl _, rfl, .refl _, rfl, .refl _, rfl, .refl _, rfl, .refl _, rfl, trivial⟩
                    · refine ⟨rfl, rfl, rfl, rfl, rfl, rfl, rfl, rfl, ?_⟩
                      refine subRow rfl ?_
                      refine subRow rfl ?_
                      refine subRow rfl ?_
                      refine subRow (by show Ob.row .leaf ((A3.map (D.int .i64)).set (0 + ((d : Int)).toNat) (.int .i64 x)) = _; rw [Nat.zero_add, Int.toNat_natCast, setRow]; rfl) ?_
                      refine subRow rfl ?_
                      refine subRow rfl ?_
                      refine subRow rfl ?_
                      refine subRow rfl ?_
                      refine subRow rfl ?_
                      refine subRow rfl ?_
                      refine subRow rfl ?_
                      refine subRow rfl ?_
                      refine subRow (by show Ob.row .leaf ((B3.map (D.int .i64)).set (0 + ((d : Int)).toNat) (.int .i64 y)) = _; rw [Nat.zero_add, Int.toNat_natCast, setRow]; rfl) ?_
                      refine subRow rfl ?_
                      refine subRow rfl ?_
                      refine subRow rfl ?_
                      refine subRow rfl ?_
                      refine subRow rfl ?_
                      trivial
              · have hga : A4[d]? = some ga := by rw [hga0]; exact gt2_get rfl (by omega)
                have hgb : B4[d]? = some gb := by rw [hgb0]; exact gt2_get rfl (by omega)
                clear hga0 hgb0
                conv => whnf
                refine drS 28 (by decide +kernel) ?_
                conv => whnf
                refine ifb (fun c1 => ?_) (fun c1 => ?_)
                · conv => whnf
                  refine drS 9 (by decide +kernel) ?_
                  conv => whnf
                  refine ob (by decide) ?_
                  conv => whnf
                  refine ⟨.sl 8 0 9, rfl, ?_⟩
                  conv => whnf
                  refine ob (by decide) ?_
                  conv => whnf
                  refine ob (by omega) ?_
                  conv => whnf
                  refine ob (by simp; omega) ?_
                  conv => whnf
                  refine drS 9 (by decide +kernel) ?_
                  conv => whnf
                  refine ob (by decide) ?_
                  conv => whnf
                  refine ⟨.sl 17 0 9, rfl, ?_⟩
                  conv => whnf
                  refine ob (by decide) ?_
                  conv => whnf
                  refine ob (by omega) ?_
                  conv => whnf
                  refine ob (by simp; omega) ?_
                  conv => whnf
                  refine iv ((d + 1 : Nat) : Int) (by rw [w64 (by omega) (by omega)]; omega) ?_
                  conv => whnf
                  refine ⟨4 + 1 - (d + 1), _, stW zW ⟨[A0, A1, A2, A3, A4, A5, A6, A7, A8].set 4 (([A0, A1, A2, A3, A4, A5, A6, A7, A8].getD 4 []).set d x), [B0, B1, B2, B3, B4, B5, B6, B7, B8].set 4 (([B0, B1, B2, B3, B4, B5, B6, B7, B8].getD 4 []).set d y)⟩, by omega, ⟨_, .refl _, .inr ⟨[0, 1, 2, 3, 4, 5, 6, 7, 8, 9, 10, 11, 12, 13, 14, 15, 16, 17, 18, 19, 20, 21], ⟨?_, ?_, rfl, rfl⟩⟩⟩, d + 1, _, true, by omega, by omega, rfl, hun true (by simp [c1]), rfl, rfl⟩
                  · exact ⟨.refl _, rfl, .refl _, rfl, .refl _, rfl, .refl _, rfl, .refl _, rfl, .refl _, rfl, trivial⟩
                  · refine ⟨rfl, rfl, rfl, rfl, rfl, rfl, rfl, rfl, ?_⟩
                    refine subRow rfl ?_
                    refine subRow rfl ?_
                    refine subRow rfl ?_
                    refine subRow rfl ?_
                    refine subRow (by show Ob.row .leaf ((A4.map (D.int .i64)).set (0 + ((d : Int)).toNat) (.int .i64 x)) = _; rw [Nat.zero_add, Int.toNat_natCast, setRow]; rfl) ?_
                    refine subRow rfl ?_
                    refine subRow rfl ?_
                    refine subRow rfl ?_
                    refine subRow rfl ?_
                    refine subRow rfl ?_
                    refine subRow rfl ?_
                    refine subRow rfl ?_
                    refine subRow rfl ?_
                    refine subRow (by show Ob.row .leaf ((B4.map (D.int .i64)).set (0 + ((d : Int)).toNat) (.int .i64 y)) = _; rw [Nat.zero_add, Int.toNat_natCast, setRow]; rfl) ?_
                    refine subRow rfl ?_
                    refine subRow rfl ?_
                    refine subRow rfl ?_
                    refine subRow rfl ?_
                    trivial
                · conv => whnf
                  refine ob (by decide) ?_
                  conv => whnf
                  refine ob (by decide) ?_
                  conv => whnf
                  refine ⟨.sl 8 0 9, rfl, ?_⟩
                  conv => whnf
                  refine ob (by omega) ?_
                  conv => whnf
                  refine ⟨.int .i64 ga, by rw [List.getElem?_map]; simp only [Nat.zero_add, Int.toNat_natCast]; rw [hga]; rfl, ?_⟩
                  conv => whnf
                  refine ifb (fun c2 => ?_) (fun c2 => ?_)
                  · have c2 : x ≠ ga := by simpa using c2
                    conv => whnf
                    refine drS 9 (by decide +kernel) ?_
                    conv => whnf
                    refine ob (by decide) ?_
                    conv => whnf
                    refine ⟨.sl 8 0 9, rfl, ?_⟩
                    conv => whnf
                    refine ob (by decide) ?_
                    conv => whnf
                    refine ob (by omega) ?_
                    conv => whnf
                    refine ob (by simp; omega) ?_
                    conv => whnf
                    refine drS 9 (by decide +kernel) ?_
                    conv => whnf
                    refine ob (by decide) ?_
                    conv => whnf
                    refine ⟨.sl 17 0 9, rfl, ?_⟩
                    conv => whnf
                    refine ob (by decide) ?_
                    conv => whnf
                    refine ob (by omega) ?_
                    conv => whnf
                    refine ob (by simp; omega) ?_
                    conv => whnf
                    refine iv ((d + 1 : Nat) : Int) (by rw [w64 (by omega) (by omega)]; omega) ?_
                    conv => whnf
                    refine ⟨4 + 1 - (d + 1), _, stW zW ⟨[A0, A1, A2, A3, A4, A5, A6, A7, A8].set 4 (([A0, A1, A2, A3, A4, A5, A6, A7, A8].getD 4 []).set d x), [B0, B1, B2, B3, B4, B5, B6, B7, B8].set 4 (([B0, B1, B2, B3, B4, B5, B6, B7, B8].getD 4 []).set d y)⟩, by omega, ⟨_, .refl _, .inr ⟨[0, 1, 2, 3, 4, 5, 6, 7, 8, 9, 10, 11, 12, 13, 14, 15, 16, 17, 18, 19, 20, 21], ⟨?_, ?_, rfl, rfl⟩⟩⟩, d + 1, _, true, by omega, by omega, rfl, hun true (by simp [c2]), rfl, rfl⟩
                    · exact ⟨.refl _, rfl, .refl _, rfl, .refl _, rfl, .refl _, rfl, .refl _, rfl, .refl _, rfl, trivial⟩
                    · refine ⟨rfl, rfl, rfl, rfl, rfl, rfl, rfl, rfl, ?_⟩
                      refine subRow rfl ?_
                      refine subRow rfl ?_
                      refine subRow rfl ?_
                      refine subRow rfl ?_
                      refine subRow (by show Ob.row .leaf ((A4.map (D.int .i64)).set (0 + ((d : Int)).toNat) (.int .i64 x)) = _; rw [Nat.zero_add, Int.toNat_natCast, setRow]; rfl) ?_
                      refine subRow rfl ?_
                      refine subRow rfl ?_
                      refine subRow rfl ?_
                      refine subRow rfl ?_
                      refine subRow rfl ?_
                      refine subRow rfl ?_
                      refine subRow rfl ?_
                      refine subRow rfl ?_
                      refine subRow (by show Ob.row .leaf ((B4.map (D.int .i64)).set (0 + ((d : Int)).toNat) (.int .i64 y)) = _; rw [Nat.zero_add, Int.toNat_natCast, setRow]; rfl) ?_
                      refine subRow rfl ?_
                      refine subRow rfl ?_
                      refine subRow rfl ?_
                      refine subRow rfl ?_
                      trivial
                  · have c2 : x = ga := by simpa using c2
                    conv => whnf
                    refine ob (by decide) ?_
                    conv => whnf
                    refine ob (by decide) ?_
                    conv => whnf
                    refine ⟨.sl 17 0 9, rfl, ?_⟩
                    conv => whnf
                    refine ob (by omega) ?_
                    conv => whnf
                    refine ⟨.int .i64 gb, by rw [List.getElem?_map]; simp only [Nat.zero_add, Int.toNat_natCast]; rw [hgb]; rfl, ?_⟩
                    conv => whnf
                    have hb3 : (decide (y ≠ gb) = true) ↔ (c' = true ∨ ¬ (x = ga ∧ y = gb)) := by simp [c1, c2]
                    refine drS 9 (by decide +kernel) ?_
                    conv => whnf
                    refine ob (by decide) ?_
                    conv => whnf
                    refine ⟨.sl 8 0 9, rfl, ?_⟩
                    conv => whnf
                    refine ob (by decide) ?_
                    conv => whnf
                    refine ob (by omega) ?_
                    conv => whnf
                    refine ob (by simp; omega) ?_
                    conv => whnf
                    refine drS 9 (by decide +kernel) ?_
                    conv => whnf
                    refine ob (by decide) ?_
                    conv => whnf
                    refine ⟨.sl 17 0 9, rfl, ?_⟩
                    conv => whnf
                    refine ob (by decide) ?_
                    conv => whnf
                    refine ob (by omega) ?_
                    conv => whnf
                    refine ob (by simp; omega) ?_
                    conv => whnf
                    refine iv ((d + 1 : Nat) : Int) (by rw [w64 (by omega) (by omega)]; omega) ?_
                    conv => whnf
                    refine ⟨4 + 1 - (d + 1), _, stW zW ⟨[A0, A1, A2, A3, A4, A5, A6, A7, A8].set 4 (([A0, A1, A2, A3, A4, A5, A6, A7, A8].getD 4 []).set d x), [B0, B1, B2, B3, B4, B5, B6, B7, B8].set 4 (([B0, B1, B2, B3, B4, B5, B6, B7, B8].getD 4 []).set d y)⟩, by omega, ⟨_, .refl _, .inr ⟨[0, 1, 2, 3, 4, 5, 6, 7, 8, 9, 10, 11, 12, 13, 14, 15, 16, 17, 18, 19, 20, 21], ⟨?_, ?_, rfl, rfl⟩⟩⟩, d + 1, _, (!decide (y = gb)), by omega, by omega, rfl, hun (!decide (y = gb)) (by have := hb3; simpa using this), rfl, rfl⟩
                    · exact ⟨.refl _, rfl, .refl _, rfl, .refl _, rfl, .refl _, rfl, .refl _, rfl, .refl _, rfl, trivial⟩
                    · refine ⟨rfl, rfl, rfl, rfl, rfl, rfl, rfl, rfl, ?_⟩
                      refine subRow rfl ?_
                      refine subRow rfl ?_
                      refine subRow rfl ?_
                      refine subRow rfl ?_
                      refine subRow (by show Ob.row .leaf ((A4.map (D.int .i64)).set (0 + ((d : Int)).toNat) (.int .i64 x)) = _; rw [Nat.zero_add, Int.toNat_natCast, setRow]; rfl) ?_
                      refine subRow rfl ?_
                      refine subRow rfl ?_
                      refine subRow rfl ?_
                      refine subRow rfl ?_
                      refine subRow rfl ?_
                      refine subRow rfl ?_
                      refine subRow rfl ?_
                      refine subRow rfl ?_
                      refine subRow (by show Ob.row .leaf ((B4.map (D.int .i64)).set (0 + ((d : Int)).toNat) (.int .i64 y)) = _; rw [Nat.zero_add, Int.toNat_natCast, setRow]; rfl) ?_
                      refine subRow rfl ?_
                      refine subRow rfl ?_
                      refine subRow rfl ?_
                      refine subRow rfl ?_
                      trivial
              · have hga : A5[d]? = some ga := by rw [hga0]; exact gt2_get rfl (by omega)
                have hgb : B5[d]? = some gb := by rw [hgb0]; exact gt2_get rfl (by omega)
                clear hga0 hgb0
                conv => whnf
                refine drS 28 (by decide +kernel) ?_
                conv => whnf
                refine ifb (fun c1 => ?_) (fun c1 => ?_)
                · conv => whnf
                  refine drS 9 (by decide +kernel) ?_
                  conv => whnf
                  refine ob (by decide) ?_
                  conv => whnf
                  refine ⟨.sl 9 0 9, rfl, ?_⟩
                  conv => whnf
                  refine ob (by decide) ?_
                  conv => whnf
                  refine ob (by omega) ?_
                  conv => whnf
                  refine ob (by simp; omega) ?_
                  conv => whnf
                  refine drS 9 (by decide +kernel) ?_
                  conv => whnf
                  refine ob (by decide) ?_
                  conv => whnf
                  refine ⟨.sl 18 0 9, rfl, ?_⟩
                  conv => whnf
                  refine ob (by decide) ?_
                  conv => whnf
                  refine ob (by omega) ?_
                  conv => whnf
                  refine ob (by simp; omega) ?_
                  conv => whnf
                  refine iv ((d + 1 : Nat) : Int) (by rw [w64 (by omega) (by omega)]; omega) ?_
                  conv => whnf
                  refine ⟨5 + 1 - (d + 1), _, stW zW ⟨[A0, A1, A2, A3, A4, A5, A6, A7, A8].set 5 (([A0, A1, A2, A3, A4, A5, A6, A7, A8].getD 5 []).set d x), [B0, B1, B2, B3, B4, B5, B6, B7, B8].set 5 (([B0, B1, B2, B3, B4, B5, B6, B7, B8].getD 5 []).set d y)⟩, by omega, ⟨_, .refl _, .inr ⟨[0, 1, 2, 3, 4, 5, 6, 7, 8, 9, 10, 11, 12, 13, 14, 15, 16, 17, 18, 19, 20, 21], ⟨?_, ?_, rfl, rfl⟩⟩⟩, d + 1, _, true, by omega, by omega, rfl, hun true (by simp [c1]), rfl, rfl⟩
                  · exact ⟨.refl _, rfl, .refl _, rfl, .refl _, rfl, .refl _, rfl, .refl _, rfl, .refl _, rfl, trivial⟩
                  · refine ⟨rfl, rfl, rfl, rfl, rfl, rfl, rfl, rfl, ?_⟩
                    refine subRow rfl ?_
                    refine subRow rfl ?_
                    refine subRow rfl ?_
                    refine subRow rfl ?_
                    refine subRow rfl ?_
                    refine subRow (by show Ob.row .leaf ((A5.map (D.int .i64)).set (0 + ((d : Int)).toNat) (.int .i64 x)) = _; rw [Nat.zero_add, Int.toNat_natCast, setRow]; rfl) ?_
                    refine subRow rfl ?_
                    refine subRow rfl ?_
                    refine subRow rfl ?_
                    refine subRow rfl ?_
                    refine subRow rfl ?_
                    refine subRow rfl ?_
                    refine subRow rfl ?_
                    refine subRow rfl ?_
                    refine subRow (by show Ob.row .leaf ((B5.map (D.int .i64)).set (0 + ((d : Int)).toNat) (.int .i64 y)) = _; rw [Nat.zero_add, Int.toNat_natCast, setRow]; rfl) ?_
                    refine subRow rfl ?_
                    refine subRow rfl ?_
                    refine subRow rfl ?_
                    trivial
                · conv => whnf
                  refine ob (by decide) ?_
                  conv => whnf
                  refine ob (by decide) ?_
                  conv => whnf
                  refine ⟨.sl 9 0 9, rfl, ?_⟩
                  conv => whnf
                  refine ob (by omega) ?_
                  conv => whnf
                  refine ⟨.int .i64 ga, by rw [List.getElem?_map]; simp only [Nat.zero_add, Int.toNat_natCast]; rw [hga]; rfl, ?_⟩
                  conv => whnf
                  refine ifb (fun c2 => ?_) (fun c2 => ?_)
                  · have c2 : x ≠ ga := by simpa using c2
                    conv => whnf
                    refine drS 9 (by decide +kernel) ?_
                    conv => whnf
                    refine ob (by decide) ?_
                    conv => whnf
                    refine ⟨.sl 9 0 9, rfl, ?_⟩
                    conv => whnf
                    refine ob (by decide) ?_
                    conv => whnf
                    refine ob (by omega) ?_
                    conv => whnf
                    refine ob (by simp; omega) ?_
                    conv => whnf
                    refine drS 9 (by decide +kernel) ?_
                    conv => whnf
                    refine ob (by decide) ?_
                    conv => whnf
                    refine ⟨.sl 18 0 9, rfl, ?_⟩
                    conv => whnf
                    refine ob (by decide) ?_
                    conv => whnf
                    refine ob (by omega) ?_
                    conv => whnf
                    refine ob (by simp; omega) ?_
                    conv => whnf
                    refine iv ((d + 1 : Nat) : Int) (by rw [w64 (by omega) (by omega)]; omega) ?_
                    conv => whnf
                    refine ⟨5 + 1 - (d + 1), _, stW zW ⟨[A0, A1, A2, A3, A4, A5, A6, A7, A8].set 5 (([A0, A1, A2, A3, A4, A5, A6, A7, A8].getD 5 []).set d x), [B0, B1, B2, B3, B4, B5, B6, B7, B8].set 5 (([B0, B1, B2, B3, B4, B5, B6, B7, B8].getD 5 []).set d y)⟩, by omega, ⟨_, .refl _, .inr ⟨[0, 1, 2, 3, 4, 5, 6, 7, 8, 9, 10, 11, 12, 13, 14, 15, 16, 17, 18, 19, 20, 21], ⟨?_, ?_, rfl, rfl⟩⟩⟩, d + 1, _, true, by omega, by omega, rfl, hun true (by simp [c2]), rfl, rfl⟩
                    · exact ⟨.refl _, rfl, .refl _, rfl, .refl _, rfl, .refl _, rfl, .refl _, rfl, .refl _, rfl, trivial⟩
                    · refine ⟨rfl, rfl, rfl, rfl, rfl, rfl, rfl, rfl, ?_⟩
                      refine subRow rfl ?_
                      refine subRow rfl ?_
                      refine subRow rfl ?_
                      refine subRow rfl ?_
                      refine subRow rfl ?_
                      refine subRow (by show Ob.row .leaf ((A5.map (D.int .i64)).set (0 + ((d : Int)).toNat) (.int .i64 x)) = _; rw [Nat.zero_add, Int.toNat_natCast, setRow]; rfl) ?_
                      refine subRow rfl ?_
                      refine subRow rfl ?_
                      refine subRow rfl ?_
                      refine subRow rfl ?_
                      refine subRow rfl ?_
                      refine subRow rfl ?_
                      refine subRow rfl ?_
                      refine subRow rfl ?_
                      refine subRow (by show Ob.row .leaf ((B5.map (D.int .i64)).set (0 + ((d : Int)).toNat) (.int .i64 y)) = _; rw [Nat.zero_add, Int.toNat_natCast, setRow]; rfl) ?_
                      refine subRow rfl ?_
                      refine subRow rfl ?_
                      refine subRow rfl ?_
                      trivial
                  · have c2 : x = ga := by simpa using c2
                    conv => whnf
                    refine ob (by decide) ?_
                    conv => whnf
                    refine ob (by decide) ?_
                    conv => whnf
                    refine ⟨.sl 18 0 9, rfl, ?_⟩
                    conv => whnf
                    refine ob (by omega) ?_
                    conv => whnf
                    refine ⟨.int .i64 gb, by rw [List.getElem?_map]; simp only [Nat.zero_add, Int.toNat_natCast]; rw [hgb]; rfl, ?_⟩
                    conv => whnf
                    have hb3 : (decide (y ≠ gb) = true) ↔ (c' = true ∨ ¬ (x = ga ∧ y = gb)) := by simp [c1, c2]
                    refine drS 9 (by decide +kernel) ?_
                    conv => whnf
                    refine ob (by decide) ?_
                    conv => whnf
                    refine ⟨.sl 9 0 9, rfl, ?_⟩
                    conv => whnf
                    refine ob (by decide) ?_
                    conv => whnf
                    refine ob (by omega) ?_
                    conv => whnf
                    refine ob (by simp; omega) ?_
                    conv => whnf
                    refine drS 9 (by decide +kernel) ?_
                    conv => whnf
                    refine ob (by decide) ?_
                    conv => whnf
                    refine ⟨.sl 18 0 9, rfl, ?_⟩
                    conv => whnf
                    refine ob (by decide) ?_
                    conv => whnf
                    refine ob (by omega) ?_
                    conv => whnf
                    refine ob (by simp; omega) ?_
                    conv => whnf
                    refine iv ((d + 1 : Nat) : Int) (by rw [w64 (by omega) (by omega)]; omega) ?_
                    conv => whnf
                    refine ⟨5 + 1 - (d + 1), _, stW zW ⟨[A0, A1, A2, A3, A4, A5, A6, A7, A8].set 5 (([A0, A1, A2, A3, A4, A5, A6, A7, A8].getD 5 []).set d x), [B0, B1, B2, B3, B4, B5, B6, B7, B8].set 5 (([B0, B1, B2, B3, B4, B5, B6, B7, B8].getD 5 []).set d y)⟩, by omega, ⟨_, .refl _, .inr ⟨[0, 1, 2, 3, 4, 5, 6, 7, 8, 9, 10, 11, 12, 13, 14, 15, 16, 17, 18, 19, 20, 21], ⟨?_, ?_, rfl, rfl⟩⟩⟩, d + 1, _, (!decide (y = gb)), by omega, by omega, rfl, hun (!decide (y = gb)) (by have := hb3; simpa using this), rfl, rfl⟩
                    · exact ⟨.refl _, rfl, .refl _, rfl, .refl _, rfl, .refl _, rfl, .refl _, rfl, .refl _, rfl, trivial⟩
                    · refine ⟨rfl, rfl, rfl, rfl, rfl, rfl, rfl, rfl, ?_⟩
                      refine subRow rfl ?_
                      refine subRow rfl ?_
                      refine subRow rfl ?_
                      refine subRow rfl ?_
                      refine subRow rfl ?_
                      refine subRow (by show Ob.row .leaf ((A5.map (D.int .i64)).set (0 + ((d : Int)).toNat) (.int .i64 x)) = _; rw [Nat.zero_add, Int.toNat_natCast, setRow]; rfl) ?_
                      refine subRow rfl ?_
                      refine subRow rfl ?_
                      refine subRow rfl ?_
                      refine subRow rfl ?_
                      refine subRow rfl ?_
                      refine subRow rfl ?_
                      refine subRow rfl ?_
                      refine subRow rfl ?_
                      refine subRow (by show Ob.row .leaf ((B5.map (D.int .i64)).set (0 + ((d : Int)).toNat) (.int .i64 y)) = _; rw [Nat.zero_add, Int.toNat_natCast, setRow]; rfl) ?_
                      refine subRow rfl ?_
                      refine subRow rfl ?_
                      refine subRow rfl ?_
                      trivial
              · have hga : A6[d]? = some ga := by rw [hga0]; exact gt2_get rfl (by omega)
                have hgb : B6[d]? = some gb := by rw [hgb0]; exact gt2_get rfl (by omega)
                clear hga0 hgb0
                conv => whnf
                refine drS 28 (by decide +kernel) ?_
                conv => whnf
                refine ifb (fun c1 => ?_) (fun c1 => ?_)
                · conv => whnf
                  refine drS 9 (by decide +kernel) ?_
                  conv => whnf
                  refine ob (by decide) ?_
                  conv => whnf
                  refine ⟨.sl 10 0 9, rfl, ?_⟩
                  conv => whnf
                  refine ob (by decide) ?_
                  conv => whnf
                  refine ob (by omega) ?_
                  conv => whnf
                  refine ob (by simp; omega) ?_
                  conv => whnf
                  refine drS 9 (by decide +kernel) ?_
                  conv => whnf
                  refine ob (by decide) ?_
                  conv => whnf
                  refine ⟨.sl 19 0 9, rfl, ?_⟩
                  conv => whnf
                  refine ob (by decide) ?_
                  conv => whnf
                  refine ob (by omega) ?_
                  conv => whnf
                  refine ob (by simp; omega) ?_
                  conv => whnf
                  refine iv ((d + 1 : Nat) : Int) (by rw [w64 (by omega) (by omega)]; omega) ?_
                  conv => whnf
                  refine ⟨6 + 1 - (d + 1), _, stW zW ⟨[A0, A1, A2, A3, A4, A5, A6, A7, A8].set 6 (([A0, A1, A2, A3, A4, A5, A6, A7, A8].getD 6 []).set d x), [B0, B1, B2, B3, B4, B5, B6, B7, B8].set 6 (([B0, B1, B2, B3, B4, B5, B6, B7, B8].getD 6 []).set d y)⟩, by omega, ⟨_, .refl _, .inr ⟨[0, 1, 2, 3, 4, 5, 6, 7, 8, 9, 10, 11, 12, 13, 14, 15, 16, 17, 18, 19, 20, 21], ⟨?_, ?_, rfl, rfl⟩⟩⟩, d + 1, _, true, by omega, by omega, rfl, hun true (by simp [c1]), rfl, rfl⟩
                  · exact ⟨.refl _, rfl, .refl _, rfl, .refl _, rfl, .refl _, rfl, .refl _, rfl, .refl _, rfl, trivial⟩
                  · refine ⟨rfl, rfl, rfl, rfl, rfl, rfl, rfl, rfl, ?_⟩
                    refine subRow rfl ?_
                    refine subRow rfl ?_
                    refine subRow rfl ?_
                    refine subRow rfl ?_
                    refine subRow rfl ?_
                    refine subRow rfl ?_
                    refine subRow (by show Ob.row .leaf ((A6.map (D.int .i64)).set (0 + ((d : Int)).toNat) (.int .i64 x)) = _; rw [Nat.zero_add, Int.toNat_natCast, setRow]; rfl) ?_
                    refine subRow rfl ?_
                    refine subRow rfl ?_
                    refine subRow rfl ?_
                    refine subRow rfl ?_
                    refine subRow rfl ?_
                    refine subRow rfl ?_
                    refine subRow rfl ?_
                    refine subRow rfl ?_
                    refine subRow (by show Ob.row .leaf ((B6.map (D.int .i64)).set (0 + ((d : Int)).toNat) (.int .i64 y)) = _; rw [Nat.zero_add, Int.toNat_natCast, setRow]; rfl) ?_
                    refine subRow rfl ?_
                    refine subRow rfl ?_
                    trivial
                · conv => whnf
                  refine ob (by decide) ?_
                  conv => whnf
                  refine ob (by decide) ?_
                  conv => whnf
                  refine ⟨.sl 10 0 9, rfl, ?_⟩
                  conv => whnf
                  refine ob (by omega) ?_
                  conv => whnf
                  refine ⟨.int .i64 ga, by rw [List.getElem?_map]; simp only [Nat.zero_add, Int.toNat_natCast]; rw [hga]; rfl, ?_⟩
                  conv => whnf
                  refine ifb (fun c2 => ?_) (fun c2 => ?_)
                  · have c2 : x ≠ ga := by simpa using c2
                    conv => whnf
                    refine drS 9 (by decide +kernel) ?_
                    conv => whnf
                    refine ob (by decide) ?_
                    conv => whnf
                    refine ⟨.sl 10 0 9, rfl, ?_⟩
                    conv => whnf
                    refine ob (by decide) ?_
                    conv => whnf
                    refine ob (by omega) ?_
                    conv => whnf
                    refine ob (by simp; omega) ?_
                    conv => whnf
                    refine drS 9 (by decide +kernel) ?_
                    conv => whnf
                    refine ob (by decide) ?_
                    conv => whnf
                    refine ⟨.sl 19 0 9, rfl, ?_⟩
                    conv => whnf
                    refine ob (by decide) ?_
                    conv => whnf
                    refine ob (by omega) ?_
                    conv => whnf
                    refine ob (by simp; omega) ?_
                    conv => whnf
                    refine iv ((d + 1 : Nat) : Int) (by rw [w64 (by omega) (by omega)]; omega) ?_
                    conv => whnf
                    refine ⟨6 + 1 - (d + 1), _, stW zW ⟨[A0, A1, A2, A3, A4, A5, A6, A7, A8].set 6 (([A0, A1, A2, A3, A4, A5, A6, A7, A8].getD 6 []).set d x), [B0, B1, B2, B3, B4, B5, B6, B7, B8].set 6 (([B0, B1, B2, B3, B4, B5, B6, B7, B8].getD 6 []).set d y)⟩, by omega, ⟨_, .refl _, .inr ⟨[0, 1, 2, 3, 4, 5, 6, 7, 8, 9, 10, 11, 12, 13, 14, 15, 16, 17, 18, 19, 20, 21], ⟨?_, ?_, rfl, rfl⟩⟩⟩, d + 1, _, true, by omega, by omega, rfl, hun true (by simp [c2]), rfl, rfl⟩
                    · exact ⟨.refl _, rfl, .refl _, rfl, .refl _, rfl, .refl _, rfl, .refl _, rfl, .refl _, rfl, trivial⟩
                    · refine ⟨rfl, rfl, rfl, rfl, rfl, rfl, rfl, rfl, ?_⟩
                      refine subRow rfl ?_
                      refine subRow rfl ?_
                      refine subRow rfl ?_
                      refine subRow rfl ?_
                      refine subRow rfl ?_
                      refine subRow rfl ?_
                      refine subRow (by show Ob.row .leaf ((A6.map (D.int .i64)).set (0 + ((d : Int)).toNat) (.int .i64 x)) = _; rw [Nat.zero_add, Int.toNat_natCast, setRow]; rfl) ?_
                      refine subRow rfl ?_
                      refine subRow rfl ?_
                      refine subRow rfl ?_
                      refine subRow rfl ?_
                      refine subRow rfl ?_
                      refine subRow rfl ?_
                      refine subRow rfl ?_
                      refine subRow rfl ?_
                      refine subRow (by show Ob.row .leaf ((B6.map (D.int .i64)).set (0 + ((d : Int)).toNat) (.int .i64 y)) = _; rw [Nat.zero_add, Int.toNat_natCast, setRow]; rfl) ?_
                      refine subRow rfl ?_
                      refine subRow rfl ?_
                      trivial
                  · have c2 : x = ga := by simpa using c2
                    conv => whnf
                    refine ob (by decide) ?_
                    conv => whnf
                    refine ob (by decide) ?_
                    conv => whnf
                    refine ⟨.sl 19 0 9, rfl, ?_⟩
                    conv => whnf
                    refine ob (by omega) ?_
                    conv => whnf
                    refine ⟨.int .i64 gb, by rw [List.getElem?_map]; simp only [Nat.zero_add, Int.toNat_natCast]; rw [hgb]; rfl, ?_⟩
                    conv => whnf
                    have hb3 : (decide (y ≠ gb) = true) ↔ (c' = true ∨ ¬ (x = ga ∧ y = gb)) := by simp [c1, c2]
                    refine drS 9 (by decide +kernel) ?_
                    conv => whnf
                    refine ob (by decide) ?_
                    conv => whnf
                    refine ⟨.sl 10 0 9, rfl, ?_⟩
                    conv => whnf
                    refine ob (by decide) ?_
                    conv => whnf
                    refine ob (by omega) ?_
                    conv => whnf
                    refine ob (by simp; omega) ?_
                    conv => whnf
                    refine drS 9 (by decide +kernel) ?_
                    conv => whnf
                    refine ob (by decide) ?_
                    conv => whnf
                    refine ⟨.sl 19 0 9, rfl, ?_⟩
                    conv => whnf
                    refine ob (by decide) ?_
                    conv => whnf
                    refine ob (by omega) ?_
                    conv => whnf
                    refine ob (by simp; omega) ?_
                    conv => whnf
                    refine iv ((d + 1 : Nat) : Int) (by rw [w64 (by omega) (by omega)]; omega) ?_
                    conv => whnf
                    refine ⟨6 + 1 - (d + 1), _, stW zW ⟨[A0, A1, A2, A3, A4, A5, A6, A7, A8].set 6 (([A0, A1, A2, A3, A4, A5, A6, A7, A8].getD 6 []).set d x), [B0, B1, B2, B3, B4, B5, B6, B7, B8].set 6 (([B0, B1, B2, B3, B4, B5, B6, B7, B8].getD 6 []).set d y)⟩, by omega, ⟨_, .refl _, .inr ⟨[0, 1, 2, 3, 4, 5, 6, 7, 8, 9, 10, 11, 12, 13, 14, 15, 16, 17, 18, 19, 20, 21], ⟨?_, ?_, rfl, rfl⟩⟩⟩, d + 1, _, (!decide (y = gb)), by omega, by omega, rfl, hun (!decide (y = gb)) (by have := hb3; simpa using this), rfl, rfl⟩
                    · exact ⟨.refl _, rfl, .refl _, rfl, .refl _, rfl, .refl _, rfl, .refl _, rfl, .refl _, rfl, trivial⟩
                    · refine ⟨rfl, rfl, rfl, rfl, rfl, rfl, rfl, rfl, ?_⟩
                      refine subRow rfl ?_
                      refine subRow rfl ?_
                      refine subRow rfl ?_
                      refine subRow rfl ?_
                      refine subRow rfl ?_
                      refine subRow rfl ?_
                      refine subRow (by show Ob.row .leaf ((A6.map (D.int .i64)).set (0 + ((d : Int)).toNat) (.int .i64 x)) = _; rw [Nat.zero_add, Int.toNat_natCast, setRow]; rfl) ?_
                      refine subRow rfl ?_
                      refine subRow rfl ?_
                      refine subRow rfl ?_
                      refine subRow rfl ?_
                      refine subRow rfl ?_
                      refine subRow rfl ?_
                      refine subRow rfl ?_
                      refine subRow rfl ?_
                      refine subRow (by show Ob.row .leaf ((B6.map (D.int .i64)).set (0 + ((d : Int)).toNat) (.int .i64 y)) = _; rw [Nat.zero_add, Int.toNat_natCast, setRow]; rfl) ?_
                      refine subRow rfl ?_
                      refine subRow rfl ?_
                      trivial
              · have hga : A7[d]? = some ga := by rw [hga0]; exact gt2_get rfl (by omega)
                have hgb : B7[d]? = some gb := by rw [hgb0]; exact gt2_get rfl (by omega)
                clear hga0 hgb0
                conv => whnf
                refine drS 28 (by decide +kernel) ?_
                conv => whnf
                refine ifb (fun c1 => ?_) (fun c1 => ?_)
                · conv => whnf
                  refine drS 9 (by decide +kernel) ?_
                  conv => whnf
                  refine ob (by decide) ?_
                  conv => whnf
                  refine ⟨.sl 11 0 9, rfl, ?_⟩
                  conv => whnf
                  refine ob (by decide) ?_
                  conv => whnf
                  refine ob (by omega) ?_
                  conv => whnf
                  refine ob (by simp; omega) ?_
                  conv => whnf
                  refine drS 9 (by decide +kernel) ?_
                  conv => whnf
                  refine ob (by decide) ?_
                  conv => whnf
                  refine ⟨.sl 20 0 9, rfl, ?_⟩
                  conv => whnf
                  refine ob (by decide) ?_
                  conv => whnf
                  refine ob (by omega) ?_
                  conv => whnf
                  refine ob (by simp; omega) ?_
                  conv => whnf
                  refine iv ((d + 1 : Nat) : Int) (by rw [w64 (by omega) (by omega)]; omega) ?_
                  conv => whnf
                  refine ⟨7 + 1 - (d + 1), _, stW zW ⟨[A0, A1, A2, A3, A4, A5, A6, A7, A8].set 7 (([A0, A1, A2, A3, A4, A5, A6, A7, A8].getD 7 []).set d x), [B0, B1, B2, B3, B4, B5, B6, B7, B8].set 7 (([B0, B1, B2, B3, B4, B5, B6, B7, B8].getD 7 []).set d y)⟩, by omega, ⟨_, .refl _, .inr ⟨[0, 1, 2, 3, 4, 5, 6, 7, 8, 9, 10, 11, 12, 13, 14, 15, 16, 17, 18, 19, 20, 21], ⟨?_, ?_, rfl, rfl⟩⟩⟩, d + 1, _, true, by omega, by omega, rfl, hun true (by simp [c1]), rfl, rfl⟩
                  · exact ⟨.refl _, rfl, .refl _, rfl, .refl _, rfl, .refl _, rfl, .refl _, rfl, .refl _, rfl, trivial⟩
                  · refine ⟨rfl, rfl, rfl, rfl, rfl, rfl, rfl, rfl, ?_⟩
                    refine subRow rfl ?_
                    refine subRow rfl ?_
                    refine subRow rfl ?_
                    refine subRow rfl ?_
                    refine subRow rfl ?_
                    refine subRow rfl ?_
                    refine subRow rfl ?_
                    refine subRow (by show Ob.row .leaf ((A7.map (D.int .i64)).set (0 + ((d : Int)).toNat) (.int .i64 x)) = _; rw [Nat.zero_add, Int.toNat_natCast, setRow]; rfl) ?_
                    refine subRow rfl ?_
                    refine subRow rfl ?_
                    refine subRow rfl ?_
                    refine subRow rfl ?_
                    refine subRow rfl ?_
                    refine subRow rfl ?_
                    refine subRow rfl ?_
                    refine subRow rfl ?_
                    refine subRow (by show Ob.row .leaf ((B7.map (D.int .i64)).set (0 + ((d : Int)).toNat) (.int .i64 y)) = _; rw [Nat.zero_add, Int.toNat_natCast, setRow]; rfl) ?_
                    refine subRow rfl ?_
                    trivial
                · conv => whnf
                  refine ob (by decide) ?_
                  conv => whnf
                  refine ob (by decide) ?_
                  conv => whnf
                  refine ⟨.sl 11 0 9, rfl, ?_⟩
                  conv => whnf
                  refine ob (by omega) ?_
                  conv => whnf
                  refine ⟨.int .i64 ga, by rw [List.getElem?_map]; simp only [Nat.zero_add, Int.toNat_natCast]; rw [hga]; rfl, ?_⟩
                  conv => whnf
                  refine ifb (fun c2 => ?_) (fun c2 => ?_)
                  · have c2 : x ≠ ga := by simpa using c2
                    conv => whnf
                    refine drS 9 (by decide +kernel) ?_
                    conv => whnf
                    refine ob (by decide) ?_
                    conv => whnf
                    refine ⟨.sl 11 0 9, rfl, ?_⟩
                    conv => whnf
                    refine ob (by decide) ?_
                    conv => whnf
                    refine ob (by omega) ?_
                    conv => whnf
                    refine ob (by simp; omega) ?_
                    conv => whnf
                    refine drS 9 (by decide +kernel) ?_
                    conv => whnf
                    refine ob (by decide) ?_
                    conv => whnf
                    refine ⟨.sl 20 0 9, rfl, ?_⟩
                    conv => whnf
                    refine ob (by decide) ?_
                    conv => whnf
                    refine ob (by omega) ?_
                    conv => whnf
                    refine ob (by simp; omega) ?_
                    conv => whnf
                    refine iv ((d + 1 : Nat) : Int) (by rw [w64 (by omega) (by omega)]; omega) ?_
                    conv => whnf
                    refine ⟨7 + 1 - (d + 1), _, stW zW ⟨[A0, A1, A2, A3, A4, A5, A6, A7, A8].set 7 (([A0, A1, A2, A3, A4, A5, A6, A7, A8].getD 7 []).set d x), [B0, B1, B2, B3, B4, B5, B6, B7, B8].set 7 (([B0, B1, B2, B3, B4, B5, B6, B7, B8].getD 7 []).set d y)⟩, by omega, ⟨_, .refl _, .inr ⟨[0, 1, 2, 3, 4, 5, 6, 7, 8, 9, 10, 11, 12, 13, 14, 15, 16, 17, 18, 19, 20, 21], ⟨?_, ?_, rfl, rfl⟩⟩⟩, d + 1, _, true, by omega, by omega, rfl, hun true (by simp [c2]), rfl, rfl⟩
                    · exact ⟨.refl _, rfl, .refl _, rfl, .refl _, rfl, .refl _, rfl, .refl _, rfl, .refl _, rfl, trivial⟩
                    · refine ⟨rfl, rfl, rfl, rfl, rfl, rfl, rfl, rfl, ?_⟩
                      refine subRow rfl ?_
                      refine subRow rfl ?_
                      refine subRow rfl ?_
                      refine subRow rfl ?_
                      refine subRow rfl ?_
                      refine subRow rfl ?_
                      refine subRow rfl ?_
                      refine subRow (by show Ob.row .leaf ((A7.map (D.int .i64)).set (0 + ((d : Int)).toNat) (.int .i64 x)) = _; rw [Nat.zero_add, Int.toNat_natCast, setRow]; rfl) ?_
                      refine subRow rfl ?_
                      refine subRow rfl ?_
                      refine subRow rfl ?_
                      refine subRow rfl ?_
                      refine subRow rfl ?_
                      refine subRow rfl ?_
                      refine subRow rfl ?_
                      refine subRow rfl ?_
                      refine subRow (by show Ob.row .leaf ((B7.map (D.int .i64)).set (0 + ((d : Int)).toNat) (.int .i64 y)) = _; rw [Nat.zero_add, Int.toNat_natCast, setRow]; rfl) ?_
                      refine subRow rfl ?_
                      trivial
                  · have c2 : x = ga := by simpa using c2
                    conv => whnf
                    refine ob (by decide) ?_
                    conv => whnf
                    refine ob (by decide) ?_
                    conv => whnf
                    refine ⟨.sl 20 0 9, rfl, ?_⟩
                    conv => whnf
                    refine ob (by omega) ?_
                    conv => whnf
                    refine ⟨.int .i64 gb, by rw [List.getElem?_map]; simp only [Nat.zero_add, Int.toNat_natCast]; rw [hgb]; rfl, ?_⟩
                    conv => whnf
                    have hb3 : (decide (y ≠ gb) = true) ↔ (c' = true ∨ ¬ (x = ga ∧ y = gb)) := by simp [c1, c2]
                    refine drS 9 (by decide +kernel) ?_
                    conv => whnf
                    refine ob (by decide) ?_
                    conv => whnf
                    refine ⟨.sl 11 0 9, rfl, ?_⟩
                    conv => whnf
                    refine ob (by decide) ?_
                    conv => whnf
                    refine ob (by omega) ?_
                    conv => whnf
                    refine ob (by simp; omega) ?_
                    conv => whnf
                    refine drS 9 (by decide +kernel) ?_
                    conv => whnf
                    refine ob (by decide) ?_
                    conv => whnf
                    refine ⟨.sl 20 0 9, rfl, ?_⟩
                    conv => whnf
                    refine ob (by decide) ?_
                    conv => whnf
                    refine ob (by omega) ?_
                    conv => whnf
                    refine ob (by simp; omega) ?_
                    conv => whnf
                    refine iv ((d + 1 : Nat) : Int) (by rw [w64 (by omega) (by omega)]; omega) ?_
                    conv => whnf
                    refine ⟨7 + 1 - (d + 1), _, stW zW ⟨[A0, A1, A2, A3, A4, A5, A6, A7, A8].set 7 (([A0, A1, A2, A3, A4, A5, A6, A7, A8].getD 7 []).set d x), [B0, B1, B2, B3, B4, B5, B6, B7, B8].set 7 (([B0, B1, B2, B3, B4, B5, B6, B7, B8].getD 7 []).set d y)⟩, by omega, ⟨_, .refl _, .inr ⟨[0, 1, 2, 3, 4, 5, 6, 7, 8, 9, 10, 11, 12, 13, 14, 15, 16, 17, 18, 19, 20, 21], ⟨?_, ?_, rfl, rfl⟩⟩⟩, d + 1, _, (!decide (y = gb)), by omega, by omega, rfl, hun (!decide (y = gb)) (by have := hb3; simpa using this), rfl, rfl⟩
                    · exact ⟨.refl _, rfl, .refl _, rfl, .refl _, rfl, .refl _, rfl, .refl _, rfl, .refl _, rfl, trivial⟩
                    · refine ⟨rfl, rfl, rfl, rfl, rfl, rfl, rfl, rfl, ?_⟩
                      refine subRow rfl ?_
                      refine subRow rfl ?_
                      refine subRow rfl ?_
                      refine subRow rfl ?_
                      refine subRow rfl ?_
                      refine subRow rfl ?_
                      refine subRow rfl ?_
                      refine subRow (by show Ob.row .leaf ((A7.map (D.int .i64)).set (0 + ((d : Int)).toNat) (.int .i64 x)) = _; rw [Nat.zero_add, Int.toNat_natCast, setRow]; rfl) ?_
                      refine subRow rfl ?_
                      refine subRow rfl ?_
                      refine subRow rfl ?_
                      refine subRow rfl ?_
                      refine subRow rfl ?_
                      refine subRow rfl ?_
                      refine subRow rfl ?_
                      refine subRow rfl ?_
                      refine subRow (by show Ob.row .leaf ((B7.map (D.int .i64)).set (0 + ((d : Int)).toNat) (.int .i64 y)) = _; rw [Nat.zero_add, Int.toNat_natCast, setRow]; rfl) ?_
                      refine subRow rfl ?_
                      trivial
              · have hga : A8[d]? = some ga := by rw [hga0]; exact gt2_get rfl (by omega)
                have hgb : B8[d]? = some gb := by rw [hgb0]; exact gt2_get rfl (by omega)
                clear hga0 hgb0
                conv => whnf
                refine drS 28 (by decide +kernel) ?_
                conv => whnf
                refine ifb (fun c1 => ?_) (fun c1 => ?_)
                · conv => whnf
                  refine drS 9 (by decide +kernel) ?_
                  conv => whnf
                  refine ob (by decide) ?_
                  conv => whnf
                  refine ⟨.sl 12 0 9, rfl, ?_⟩
                  conv => whnf
                  refine ob (by decide) ?_
                  conv => whnf
                  refine ob (by omega) ?_
                  conv => whnf
                  refine ob (by simp; omega) ?_
                  conv => whnf
                  refine drS 9 (by decide +kernel) ?_
                  conv => whnf
                  refine ob (by decide) ?_
                  conv => whnf
                  refine ⟨.sl 21 0 9, rfl, ?_⟩
                  conv => whnf
                  refine ob (by decide) ?_
                  conv => whnf
                  refine ob (by omega) ?_
                  conv => whnf
                  refine ob (by simp; omega) ?_
                  conv => whnf
                  refine iv ((d + 1 : Nat) : Int) (by rw [w64 (by omega) (by omega)]; omega) ?_
                  conv => whnf
                  refine ⟨8 + 1 - (d + 1), _, stW zW ⟨[A0, A1, A2, A3, A4, A5, A6, A7, A8].set 8 (([A0, A1, A2, A3, A4, A5, A6, A7, A8].getD 8 []).set d x), [B0, B1, B2, B3, B4, B5, B6, B7, B8].set 8 (([B0, B1, B2, B3, B4, B5, B6, B7, B8].getD 8 []).set d y)⟩, by omega, ⟨_, .refl _, .inr ⟨[0, 1, 2, 3, 4, 5, 6, 7, 8, 9, 10, 11, 12, 13, 14, 15, 16, 17, 18, 19, 20, 21], ⟨?_, ?_, rfl, rfl⟩⟩⟩, d + 1, _, true, by omega, by omega, rfl, hun true (by simp [c1]), rfl, rfl⟩
                  · exact ⟨.refl _, rfl, .refl _, rfl, .refl _, rfl, .refl _, rfl, .refl _, rfl, .refl _, rfl, trivial⟩
                  · refine ⟨rfl, rfl, rfl, rfl, rfl, rfl, rfl, rfl, ?_⟩
                    refine subRow rfl ?_
                    refine subRow rfl ?_
                    refine subRow rfl ?_
                    refine subRow rfl ?_
                    refine subRow rfl ?_
                    refine subRow rfl ?_
                    refine subRow rfl ?_
                    refine subRow rfl ?_
                    refine subRow (by show Ob.row .leaf ((A8.map (D.int .i64)).set (0 + ((d : Int)).toNat) (.int .i64 x)) = _; rw [Nat.zero_add, Int.toNat_natCast, setRow]; rfl) ?_
                    refine subRow rfl ?_
                    refine subRow rfl ?_
                    refine subRow rfl ?_
                    refine subRow rfl ?_
                    refine subRow rfl ?_
                    refine subRow rfl ?_
                    refine subRow rfl ?_
                    refine subRow rfl ?_
                    refine subRow (by show Ob.row .leaf ((B8.map (D.int .i64)).set (0 + ((d : Int)).toNat) (.int .i64 y)) = _; rw [Nat.zero_add, Int.toNat_natCast, setRow]; rfl) ?_
                    trivial
                · conv => whnf
                  refine ob (by decide) ?_
                  conv => whnf
                  refine ob (by decide) ?_
                  conv => whnf
                  refine ⟨.sl 12 0 9, rfl, ?_⟩
                  conv => whnf
                  refine ob (by omega) ?_
                  conv => whnf
                  refine ⟨.int .i64 ga, by rw [List.getElem?_map]; simp only [Nat.zero_add, Int.toNat_natCast]; rw [hga]; rfl, ?_⟩
                  conv => whnf
                  refine ifb (fun c2 => ?_) (fun c2 => ?_)
                  · have c2 : x ≠ ga := by simpa using c2
                    conv => whnf
                    refine drS 9 (by decide +kernel) ?_
                    conv => whnf
                    refine ob (by decide) ?_
                    conv => whnf
                    refine ⟨.sl 12 0 9, rfl, ?_⟩
                    conv => whnf
                    refine ob (by decide) ?_
                    conv => whnf
                    refine ob (by omega) ?_
                    conv => whnf
                    refine ob (by simp; omega) ?_
                    conv => whnf
                    refine drS 9 (by decide +kernel) ?_
                    conv => whnf
                    refine ob (by decide) ?_
                    conv => whnf
                    refine ⟨.sl 21 0 9, rfl, ?_⟩
                    conv => whnf
                    refine ob (by decide) ?_
                    conv => whnf
                    refine ob (by omega) ?_
                    conv => whnf
                    refine ob (by simp; omega) ?_
                    conv => whnf
                    refine iv ((d + 1 : Nat) : Int) (by rw [w64 (by omega) (by omega)]; omega) ?_
                    conv => whnf
                    refine ⟨8 + 1 - (d + 1), _, stW zW ⟨[A0, A1, A2, A3, A4, A5, A6, A7, A8].set 8 (([A0, A1, A2, A3, A4, A5, A6, A7, A8].getD 8 []).set d x), [B0, B1, B2, B3, B4, B5, B6, B7, B8].set 8 (([B0, B1, B2, B3, B4, B5, B6, B7, B8].getD 8 []).set d y)⟩, by omega, ⟨_, .refl _, .inr ⟨[0, 1, 2, 3, 4, 5, 6, 7, 8, 9, 10, 11, 12, 13, 14, 15, 16, 17, 18, 19, 20, 21], ⟨?_, ?_, rfl, rfl⟩⟩⟩, d + 1, _, true, by omega, by omega, rfl, hun true (by simp [c2]), rfl, rfl⟩
                    · exact ⟨.refl _, rfl, .refl _, rfl, .refl _, rfl, .refl _, rfl, .refl _, rfl, .refl _, rfl, trivial⟩
                    · refine ⟨rfl, rfl, rfl, rfl, rfl, rfl, rfl, rfl, ?_⟩
                      refine subRow rfl ?_
                      refine subRow rfl ?_
                      refine subRow rfl ?_
                      refine subRow rfl ?_
                      refine subRow rfl ?_
                      refine subRow rfl ?_
                      refine subRow rfl ?_
                      refine subRow rfl ?_
                      refine subRow (by show Ob.row .leaf ((A8.map (D.int .i64)).set (0 + ((d : Int)).toNat) (.int .i64 x)) = _; rw [Nat.zero_add, Int.toNat_natCast, setRow]; rfl) ?_
                      refine subRow rfl ?_
                      refine subRow rfl ?_
                      refine subRow rfl ?_
                      refine subRow rfl ?_
                      refine subRow rfl ?_
                      refine subRow rfl ?_
                      refine subRow rfl ?_
                      refine subRow rfl ?_
                      refine subRow (by show Ob.row .leaf ((B8.map (D.int .i64)).set (0 + ((d : Int)).toNat) (.int .i64 y)) = _; rw [Nat.zero_add, Int.toNat_natCast, setRow]; rfl) ?_
                      trivial
                  · have c2 : x = ga := by simpa using c2
                    conv => whnf
                    refine ob (by decide) ?_
                    conv => whnf
                    refine ob (by decide) ?_
                    conv => whnf
                    refine ⟨.sl 21 0 9, rfl, ?_⟩
                    conv => whnf
                    refine ob (by omega) ?_
                    conv => whnf
                    refine ⟨.int .i64 gb, by rw [List.getElem?_map]; simp only [Nat.zero_add, Int.toNat_natCast]; rw [hgb]; rfl, ?_⟩
                    conv => whnf
                    have hb3 : (decide (y ≠ gb) = true) ↔ (c' = true ∨ ¬ (x = ga ∧ y = gb)) := by simp [c1, c2]
                    refine drS 9 (by decide +kernel) ?_
                    conv => whnf
                    refine ob (by decide) ?_
                    conv => whnf
                    refine ⟨.sl 12 0 9, rfl, ?_⟩
                    conv => whnf
                    refine ob (by decide) ?_
                    conv => whnf
                    refine ob (by omega) ?_
                    conv => whnf
                    refine ob (by simp; omega) ?_
                    conv => whnf
                    refine drS 9 (by decide +kernel) ?_
                    conv => whnf
                    refine ob (by decide) ?_
                    conv => whnf
                    refine ⟨.sl 21 0 9, rfl, ?_⟩
                    conv => whnf
                    refine ob (by decide) ?_
                    conv => whnf
                    refine ob (by omega) ?_
                    conv => whnf
                    refine ob (by simp; omega) ?_
                    conv => whnf
                    refine iv ((d + 1 : Nat) : Int) (by rw [w64 (by omega) (by omega)]; omega) ?_
                    conv => whnf
                    refine ⟨8 + 1 - (d + 1), _, stW zW ⟨[A0, A1, A2, A3, A4, A5, A6, A7, A8].set 8 (([A0, A1, A2, A3, A4, A5, A6, A7, A8].getD 8 []).set d x), [B0, B1, B2, B3, B4, B5, B6, B7, B8].set 8 (([B0, B1, B2, B3, B4, B5, B6, B7, B8].getD 8 []).set d y)⟩, by omega, ⟨_, .refl _, .inr ⟨[0, 1, 2, 3, 4, 5, 6, 7, 8, 9, 10, 11, 12, 13, 14, 15, 16, 17, 18, 19, 20, 21], ⟨?_, ?_, rfl, rfl⟩⟩⟩, d + 1, _, (!decide (y = gb)), by omega, by omega, rfl, hun (!decide (y = gb)) (by have := hb3; simpa using this), rfl, rfl⟩
                    · exact ⟨.refl _, rfl, .refl _, rfl, .refl _, rfl, .refl _, rfl, .refl _, rfl, .refl _, rfl, trivial⟩
                    · refine ⟨rfl, rfl, rfl, rfl, rfl, rfl, rfl, rfl, ?_⟩
                      refine subRow rfl ?_
                      refine subRow rfl ?_
                      refine subRow rfl ?_
                      refine subRow rfl ?_
                      refine subRow rfl ?_
                      refine subRow rfl ?_
                      refine subRow rfl ?_
                      refine subRow rfl ?_
                      refine subRow (by show Ob.row .leaf ((A8.map (D.int .i64)).set (0 + ((d : Int)).toNat) (.int .i64 x)) = _; rw [Nat.zero_add, Int.toNat_natCast, setRow]; rfl) ?_
                      refine subRow rfl ?_
                      refine subRow rfl ?_
                      refine subRow rfl ?_
                      refine subRow rfl ?_
                      refine subRow rfl ?_
                      refine subRow rfl ?_
                      refine subRow rfl ?_
                      refine subRow rfl ?_
                      refine subRow (by show Ob.row .leaf ((B8.map (D.int .i64)).set (0 + ((d : Int)).toNat) (.int .i64 y)) = _; rw [Nat.zero_add, Int.toNat_natCast, setRow]; rfl) ?_
                      trivial
            · have : d = m + 1 := by
                have : decide ((d : Int) ≤ (m : Int)) = false := h3
                simp at this; omega
              subst this
              conv => whnf
              refine iv ((m + 1 : Nat) : Int) (by rw [w64 (by omega) (by omega)]; omega) ?_
              conv => whnf
              refine back (9 - (m + 1)) _ (by omega) ?_ ⟨m + 1, t', c', by omega, by omega, rfl, hP.row, rfl, rfl⟩
              exact se0 rfl (se0 rfl (se0 rfl (se0 rfl (se0 rfl trivial))))
        · have : m = 9 := by
            have : decide ((m : Int) ≤ 8) = false := h2
            simp at this; omega
          subst this
          conv => whnf
          refine back (if c' then μ t' + 1 else 0) _ ?_ ?_ ⟨t', c', rfl, hP.j, ?_, rfl, rfl⟩
          · cases c' with
            | false => simp
            | true => have := hP.lt rfl; simp; omega
          · exact se0 rfl (se0 rfl (se0 rfl (se0 rfl trivial)))
          · intro hc m d g1 g2 g3
            obtain ⟨e1, e2⟩ := hP.same hc
            rw [e1]
            exact e2 m d g1 g2 g3 (by omega)
    · subst h1
      conv => whnf
      exact ⟨t, hJ, hst rfl, rfl, rfl⟩

end Go.Proofs.Ythplmnpfaagciaa.Pw
