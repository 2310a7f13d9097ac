/- Parts of the proof, merged: NH NI NJ NK. -/
import Derived.Test.YthplmnpfaagciaaLl
import Derived.Test.YthplmnpfaagciaaLk
/- The closure of the reference, of any length. -/
set_option linter.unusedVariables false
set_option linter.unusedSimpArgs false
namespace Go.Proofs.Ythplmnpfaagciaa.Pw
open Go

def unchN (n : Nat) (t : Tb) (m d : Nat) : Prop := againLo n t m d = gt2 t.lo m d ∧ againHi n t m d = gt2 t.hi m d
structure ProgN (K : List Known) (G : List Int) (n : Nat) (t t' : Tb) (c : Bool) (m d : Nat) : Prop where
  j : TabJ K G n t'
  le : muN n t' ≤ muN n t
  lt : c = true → muN n t' < muN n t
  same : c = false → t' = t ∧ ∀ a b : Nat, 1 ≤ b → b ≤ a → a ≤ n → (a < m ∨ (a = m ∧ b < d)) → unchN n t a b
theorem updN_same {n : Nat} {t : Tb} {m d : Nat} (h : unchN n t m d) : updN n t m d = t := by
  obtain ⟨h1, h2⟩ := h
  unfold updN
  rw [h1, h2]
  unfold gt2
  simp only [Int.toNat_natCast]
  rw [set_getD2, set_getD2]
theorem ProgN.step {K : List Known} {G : List Int} {n : Nat} {t t' : Tb} {c : Bool} {m d : Nat} (h : ProgN K G n t t' c m d) (hK : rightK K = true) (hn : n ≤ 8) (h1 : 1 ≤ d) (h2 : d ≤ m) (h3 : m ≤ n) (c' : Bool) (hc : c' = true ↔ (c = true ∨ ¬ unchN n t' m d)) :
    ProgN K G n t (updN n t' m d) c' m (d + 1) := by
  obtain ⟨a1, a2, a3⟩ := TabJ.step hK hn h.j h1 h2 h3
  refine ⟨a1, Nat.le_trans a2 h.le, ?_, ?_⟩
  · intro hc'
    rcases hc.1 hc' with e | e
    · exact Nat.lt_of_le_of_lt a2 (h.lt e)
    · exact Nat.lt_of_lt_of_le (a3 e) h.le
  · intro hc'
    have hcf : c = false := by
      cases hcc : c
      · rfl
      · rw [hc.2 (.inl hcc)] at hc'; cases hc'
    have hu : unchN n t' m d := Classical.byContradiction fun hh => by rw [hc.2 (.inr hh)] at hc'; cases hc'
    obtain ⟨e1, e2⟩ := h.same hcf
    refine ⟨(updN_same hu).trans e1, ?_⟩
    intro a b g1 g2 g3 g4
    by_cases e : a = m ∧ b = d
    · obtain ⟨rfl, rfl⟩ := e
      rw [← e1]; exact hu
    · exact e2 a b g1 g2 g3 (by omega)
theorem ProgN.row {K : List Known} {G : List Int} {n : Nat} {t t' : Tb} {c : Bool} {m : Nat} (h : ProgN K G n t t' c m (m + 1)) : ProgN K G n t t' c (m + 1) 1 :=
  ⟨h.j, h.le, h.lt, fun hc => ⟨(h.same hc).1, fun a b g1 g2 g3 g4 => (h.same hc).2 a b g1 g2 g3 (by omega)⟩⟩
theorem drH {c : Cx} {ops : List Oper} {e : Env} {H H' : List Ob} {K : Env → List Ob → Prop} (h : H = H') (hk : DrawP c ops e H' K) : DrawP c ops e H K := by rw [h]; exact hk
theorem nfqL {X n : Nat} {k : Nat → Prop} (h : X = n) (hk : k n) : nfrc X k := by rw [nfrc_eq, h]; exact hk
theorem loopH {M : Nat} {f : Env → List Ob → (Ex → Env → List Ob → Prop) → Prop} {e : Env} {H H' : List Ob} {Q : Ex → Env → List Ob → Prop} (h : H = H') (hk : LoopP M f e H' Q) : LoopP M f e H Q := by rw [h]; exact hk
def E1N (n : Nat) (c : Bool) : Env := [(8, .bool c), (0, .int .i64 n), (7, .ptr 1 []), (6, .ptr 0 [])]

theorem inE_w {N n : Nat} {a b : D} {c : Bool} (h : 2 ≤ N) (ha : ∀ n, inD n a = true) (hb : ∀ n, inD n b = true) : inE N ((10, a) :: (9, b) :: E1N n c) = true := by
  obtain ⟨k, rfl⟩ : ∃ k, N = k + 2 := ⟨N - 2, by omega⟩
  simp only [inE, ha, hb, cond_true]; rfl
set_option maxHeartbeats 40000000 in
theorem hcWholeG (n : Nat) (hn1 : 1 ≤ n) (hn8 : n ≤ 8) (fk fg : Bool) (K : List Known) (G : List Int) (hK : rightK K = true) :
    HC Try.prog 23 [.int .i64 n, knownsD fk K, intsD fg G] [] (fun r H' => ∃ t, TabJ K G n t ∧ (∀ m d : Nat, 1 ≤ d → d ≤ m → m ≤ n → unchN n t m d) ∧ r = .agg [.sl 2 0 (n + 1), .sl 3 0 (n + 1)] ∧ H' = stI (.agg [.sl 2 0 (n + 1), .sl 3 0 (n + 1)]) (n + 1) t) := by
  have hfirst := hcFirstG n hn1 hn8 fk fg K G hK
  obtain ⟨W, hW⟩ : ∃ W, W = n + 1 := ⟨_, rfl⟩
  rw [← hW] at hfirst ⊢
  have hW2 : 2 ≤ W := by omega
  have hW9 : W ≤ 9 := by omega
  refine hc_ofS (okc Try.f23.ntmps 0) (fn := Try.f23) (cd := _) rfl rfl rfl rfl rfl rfl (fun hbd => ?_)
  conv => whnf
  refine HC.mono (HC.frame (Q := fun r H' => ∃ t, TabJ K G n t ∧ r = .agg [.sl 3 0 W, .sl 4 0 W] ∧ H' = stJ W t) [] hfirst (.refl _) trivial rfl (by simp) (ler _ _) rfl ?_) ?_
  · rintro r H0' ⟨t0, rfl, rfl, hT0⟩ _
    have hN0 := hT0.tbN hW
    exact ⟨t0, hT0, first_res hN0, first_put hN0⟩
  rintro r H' ⟨t0, hT0, rfl, rfl⟩
  have hN0 := hT0.tbN hW
  have hIL0 : (inter t0.lo t0.hi).length = 2 * W := by rw [inter_len _ _ (by rw [hN0.ll, hN0.lh]), hN0.ll]
  have hJ0 : (stJ W t0).length = 2 * W + 1 + 1 + 1 + 1 + 1 := by
    show (inter t0.lo t0.hi).length + 1 + 1 + 1 + 1 + 1 = _
    rw [hIL0]
  have hlast0 : ∀ x : Ob, (stJ W t0 ++ [x]).getD (2 * W + 1 + 1 + 1 + 1 + 1) .dead = x := by
    intro x
    rw [← hJ0, List.getD, List.getElem?_append_right (Nat.le_refl _), Nat.sub_self]; rfl
  have hset0 : ∀ x y : Ob, (stJ W t0 ++ [x]).set (2 * W + 1 + 1 + 1 + 1 + 1) y = stJ W t0 ++ [y] := by
    intro x y
    rw [← hJ0, List.set_append_right _ _ (Nat.le_refl _), Nat.sub_self]; rfl
  conv => whnf
  refine nfqL (show (([] : List Ob).append (inter t0.lo t0.hi)).length = 2 * W from hIL0) ?_
  conv => whnf
  conv =>
    arg 2
    rw [hlast0]
  conv => whnf
  refine loopH (hset0 _ _) ?_
  refine lp (fun k e H => ∃ (t : Tb) (c : Bool), k = (if c then muN n t + 1 else 0) ∧ TabJ K G n t ∧ (c = false → ∀ m d : Nat, 1 ≤ d → d ≤ m → m ≤ n → unchN n t m d) ∧ H = stI zz W t ∧ e = E1N n c) ?_ ?_
  · have hin := stI_in (d0 := zz) hN0 (fun n h => rfl)
    have hb : ∀ g, g < 4 → Nat.blt g (stI zz W t0).length = true := fun g hg => by rw [stI_len hN0]; exact Nat.ble_eq_true_of_le (by omega)
    obtain ⟨X, hX⟩ : ∃ X, X = [Ob.var (.agg [.sl 3 0 W, .sl 4 0 W])] := ⟨_, rfl⟩
    have hrg : ∀ i, i < 2 * W → (0 :: (2 * W + 1 + 1 + 1 + 1 + 1) :: 3 :: 4 :: (List.range (inter t0.lo t0.hi).length).map (5 + ·)).getD (4 + i) 0 = 5 + i := by
      intro i hi
      rw [show 4 + i = i + 1 + 1 + 1 + 1 by omega]
      simp [List.getD, List.getElem?_range (show i < (inter t0.lo t0.hi).length by omega)]
    refine ⟨muN n t0 + 2, muN n t0 + 1, E1N n true, stI zz W t0, by omega, ⟨_, .refl _, .inr ⟨0 :: (2 * W + 1 + 1 + 1 + 1 + 1) :: 3 :: 4 :: (List.range (inter t0.lo t0.hi).length).map (5 + ·), ⟨?_, ?_, ?_, rfl⟩⟩⟩, t0, true, rfl, hT0, by simp, rfl, rfl⟩
    · exact ⟨.refl _, rfl, .refl _, rfl, .refl _, hb 1 (by omega), .refl _, hb 0 (by omega), trivial⟩
    · refine ⟨rfl, hin _ (by simp [stI]), hlast0 _, hin _ (by simp [stI]), ?_, hin _ (by simp [stI]), ?_, hin _ (by simp [stI]), ?_⟩
      · show Ob.row .leaf (refsI 5 W W) = Ob.row .leaf (renDs _ (refsI 4 W W))
        rw [ren_refs _ 4 W 5 W (fun i hi => hrg (2 * i) (by omega))]
      · show Ob.row .leaf (refsI 6 W W) = Ob.row .leaf (renDs _ (refsI 5 W W))
        rw [ren_refs _ 5 W 6 W (fun i hi => by rw [show 5 + 2 * i = 4 + (2 * i + 1) by omega, hrg (2 * i + 1) (by omega)]; omega)]
      · exact subH_rows _ _ (inter t0.lo t0.hi) [.var (.agg [.nils, .nils]), .var (.agg [.sl 3 0 W, .sl 4 0 W]), .var (.agg [.sl 3 0 W, .sl 4 0 W]), .row .leaf (refsI 5 W W), .row .leaf (refsI 6 W W)] _ (inter_rows _ _)
    · refine nodup_mk _ (List.nodup_cons.2 ⟨?_, List.nodup_cons.2 ⟨?_, List.nodup_cons.2 ⟨?_, List.nodup_cons.2 ⟨?_, ?_⟩⟩⟩⟩)
      · simp
      · simp; omega
      · simp; omega
      · simp; omega
      · exact List.pairwise_map.2 (List.nodup_range.imp (fun h e => h (by omega)))
  · rintro k e H ⟨t, c, rfl, hJ, hst, rfl, rfl⟩
    conv => whnf
    refine ifb (fun h1 => ?_) (fun h1 => ?_)
    · subst h1
      conv => whnf
      refine lp (fun k e H => ∃ (m : Nat) (t' : Tb) (c' : Bool), 1 ≤ m ∧ m ≤ n + 1 ∧ k = n + 1 - m ∧ ProgN K G n t t' c' m 1 ∧ H = stI zz W t' ∧ e = (9, .int .i64 m) :: E1N n c') ?_ ?_
      · refine ⟨n + 1, back n _ (by omega) ?_ ⟨1, t, false, by omega, by omega, by omega, ⟨hJ, Nat.le_refl _, by simp, fun _ => ⟨rfl, fun a b g1 g2 g3 g4 => by omega⟩⟩, rfl, rfl⟩⟩
        exact se0 rfl (se0 rfl (se0 rfl (se0 rfl (se0 rfl trivial))))
      · rintro k e H ⟨m, t', c', hm1, hm9, rfl, hP, rfl, rfl⟩
        conv => whnf
        refine ifb (fun h2 => ?_) (fun h2 => ?_)
        · have h2 : m ≤ n := by have := of_decide_eq_true h2; omega
          conv => whnf
          refine lp (fun k e H => ∃ (d : Nat) (t' : Tb) (c' : Bool), 1 ≤ d ∧ d ≤ m + 1 ∧ k = m + 1 - d ∧ ProgN K G n t t' c' m d ∧ H = stI zz W t' ∧ e = (10, .int .i64 d) :: (9, .int .i64 m) :: E1N n c') ?_ ?_
          · refine ⟨m + 1, back m _ (by omega) ?_ ⟨1, t', c', by omega, by omega, by omega, hP, rfl, rfl⟩⟩
            exact se0 rfl (se0 rfl (se0 rfl (se0 rfl (se0 rfl (se0 rfl trivial)))))
          · rintro k e H ⟨d, t', c', hd1, hd9, rfl, hP, rfl, rfl⟩
            conv => whnf
            refine ifb (fun h3 => ?_) (fun h3 => ?_)
            · have h3 : d ≤ m := by have := of_decide_eq_true h3; omega
              have hN := hP.j.tbN hW
              have key := vAgain n m d t' (by omega) (by omega) (by omega) (by omega) hP.j.rl hP.j.rh hP.j.bl hP.j.bh
              obtain ⟨x, hx⟩ : ∃ x, x = againLo n t' m d := ⟨_, rfl⟩
              obtain ⟨y, hy⟩ : ∃ y, y = againHi n t' m d := ⟨_, rfl⟩
              rw [← hx, ← hy] at key
              obtain ⟨H1, hz, hz1, hz2⟩ := frzG zz hN
              have hIL : (([] : List Ob).append (inter t'.lo t'.hi)).length = 2 * W := by
                show (inter t'.lo t'.hi).length = _
                rw [inter_len _ _ (by rw [hN.ll, hN.lh]), hN.ll]
              have hlast : ∀ v : Ob, (stI zz W t' ++ [v]).getD (2 * W + 1 + 1 + 1 + 1) .dead = v := by
                intro v
                have := stI_len (d0 := zz) hN
                rw [List.getD, List.getElem?_append_right (by omega), show 2 * W + 1 + 1 + 1 + 1 - (stI zz W t').length = 0 by omega]; rfl
              have hset : ∀ v w : Ob, (stI zz W t' ++ [v]).set (2 * W + 1 + 1 + 1 + 1) w = stI zz W t' ++ [w] := by
                intro v w
                have := stI_len (d0 := zz) hN
                rw [List.set_append_right _ _ (by omega), show 2 * W + 1 + 1 + 1 + 1 - (stI zz W t').length = 0 by omega]; rfl
              have hm : m < W := by omega
              obtain ⟨rl, hrl0, hrll⟩ := hN.lo hm
              obtain ⟨rh, hrh0, hrhl⟩ := hN.hi hm
              have hgl : t'.lo.getD m [] = rl := by rw [List.getD, hrl0]; rfl
              have hgh : t'.hi.getD m [] = rh := by rw [List.getD, hrh0]; rfl
              obtain ⟨v, hv⟩ : ∃ v, v = Ob.var (D.agg [D.int IntKind.i64 x, D.int IntKind.i64 y]) := ⟨_, rfl⟩
              have hsh : ∀ t2 : Tb, TbN W t2 → shAt (stI zz W t2 ++ [Ob.var (D.agg [D.int IntKind.i64 x, D.int IntKind.i64 y])]) (2 * W + 1 + 1 + 1 + 1) [] = some (.agg [.leaf, .leaf]) := by
                intro t2 h2'
                have := stI_len (d0 := zz) h2'
                unfold shAt
                rw [List.getD, List.getElem?_append_right (by omega), show 2 * W + 1 + 1 + 1 + 1 - (stI zz W t2).length = 0 by omega]; rfl
              have hla : ∀ t2 : Tb, TbN W t2 → (stI zz W t2 ++ [Ob.var (D.agg [D.int IntKind.i64 x, D.int IntKind.i64 y])]).getD (2 * W + 1 + 1 + 1 + 1) .dead = Ob.var (D.agg [D.int IntKind.i64 x, D.int IntKind.i64 y]) := by
                intro t2 h2'
                have := stI_len (d0 := zz) h2'
                rw [List.getD, List.getElem?_append_right (by omega), show 2 * W + 1 + 1 + 1 + 1 - (stI zz W t2).length = 0 by omega]; rfl
              have hN1 : TbN W ⟨t'.lo.set m (rl.set d x), t'.hi⟩ := hN.setlo m _ (by rw [List.length_set]; exact hrll)
              have hupd : updN n t' m d = ⟨t'.lo.set m (rl.set d x), t'.hi.set m (rh.set d y)⟩ := by unfold updN; rw [hgl, hgh, ← hx, ← hy]
              have hNu : TbN W (updN n t' m d) := by rw [hupd]; exact hN1.sethi m _ (by rw [List.length_set]; exact hrhl)
              have hrow : (stI zz W t' ++ [Ob.var (D.agg [D.int IntKind.i64 x, D.int IntKind.i64 y])]).getD (4 + 2 * m) .dead = rowO rl := stI_lo hN hrl0 _
              have hroh : (stI zz W t' ++ [Ob.var (D.agg [D.int IntKind.i64 x, D.int IntKind.i64 y])]).getD (5 + 2 * m) .dead = rowO rh := stI_hi hN hrh0 _
              have hroh1 : (stI zz W ⟨t'.lo.set m (rl.set d x), t'.hi⟩ ++ [Ob.var (D.agg [D.int IntKind.i64 x, D.int IntKind.i64 y])]).getD (5 + 2 * m) .dead = rowO rh := stI_hi hN1 hrh0 _
              have hdl : d < rl.length := by omega
              have hdh : d < rh.length := by omega
              have hrd : (rl.map (D.int .i64))[0 + d]? = some (.int .i64 (gt2 t'.lo m d)) := by
                rw [Nat.zero_add, List.getElem?_map, List.getElem?_eq_getElem hdl]
                unfold gt2
                rw [Int.toNat_natCast, Int.toNat_natCast, hgl, List.getD, List.getElem?_eq_getElem hdl]; rfl
              have hrdh : (rh.map (D.int .i64))[0 + d]? = some (.int .i64 (gt2 t'.hi m d)) := by
                rw [Nat.zero_add, List.getElem?_map, List.getElem?_eq_getElem hdh]
                unfold gt2
                rw [Int.toNat_natCast, Int.toNat_natCast, hgh, List.getD, List.getElem?_eq_getElem hdh]; rfl
              have heq1 : (stI zz W t' ++ [Ob.var (D.agg [D.int IntKind.i64 x, D.int IntKind.i64 y])]).set (4 + 2 * m) (.row .leaf ((rl.map (D.int .i64)).set (0 + d) (.int .i64 x))) = stI zz W ⟨t'.lo.set m (rl.set d x), t'.hi⟩ ++ [Ob.var (D.agg [D.int IntKind.i64 x, D.int IntKind.i64 y])] := by
                rw [Nat.zero_add, setRow]
                exact stI_setlo hN m (rl.set d x) hm _
              have heq2 : (stI zz W ⟨t'.lo.set m (rl.set d x), t'.hi⟩ ++ [Ob.var (D.agg [D.int IntKind.i64 x, D.int IntKind.i64 y])]).set (5 + 2 * m) (.row .leaf ((rh.map (D.int .i64)).set (0 + d) (.int .i64 y))) = stI zz W (updN n t' m d) ++ [Ob.var (D.agg [D.int IntKind.i64 x, D.int IntKind.i64 y])] := by
                rw [Nat.zero_add, setRow, hupd]
                exact stI_sethi hN1 m (rh.set d y) hm _
              have hun : ¬ unchN n t' m d ↔ (x ≠ gt2 t'.lo m d ∨ y ≠ gt2 t'.hi m d) := by
                unfold unchN
                rw [← hx, ← hy]
                omega
              have hstep := fun cc hcc => hP.step hK hn8 hd1 h3 h2 cc hcc
              have hN1' := hN1
              clear hx hy hP hgl hgh hv v hupd hN1 hrl0 hrh0
              conv => whnf
              refine HC.borrow key hz (.cons _ _ _ _ (.agg _ _ (.cons _ _ _ _ hz1 (.cons _ _ _ _ hz2 .nil)) rfl) (.cons _ _ _ _ (.refl _) (.cons _ _ _ _ (.refl _) .nil))) rfl ?_
              clear hz hz1 hz2 key
              rintro r H0' ⟨_, _, rfl⟩
              refine ⟨rfl, ?_⟩
              conv => whnf
              refine nfqL hIL ?_
              conv => whnf
              conv =>
                arg 2
                rw [hlast]
              conv => whnf
              refine drH (hset _ (Ob.var (D.agg [D.int IntKind.i64 x, D.int IntKind.i64 y]))) ?_
              refine drT 28 (by decide +kernel) ?_
              conv => whnf
              refine ifb (fun g0 => ?_) (fun g0 => ?_)
              · subst g0
                conv => whnf
                refine drT 9 (by decide +kernel) ?_
                conv => whnf
                refine ob ⟨by omega, by omega⟩ ?_
                conv => whnf
                refine ⟨.sl (4 + 2 * m) 0 W, by rw [show 0 + ((m : Nat) : Int).toNat = m from by omega]; exact refsI_get 4 W W m (by omega), ?_⟩
                conv => whnf
                refine nfq ?_
                conv => whnf
                conv =>
                  arg 2
                  rw [hsh t' hN]
                conv => whnf
                refine ob ⟨by decide, by decide⟩ ?_
                conv => whnf
                refine nfq ?_
                conv => whnf
                conv =>
                  arg 2
                  rw [hla t' hN]
                conv => whnf
                conv =>
                  arg 2
                  rw [hrow]
                conv => whnf
                refine ob ⟨by omega, by omega⟩ ?_
                conv => whnf
                refine nfq ?_
                conv => whnf
                conv =>
                  arg 2
                  rw [hrow]
                conv => whnf
                refine ob (by rw [List.length_map]; omega) ?_
                conv => whnf
                refine drH heq1 ?_
                refine drT 9 (by decide +kernel) ?_
                conv => whnf
                refine ob ⟨by omega, by omega⟩ ?_
                conv => whnf
                refine ⟨.sl (5 + 2 * m) 0 W, by rw [show 0 + ((m : Nat) : Int).toNat = m from by omega]; exact refsI_get 5 W W m (by omega), ?_⟩
                conv => whnf
                refine nfq ?_
                conv => whnf
                conv =>
                  arg 2
                  rw [hsh ⟨t'.lo.set m (rl.set d x), t'.hi⟩ hN1']
                conv => whnf
                refine ob ⟨by decide, by decide⟩ ?_
                conv => whnf
                refine nfq ?_
                conv => whnf
                conv =>
                  arg 2
                  rw [hla ⟨t'.lo.set m (rl.set d x), t'.hi⟩ hN1']
                conv => whnf
                conv =>
                  arg 2
                  rw [hroh1]
                conv => whnf
                refine ob ⟨by omega, by omega⟩ ?_
                conv => whnf
                refine nfq ?_
                conv => whnf
                conv =>
                  arg 2
                  rw [hroh1]
                conv => whnf
                refine ob (by rw [List.length_map]; omega) ?_
                conv => whnf
                refine iv ((d + 1 : Nat) : Int) (by rw [w64 (by omega) (by omega)]; omega) ?_
                conv => whnf
                refine (congrArg (Back _ _ _ _) heq2).mpr ?_
                refine back_drop (stI zz W (updN n t' m d)) _ (m + 1 - (d + 1)) ((10, .int .i64 (d + 1 : Nat)) :: (9, .int .i64 m) :: E1N n true) (by omega) ?_ (by rw [stI_len hNu]; exact inE_w (by omega) (fun _ => rfl) (fun _ => rfl)) (stI_in hNu (fun n h => rfl)) (Nat.zero_le _) ⟨d + 1, _, true, by omega, by omega, rfl, hstep true ⟨fun _ => .inl rfl, fun _ => rfl⟩, rfl, rfl⟩
                exact se0 rfl (se0 rfl (se0 rfl (se0 rfl (se0 rfl (se0 rfl trivial)))))
              · subst g0
                conv => whnf
                conv =>
                  arg 2
                  rw [hsh t' hN]
                conv => whnf
                refine ob ⟨by decide, by decide⟩ ?_
                conv => whnf
                refine nfq ?_
                conv => whnf
                conv =>
                  arg 2
                  rw [hla t' hN]
                conv => whnf
                refine ob ⟨by omega, by omega⟩ ?_
                conv => whnf
                refine ⟨.sl (4 + 2 * m) 0 W, by rw [show 0 + ((m : Nat) : Int).toNat = m from by omega]; exact refsI_get 4 W W m (by omega), ?_⟩
                conv => whnf
                refine nfq ?_
                conv => whnf
                conv =>
                  arg 2
                  rw [hrow]
                conv => whnf
                refine ob ⟨by omega, by omega⟩ ?_
                conv => whnf
                refine nfq ?_
                conv => whnf
                conv =>
                  arg 2
                  rw [hrow]
                conv => whnf
                refine ⟨_, hrd, ?_⟩
                conv => whnf
                refine ifb (fun g1 => ?_) (fun g1 => ?_)
                · have g1' : x ≠ gt2 t'.lo m d := by
                    have : (!decide (x = gt2 t'.lo m d)) = true := g1
                    simpa using this
                  conv => whnf
                  refine drT 9 (by decide +kernel) ?_
                  conv => whnf
                  refine ob ⟨by omega, by omega⟩ ?_
                  conv => whnf
                  refine ⟨.sl (4 + 2 * m) 0 W, by rw [show 0 + ((m : Nat) : Int).toNat = m from by omega]; exact refsI_get 4 W W m (by omega), ?_⟩
                  conv => whnf
                  refine nfq ?_
                  conv => whnf
                  conv =>
                    arg 2
                    rw [hsh t' hN]
                  conv => whnf
                  refine ob ⟨by decide, by decide⟩ ?_
                  conv => whnf
                  refine nfq ?_
                  conv => whnf
                  conv =>
                    arg 2
                    rw [hla t' hN]
                  conv => whnf
                  conv =>
                    arg 2
                    rw [hrow]
                  conv => whnf
                  refine ob ⟨by omega, by omega⟩ ?_
                  conv => whnf
                  refine nfq ?_
                  conv => whnf
                  conv =>
                    arg 2
                    rw [hrow]
                  conv => whnf
                  refine ob (by rw [List.length_map]; omega) ?_
                  conv => whnf
                  refine drH heq1 ?_
                  refine drT 9 (by decide +kernel) ?_
                  conv => whnf
                  refine ob ⟨by omega, by omega⟩ ?_
                  conv => whnf
                  refine ⟨.sl (5 + 2 * m) 0 W, by rw [show 0 + ((m : Nat) : Int).toNat = m from by omega]; exact refsI_get 5 W W m (by omega), ?_⟩
                  conv => whnf
                  refine nfq ?_
                  conv => whnf
                  conv =>
                    arg 2
                    rw [hsh ⟨t'.lo.set m (rl.set d x), t'.hi⟩ hN1']
                  conv => whnf
                  refine ob ⟨by decide, by decide⟩ ?_
                  conv => whnf
                  refine nfq ?_
                  conv => whnf
                  conv =>
                    arg 2
                    rw [hla ⟨t'.lo.set m (rl.set d x), t'.hi⟩ hN1']
                  conv => whnf
                  conv =>
                    arg 2
                    rw [hroh1]
                  conv => whnf
                  refine ob ⟨by omega, by omega⟩ ?_
                  conv => whnf
                  refine nfq ?_
                  conv => whnf
                  conv =>
                    arg 2
                    rw [hroh1]
                  conv => whnf
                  refine ob (by rw [List.length_map]; omega) ?_
                  conv => whnf
                  refine iv ((d + 1 : Nat) : Int) (by rw [w64 (by omega) (by omega)]; omega) ?_
                  conv => whnf
                  refine (congrArg (Back _ _ _ _) heq2).mpr ?_
                  refine back_drop (stI zz W (updN n t' m d)) _ (m + 1 - (d + 1)) ((10, .int .i64 (d + 1 : Nat)) :: (9, .int .i64 m) :: E1N n true) (by omega) ?_ (by rw [stI_len hNu]; exact inE_w (by omega) (fun _ => rfl) (fun _ => rfl)) (stI_in hNu (fun n h => rfl)) (Nat.zero_le _) ⟨d + 1, _, true, by omega, by omega, rfl, hstep true ⟨fun _ => .inr (hun.2 (.inl g1')), fun _ => rfl⟩, rfl, rfl⟩
                  exact se0 rfl (se0 rfl (se0 rfl (se0 rfl (se0 rfl (se0 rfl trivial)))))
                · have g1' : x = gt2 t'.lo m d := by
                    have : (!decide (x = gt2 t'.lo m d)) = false := g1
                    simpa using this
                  conv => whnf
                  conv =>
                    arg 2
                    rw [hsh t' hN]
                  conv => whnf
                  refine ob ⟨by decide, by decide⟩ ?_
                  conv => whnf
                  refine nfq ?_
                  conv => whnf
                  conv =>
                    arg 2
                    rw [hla t' hN]
                  conv => whnf
                  refine ob ⟨by omega, by omega⟩ ?_
                  conv => whnf
                  refine ⟨.sl (5 + 2 * m) 0 W, by rw [show 0 + ((m : Nat) : Int).toNat = m from by omega]; exact refsI_get 5 W W m (by omega), ?_⟩
                  conv => whnf
                  refine nfq ?_
                  conv => whnf
                  conv =>
                    arg 2
                    rw [hroh]
                  conv => whnf
                  refine ob ⟨by omega, by omega⟩ ?_
                  conv => whnf
                  refine nfq ?_
                  conv => whnf
                  conv =>
                    arg 2
                    rw [hroh]
                  conv => whnf
                  refine ⟨_, hrdh, ?_⟩
                  conv => whnf
                  have g2' : (!decide (y = gt2 t'.hi m d)) = true ∨ (!decide (y = gt2 t'.hi m d)) = false := by cases (!decide (y = gt2 t'.hi m d)) <;> simp
                  rcases g2' with g2 | g2
                  · have g2' : y ≠ gt2 t'.hi m d := by simpa using g2
                    conv => whnf
                    refine drT 9 (by decide +kernel) ?_
                    conv => whnf
                    refine ob ⟨by omega, by omega⟩ ?_
                    conv => whnf
                    refine ⟨.sl (4 + 2 * m) 0 W, by rw [show 0 + ((m : Nat) : Int).toNat = m from by omega]; exact refsI_get 4 W W m (by omega), ?_⟩
                    conv => whnf
                    refine nfq ?_
                    conv => whnf
                    conv =>
                      arg 2
                      rw [hsh t' hN]
                    conv => whnf
                    refine ob ⟨by decide, by decide⟩ ?_
                    conv => whnf
                    refine nfq ?_
                    conv => whnf
                    conv =>
                      arg 2
                      rw [hla t' hN]
                    conv => whnf
                    conv =>
                      arg 2
                      rw [hrow]
                    conv => whnf
                    refine ob ⟨by omega, by omega⟩ ?_
                    conv => whnf
                    refine nfq ?_
                    conv => whnf
                    conv =>
                      arg 2
                      rw [hrow]
                    conv => whnf
                    refine ob (by rw [List.length_map]; omega) ?_
                    conv => whnf
                    refine drH heq1 ?_
                    refine drT 9 (by decide +kernel) ?_
                    conv => whnf
                    refine ob ⟨by omega, by omega⟩ ?_
                    conv => whnf
                    refine ⟨.sl (5 + 2 * m) 0 W, by rw [show 0 + ((m : Nat) : Int).toNat = m from by omega]; exact refsI_get 5 W W m (by omega), ?_⟩
                    conv => whnf
                    refine nfq ?_
                    conv => whnf
                    conv =>
                      arg 2
                      rw [hsh ⟨t'.lo.set m (rl.set d x), t'.hi⟩ hN1']
                    conv => whnf
                    refine ob ⟨by decide, by decide⟩ ?_
                    conv => whnf
                    refine nfq ?_
                    conv => whnf
                    conv =>
                      arg 2
                      rw [hla ⟨t'.lo.set m (rl.set d x), t'.hi⟩ hN1']
                    conv => whnf
                    conv =>
                      arg 2
                      rw [hroh1]
                    conv => whnf
                    refine ob ⟨by omega, by omega⟩ ?_
                    conv => whnf
                    refine nfq ?_
                    conv => whnf
                    conv =>
                      arg 2
                      rw [hroh1]
                    conv => whnf
                    refine ob (by rw [List.length_map]; omega) ?_
                    conv => whnf
                    refine iv ((d + 1 : Nat) : Int) (by rw [w64 (by omega) (by omega)]; omega) ?_
                    conv => whnf
                    refine (congrArg (Back _ _ _ _) heq2).mpr ?_
                    refine back_drop (stI zz W (updN n t' m d)) _ (m + 1 - (d + 1)) ((10, .int .i64 (d + 1 : Nat)) :: (9, .int .i64 m) :: E1N n true) (by omega) ?_ (by rw [stI_len hNu]; exact inE_w (by omega) (fun _ => rfl) (fun _ => rfl)) (stI_in hNu (fun n h => rfl)) (Nat.zero_le _) ⟨d + 1, _, true, by omega, by omega, rfl, hstep true ⟨fun _ => .inr (hun.2 (.inr g2')), fun _ => rfl⟩, rfl, rfl⟩
                    exact se0 rfl (se0 rfl (se0 (congrArg D.bool g2) (se0 rfl (se0 rfl (se0 rfl trivial)))))
                  · have g2' : y = gt2 t'.hi m d := by simpa using g2
                    have hccF : (false = true ↔ (false = true ∨ ¬ unchN n t' m d)) := by rw [hun]; simp [g1', g2']
                    conv => whnf
                    refine drT 9 (by decide +kernel) ?_
                    conv => whnf
                    refine ob ⟨by omega, by omega⟩ ?_
                    conv => whnf
                    refine ⟨.sl (4 + 2 * m) 0 W, by rw [show 0 + ((m : Nat) : Int).toNat = m from by omega]; exact refsI_get 4 W W m (by omega), ?_⟩
                    conv => whnf
                    refine nfq ?_
                    conv => whnf
                    conv =>
                      arg 2
                      rw [hsh t' hN]
                    conv => whnf
                    refine ob ⟨by decide, by decide⟩ ?_
                    conv => whnf
                    refine nfq ?_
                    conv => whnf
                    conv =>
                      arg 2
                      rw [hla t' hN]
                    conv => whnf
                    conv =>
                      arg 2
                      rw [hrow]
                    conv => whnf
                    refine ob ⟨by omega, by omega⟩ ?_
                    conv => whnf
                    refine nfq ?_
                    conv => whnf
                    conv =>
                      arg 2
                      rw [hrow]
                    conv => whnf
                    refine ob (by rw [List.length_map]; omega) ?_
                    conv => whnf
                    refine drH heq1 ?_
                    refine drT 9 (by decide +kernel) ?_
                    conv => whnf
                    refine ob ⟨by omega, by omega⟩ ?_
                    conv => whnf
                    refine ⟨.sl (5 + 2 * m) 0 W, by rw [show 0 + ((m : Nat) : Int).toNat = m from by omega]; exact refsI_get 5 W W m (by omega), ?_⟩
                    conv => whnf
                    refine nfq ?_
                    conv => whnf
                    conv =>
                      arg 2
                      rw [hsh ⟨t'.lo.set m (rl.set d x), t'.hi⟩ hN1']
                    conv => whnf
                    refine ob ⟨by decide, by decide⟩ ?_
                    conv => whnf
                    refine nfq ?_
                    conv => whnf
                    conv =>
                      arg 2
                      rw [hla ⟨t'.lo.set m (rl.set d x), t'.hi⟩ hN1']
                    conv => whnf
                    conv =>
                      arg 2
                      rw [hroh1]
                    conv => whnf
                    refine ob ⟨by omega, by omega⟩ ?_
                    conv => whnf
                    refine nfq ?_
                    conv => whnf
                    conv =>
                      arg 2
                      rw [hroh1]
                    conv => whnf
                    refine ob (by rw [List.length_map]; omega) ?_
                    conv => whnf
                    refine iv ((d + 1 : Nat) : Int) (by rw [w64 (by omega) (by omega)]; omega) ?_
                    conv => whnf
                    refine (congrArg (Back _ _ _ _) heq2).mpr ?_
                    refine back_drop (stI zz W (updN n t' m d)) _ (m + 1 - (d + 1)) ((10, .int .i64 (d + 1 : Nat)) :: (9, .int .i64 m) :: E1N n false) (by omega) ?_ (by rw [stI_len hNu]; exact inE_w (by omega) (fun _ => rfl) (fun _ => rfl)) (stI_in hNu (fun n h => rfl)) (Nat.zero_le _) ⟨d + 1, _, false, by omega, by omega, rfl, hstep false hccF, rfl, rfl⟩
                    exact se0 rfl (se0 rfl (se0 (congrArg D.bool g2) (se0 rfl (se0 rfl (se0 rfl trivial)))))
            · have : d = m + 1 := by have := of_decide_eq_false h3; omega
              subst this
              conv => whnf
              refine iv ((m + 1 : Nat) : Int) (by rw [w64 (by omega) (by omega)]; omega) ?_
              conv => whnf
              refine back (n + 1 - (m + 1)) _ (by omega) ?_ ⟨m + 1, t', c', by omega, by omega, rfl, hP.row, rfl, rfl⟩
              exact se0 rfl (se0 rfl (se0 rfl (se0 rfl (se0 rfl trivial))))
        · have : m = n + 1 := by have := of_decide_eq_false h2; omega
          subst this
          conv => whnf
          refine back (if c' then muN n t' + 1 else 0) _ ?_ ?_ ⟨t', c', rfl, hP.j, ?_, rfl, rfl⟩
          · cases c' with
            | false => simp
            | true => have := hP.lt rfl; simp; omega
          · exact se0 rfl (se0 rfl (se0 rfl (se0 rfl trivial)))
          · intro hc m d g1 g2 g3
            obtain ⟨e1, e2⟩ := hP.same hc
            rw [e1]
            exact e2 m d g1 g2 g3 (by omega)
    · subst h1
      conv => whnf
      exact ⟨t, hJ, hst rfl, rfl, rfl⟩

end Go.Proofs.Ythplmnpfaagciaa.Pw

/- The reference: closures, and whether a bound has a reason. -/
set_option linter.unusedVariables false
set_option linter.unusedSimpArgs false
namespace Go.Proofs.Ythplmnpfaagciaa.Pw
open Go

theorem vWholeG (n : Nat) (hn1 : 1 ≤ n) (hn8 : n ≤ 8) (fk fg : Bool) (K : List Known) (G : List Int) (hK : rightK K = true) :
    Val Try.prog 23 [.int .i64 n, knownsD fk K, intsD fg G] (fun r => ∃ t, TbN (n + 1) t ∧ (∀ m d : Nat, 1 ≤ d → d ≤ m → m ≤ n → gt2 t.lo m d = bst K G n ⟨m, d, false⟩ ∧ gt2 t.hi m d = bst K G n ⟨m, d, true⟩) ∧ r = t.D) := by
  refine HC.ret (hcWholeG n hn1 hn8 fk fg K G hK) ?_
  rintro r H' ⟨t, hT, hfix, rfl, rfl⟩
  have hN := hT.tbN (W := n + 1) rfl
  have hf : ∀ s, isC n s → ag n t s = tv t s := by
    intro s hs
    have h1 := hs.1; have h2 := hs.2.1; have h3 := hs.2.2
    obtain ⟨sn, sd, su⟩ := s
    simp only at h1 h2 h3
    obtain ⟨a, rfl⟩ : ∃ a : Nat, sn = a := ⟨sn.toNat, by omega⟩
    obtain ⟨b, rfl⟩ : ∃ b : Nat, sd = b := ⟨sd.toNat, by omega⟩
    have := hfix a b (by omega) (by omega) (by omega)
    cases su
    · exact this.1
    · exact this.2
  obtain ⟨H1, hz, hz1, hz2⟩ := frzG (.agg [.sl 2 0 (n + 1), .sl 3 0 (n + 1)]) hN
  refine ⟨H1, t.D, hz, .agg _ _ (.cons _ _ _ _ hz1 (.cons _ _ _ _ hz2 .nil)) rfl, rfl, t, hN, ?_, rfl⟩
  intro m d h1 h2 h3
  have hc : ∀ u, isC n ⟨(m : Int), (d : Int), u⟩ := fun u => ⟨by simp only; omega, by simp only; omega, by simp only; omega⟩
  exact ⟨(hT.best hf (hc false)).symm, (hT.best hf (hc true)).symm⟩

theorem tab_row {N : Nat} {l : List (List Int)} (hl : l.length = N) (hr : ∀ r ∈ l, r.length = N) {m d : Nat} (hm : m < N) (hd : d < N) :
    ∃ r, (l.map rowD)[m]? = some (rowD r) ∧ (r.map (D.int .i64))[d]? = some (.int .i64 (gt2 l m d)) := by
  have h1 : m < l.length := by omega
  have h2 := hr _ (List.getElem_mem h1)
  have h3 : d < l[m].length := by omega
  refine ⟨l[m], by rw [List.getElem?_map, List.getElem?_eq_getElem h1]; rfl, ?_⟩
  rw [List.getElem?_map, List.getElem?_eq_getElem h3]
  unfold gt2
  rw [Int.toNat_natCast, Int.toNat_natCast, getD_in h1, getD_in h3]; rfl

theorem vWhetherR (fk fg : Bool) (K : List Known) (G : List Int) (k : Known) :
    Val Try.prog 17 [knownsD fk K, intsD fg G, k.D] (fun r => ∃ e, r = .int .i64 e ∧ ((rightK K = false ∨ ¬ isC 8 k.s) → e = 1) ∧ (rightK K = true → isC 8 k.s → bst K G 8 k.s ≠ k.v → e = 4) ∧ (rightK K = true → isC 8 k.s → bst K G 8 k.s = k.v → e = 0)) := by
  refine Val.of ?_
  refine hc_ofS (okc Try.f17.ntmps 0) (fn := Try.f17) (cd := _) rfl rfl rfl rfl rfl rfl (fun hbd => ?_)
  conv => whnf
  refine Val.call (vRightR fk K) (.refl _) (ler _ _) rfl ?_
  rintro r rfl
  have h1c : rightK K = true ∨ rightK K = false := by cases rightK K <;> simp
  rcases h1c with h1 | h1
  · rw [h1]
    conv => whnf
    refine Val.call (vIs k.n k.d 8) (.refl _) (ler _ _) rfl ?_
    rintro r rfl
    conv => whnf
    refine ifb (fun c1 => ?_) (fun c1 => ?_)
    · have c1 : ¬ isC 8 k.s := by
        have c1 : (!isCell k.n k.d 8) = true := c1
        intro h
        rw [cell_isC.2 (show isC 8 ⟨k.n, k.d, k.up⟩ from h)] at c1; cases c1
      conv => whnf
      exact ⟨rfl, 1, rfl, fun _ => rfl, fun _ h => absurd h c1, fun _ h => absurd h c1⟩
    have c1 : isC 8 k.s := by
      have c1 : (!isCell k.n k.d 8) = false := c1
      exact (cell_isC (u := k.up)).1 (by simpa using c1)
    have hd1 := c1.1
    have hd2 := c1.2.1
    have hd3 := c1.2.2
    have hks : k.s = ⟨k.n, k.d, k.up⟩ := rfl
    rw [hks] at hd1 hd2 hd3
    simp only at hd1 hd2 hd3
    conv => whnf
    refine Val.call (vWholeG 8 (by omega) (by omega) fk fg K G h1) (.refl _) (ler _ _) rfl ?_
    rintro r ⟨t, hN, hbest, rfl⟩
    obtain ⟨m, hm⟩ : ∃ m : Nat, k.n = m := ⟨k.n.toNat, by omega⟩
    obtain ⟨d, hd⟩ : ∃ d : Nat, k.d = d := ⟨k.d.toNat, by omega⟩
    have hb := hbest m d (by omega) (by omega) (by omega)
    obtain ⟨ra, ga1, ga2⟩ := tab_row hN.ll hN.rl (m := m) (d := d) (by omega) (by omega)
    obtain ⟨rb, gb1, gb2⟩ := tab_row hN.lh hN.rh (m := m) (d := d) (by omega) (by omega)
    have ga1' : (t.lo.map rowD)[k.n.toNat]? = some (rowD ra) := by rw [hm]; exact ga1
    have gb1' : (t.hi.map rowD)[k.n.toNat]? = some (rowD rb) := by rw [hm]; exact gb1
    have ga2' : (ra.map (D.int .i64))[k.d.toNat]? = some (.int .i64 (gt2 t.lo m d)) := by rw [hd]; exact ga2
    have gb2' : (rb.map (D.int .i64))[k.d.toNat]? = some (.int .i64 (gt2 t.hi m d)) := by rw [hd]; exact gb2
    conv => whnf
    refine drT 37 (by decide +kernel) ?_
    conv => whnf
    refine ifb (fun c2 => ?_) (fun c2 => ?_)
    · have c2 : k.up = true := c2
      have hv : bst K G 8 k.s = gt2 t.hi m d := by rw [hks, hm, hd, c2]; exact hb.2.symm
      conv => whnf
      refine ob (by omega) ⟨rowD rb, gb1', ?_⟩
      conv => whnf
      refine ob (by omega) ⟨_, gb2', ?_⟩
      conv => whnf
      refine ifb (fun c3 => ?_) (fun c3 => ?_)
      · have c3 : gt2 t.hi m d ≠ k.v := by
          have c3 : (!decide (gt2 t.hi m d = k.v)) = true := c3
          simpa using c3
        conv => whnf
        exact ⟨rfl, 4, rfl, fun h => by rcases h with h | h; (cases h); exact absurd c1 h, fun _ _ _ => rfl, fun _ _ h => absurd (hv.symm.trans h) c3⟩
      · have c3 : gt2 t.hi m d = k.v := by
          have c3 : (!decide (gt2 t.hi m d = k.v)) = false := c3
          simpa using c3
        conv => whnf
        refine ifb (fun c4 => ?_) (fun c4 => ?_)
        · have c4 : (!k.up) = true := c4
          rw [c2] at c4; cases c4
        conv => whnf
        exact ⟨rfl, 0, rfl, fun h => by rcases h with h | h; (cases h); exact absurd c1 h, fun _ _ h => absurd (hv.trans c3) h, fun _ _ _ => rfl⟩
    · have c2 : k.up = false := c2
      have hv : bst K G 8 k.s = gt2 t.lo m d := by rw [hks, hm, hd, c2]; exact hb.1.symm
      conv => whnf
      refine ifb (fun c4 => ?_) (fun c4 => ?_)
      · conv => whnf
        refine ob (by omega) ⟨rowD ra, ga1', ?_⟩
        conv => whnf
        refine ob (by omega) ⟨_, ga2', ?_⟩
        conv => whnf
        refine ifb (fun c3 => ?_) (fun c3 => ?_)
        · have c3 : gt2 t.lo m d ≠ k.v := by
            have c3 : (!decide (gt2 t.lo m d = k.v)) = true := c3
            simpa using c3
          conv => whnf
          exact ⟨rfl, 4, rfl, fun h => by rcases h with h | h; (cases h); exact absurd c1 h, fun _ _ _ => rfl, fun _ _ h => absurd (hv.symm.trans h) c3⟩
        · have c3 : gt2 t.lo m d = k.v := by
            have c3 : (!decide (gt2 t.lo m d = k.v)) = false := c3
            simpa using c3
          conv => whnf
          exact ⟨rfl, 0, rfl, fun h => by rcases h with h | h; (cases h); exact absurd c1 h, fun _ _ h => absurd (hv.trans c3) h, fun _ _ _ => rfl⟩
      · have c4 : (!k.up) = false := c4
        rw [c2] at c4; cases c4
  · rw [h1]
    conv => whnf
    exact ⟨rfl, 1, rfl, fun _ => rfl, (fun h => by cases h), (fun h => by cases h)⟩

end Go.Proofs.Ythplmnpfaagciaa.Pw

/- The reference: closures; and why, with its value. -/
set_option linter.unusedVariables false
set_option linter.unusedSimpArgs false
namespace Go.Proofs.Ythplmnpfaagciaa.Pw
open Go

/-! ### Why has one result -/
theorem Chain.uniq {st : List Stp} {i : Nat} {L : List Stp} (h : Chain st i L) : ∀ {L' : List Stp}, Chain st i L' → L = L' := by
  induction h with
  | base i x hx hb =>
    intro L' h'
    cases h' with
    | base _ y hy _ => rw [hx] at hy; cases hy; rfl
    | step _ j y L hy hb2 _ _ _ => rw [hx] at hy; cases hy; omega
  | step i j x L hx hb hat hji hL ih =>
    intro L' h'
    cases h' with
    | base _ y hy hb2 => rw [hx] at hy; cases hy; omega
    | step _ j' y L2 hy _ hat2 _ hL2 =>
      rw [hx] at hy; cases hy
      have e : j = j' := by
        have e : [(j : Int)] = [(j' : Int)] := hat.symm.trans hat2
        simp at e; omega
      subst e
      rw [ih hL2]
theorem WhyR.uniq {K : List Known} {G : List Int} {k : Known} {L L' : List Stp} {e e' : Int} (h : WhyR K G k L e) (h' : WhyR K G k L' e') : L = L' ∧ e = e' := by
  have hc : rightK K = true ∨ rightK K = false := by cases rightK K <;> simp
  rcases hc with hK | hK
  · by_cases hs : isC 8 k.s
    · by_cases hb : bst K G 8 k.s = k.v
      · obtain ⟨rfl, l, i, ⟨hl, hlS⟩, hi, hch⟩ := h.ok hK hs hb
        obtain ⟨rfl, l', i', ⟨_, hlS'⟩, hi', hch'⟩ := h'.ok hK hs hb
        have := hlS.uniq hlS'
        subst this
        rw [hi] at hi'; cases hi'
        exact ⟨hch.uniq hch', rfl⟩
      · obtain ⟨rfl, rfl⟩ := h.none hK hs hb
        obtain ⟨rfl, rfl⟩ := h'.none hK hs hb
        exact ⟨rfl, rfl⟩
    · obtain ⟨rfl, rfl⟩ := h.bad (.inr hs)
      obtain ⟨rfl, rfl⟩ := h'.bad (.inr hs)
      exact ⟨rfl, rfl⟩
  · obtain ⟨rfl, rfl⟩ := h.bad (.inl hK)
    obtain ⟨rfl, rfl⟩ := h'.bad (.inl hK)
    exact ⟨rfl, rfl⟩
open Classical in
noncomputable def whyX (K : List Known) (G : List Int) (k : Known) : List Stp × Int :=
  if h : ∃ p : List Stp × Int, WhyR K G k p.1 p.2 then Classical.choose h else ([], 0)
theorem whyX_eq {K : List Known} {G : List Int} {k : Known} {L : List Stp} {e : Int} (h : WhyR K G k L e) : whyX K G k = (L, e) := by
  have hex : ∃ p : List Stp × Int, WhyR K G k p.1 p.2 := ⟨(L, e), h⟩
  unfold whyX
  rw [dif_pos hex]
  have := (Classical.choose_spec hex).uniq h
  exact Prod.ext this.1 this.2
open Classical in
noncomputable def whyE (K : List Known) (G : List Int) (k : Known) : Int := if rightK K = true ∧ isC 8 k.s then (if bst K G 8 k.s = k.v then 0 else 4) else 1
theorem whyE_of {K : List Known} {G : List Int} {k : Known} {e : Int} (h1 : (rightK K = false ∨ ¬ isC 8 k.s) → e = 1) (h2 : rightK K = true → isC 8 k.s → bst K G 8 k.s ≠ k.v → e = 4) (h3 : rightK K = true → isC 8 k.s → bst K G 8 k.s = k.v → e = 0) : e = whyE K G k := by
  unfold whyE
  by_cases hc : rightK K = true ∧ isC 8 k.s
  · rw [if_pos hc]
    by_cases hb : bst K G 8 k.s = k.v
    · rw [if_pos hb]; exact h3 hc.1 hc.2 hb
    · rw [if_neg hb]; exact h2 hc.1 hc.2 hb
  · rw [if_neg hc]
    refine h1 ?_
    cases hr : rightK K
    · exact .inl rfl
    · exact .inr (fun h => hc ⟨hr, h⟩)
theorem WhyR.e {K : List Known} {G : List Int} {k : Known} {L : List Stp} {e : Int} (h : WhyR K G k L e) : e = whyE K G k :=
  whyE_of (fun hh => (h.bad hh).2) (fun a b c => (h.none a b c).2) (fun a b c => (h.ok a b c).1)
theorem vWhyX (fk fg : Bool) (K : List Known) (G : List Int) (k : Known) :
    Val Try.prog 16 [knownsD fk K, intsD fg G, k.D] (fun r => r = .agg [stepsD (whyX K G k).1, .int .i64 (whyE K G k)]) := by
  refine (vWhyL fk fg K G k).mono ?_
  rintro r ⟨L, e, rfl, h⟩
  rw [whyX_eq h, h.e]
theorem vWhetherX (fk fg : Bool) (K : List Known) (G : List Int) (k : Known) : Val Try.prog 17 [knownsD fk K, intsD fg G, k.D] (fun r => r = .int .i64 (whyE K G k)) := by
  refine (vWhetherR fk fg K G k).mono ?_
  rintro r ⟨e, rfl, h1, h2, h3⟩
  rw [whyE_of h1 h2 h3]
/-- The steps of why are accepted. -/
theorem WhyR.check {K : List Known} {G : List Int} {k : Known} {L : List Stp} {e : Int} (h : WhyR K G k L e) : L = [] ∨ checkR K G L = 0 := by
  have hc : rightK K = true ∨ rightK K = false := by cases rightK K <;> simp
  rcases hc with hK | hK
  · by_cases hs : isC 8 k.s
    · by_cases hb : bst K G 8 k.s = k.v
      · exact .inr (h.good hK hs hb).2.1
      · exact .inl (h.none hK hs hb).1
    · exact .inl (h.bad (.inr hs)).1
  · exact .inl (h.bad (.inl hK)).1

/-! ### CloseIn -/
theorem cl_tb (t : Tb) : clD t.D = true := rfl

set_option maxHeartbeats 40000000 in
theorem vCloseIn (fk fg : Bool) (K : List Known) (G : List Int) (n : Int) : Val Try.prog 15 [.int .i64 n, knownsD fk K, intsD fg G] (fun r => r = closedD (closeR K G n)) := by
  refine HC.ret (Q0 := fun r H' => (r = .agg [.nils, .int .i64 (closeR K G n).2] ∧ (closeR K G n).1 = []) ∨ ∃ cs d0 d1, closeR K G n = (cs, 0) ∧ r = .agg [.sl 3 0 cs.length, .int .i64 0] ∧ H' = [.var d0, .var d1, .var (.agg [.sl 3 0 cs.length, .int .i64 0]), .row sh4 (cs.map CellM.D)]) ?_ ?_
  · have early : ¬ (1 ≤ n ∧ n ≤ 8 ∧ rightK K = true) → closeR K G n = ([], 1) := fun h => by unfold closeR; rw [if_neg h]
    refine hc_ofS (okc Try.f15.ntmps 0) (fn := Try.f15) (cd := _) rfl rfl rfl rfl rfl rfl (fun hbd => ?_)
    conv => whnf
    refine ifb (fun c1 => ?_) (fun c1 => ?_)
    · have c1 : n < 1 := of_decide_eq_true c1
      have he := early (fun h => by omega)
      conv => whnf
      exact .inl ⟨by rw [he]; rfl, by rw [he]⟩
    have c1 : 1 ≤ n := by have := of_decide_eq_false c1; omega
    conv => whnf
    refine ifb (fun c2 => ?_) (fun c2 => ?_)
    · have c2 : 8 < n := of_decide_eq_true c2
      have he := early (fun h => by omega)
      conv => whnf
      exact .inl ⟨by rw [he]; rfl, by rw [he]⟩
    have c2 : n ≤ 8 := by have := of_decide_eq_false c2; omega
    conv => whnf
    refine Val.call (vRightR fk K) (.refl _) (ler _ _) rfl ?_
    rintro r rfl
    have h1c : rightK K = true ∨ rightK K = false := by cases rightK K <;> simp
    rcases h1c with h1 | h1
    · obtain ⟨N, rfl⟩ : ∃ N : Nat, n = N := ⟨n.toNat, by omega⟩
      have hcl := close_cases h1 G (n := N) (by omega) (by omega)
      have hW := vWholeG N (by omega) (by omega) fk fg K G h1
      rw [if_pos h1]
      conv => whnf
      refine Val.call hW (.refl _) (ler _ _) rfl ?_
      rintro r ⟨t, hN, hbest, rfl⟩
      have hc0 : (2 : Nat) * (cellsC K G N N).length = N * (N + 1) := cells_len2 N
      have hNN : 1 * 2 ≤ N * (N + 1) := Nat.mul_le_mul (by omega) (by omega)
      conv => whnf
      refine lp (fun q e H => ∃ (k : Nat) (cs : List CellM) (ob : Ob) (dd : D), k ≤ N ∧ q = N - k ∧ cs = cellsC K G N k ∧ okCells cs ∧ OutR cs ob dd ∧ H = [.var (.agg [.nils, .int .i64 0]), .var t.D, .var (.agg [dd, .int .i64 0]), ob] ∧ e = [(9, .int .i64 (k + 1 : Nat)), (8, .ptr 2 []), (7, .ptr 1 []), (6, .ptr 0 []), (0, .int .i64 N)]) ?_ ?_
      · refine ⟨N + 1, N, _, [.var (.agg [.nils, .int .i64 0]), .var t.D, .var (.agg [.nils, .int .i64 0]), .dead], by omega, ⟨_, .refl _, .inr ⟨[0, 1, 2, 3], ⟨?_, ?_, rfl, rfl⟩⟩⟩, 0, [], .dead, .nils, by omega, rfl, rfl, (fun c hc => by simp at hc), .inl ⟨rfl, rfl, rfl⟩, rfl, rfl⟩
        · exact ⟨.refl _, rfl, .refl _, rfl, .refl _, rfl, .refl _, rfl, .refl _, rfl, trivial⟩
        · refine ⟨rfl, rfl, ?_, rfl, rfl, rfl, rfl, rfl, trivial⟩
          show Ob.var t.D = Ob.var (renD _ t.D)
          rw [ren_cl _ _ (cl_tb t)]
      · rintro q e H ⟨k, cs, ob, dd, hk, rfl, hcs, hok, hout, rfl, rfl⟩
        conv => whnf
        refine ifb (fun c3 => ?_) (fun c3 => ?_)
        · have c3 : k < N := by have := of_decide_eq_true c3; omega
          conv => whnf
          refine lp (fun q e H => ∃ (j : Nat) (cs : List CellM) (ob : Ob) (dd : D), j ≤ k + 1 ∧ q = k + 1 - j ∧ cs = cellsC K G N k ++ rowC K G N (k + 1) j ∧ okCells cs ∧ OutR cs ob dd ∧ H = [.var (.agg [.nils, .int .i64 0]), .var t.D, .var (.agg [dd, .int .i64 0]), ob] ∧ e = (10, .int .i64 (j + 1 : Nat)) :: [(9, .int .i64 (k + 1 : Nat)), (8, .ptr 2 []), (7, .ptr 1 []), (6, .ptr 0 []), (0, .int .i64 N)]) ?_ ?_
          · refine ⟨k + 2, back (k + 1) _ (by omega) ?_ ⟨0, cs, ob, dd, by omega, rfl, by rw [rowC, List.append_nil]; exact hcs, hok, hout, rfl, rfl⟩⟩
            exact se0 rfl (se0 rfl (se0 rfl (se0 rfl (se0 rfl (se0 rfl trivial)))))
          · rintro q e H ⟨j, cs, ob, dd, hj, rfl, hcs, hok, hout, rfl, rfl⟩
            conv => whnf
            refine ifb (fun c4 => ?_) (fun c4 => ?_)
            · have c4 : j < k + 1 := by have := of_decide_eq_true c4; omega
              have hb := hbest (k + 1) (j + 1) (by omega) (by omega) (by omega)
              obtain ⟨ra, ga1, ga2⟩ := tab_row hN.ll hN.rl (m := k + 1) (d := j + 1) (by omega) (by omega)
              obtain ⟨rb, gb1, gb2⟩ := tab_row hN.lh hN.rh (m := k + 1) (d := j + 1) (by omega) (by omega)
              rw [hb.1] at ga2
              rw [hb.2] at gb2
              have hlenc : cs.length ≤ 100 := by
                rw [hcs, List.length_append, row_len]
                have h1 := cells_len (K := K) (G := G) (n := N) k
                have h2 : k * k ≤ 7 * 7 := Nat.mul_le_mul (by omega) (by omega)
                omega
              conv => whnf
              refine drT 17 (by decide +kernel) ?_
              conv => whnf
              refine Pw.ob (by omega) ⟨rowD ra, ga1, ?_⟩
              conv => whnf
              refine Pw.ob (by omega) ⟨_, ga2, ?_⟩
              conv => whnf
              refine Pw.ob (by omega) ⟨rowD rb, gb1, ?_⟩
              conv => whnf
              refine Pw.ob (by omega) ⟨_, gb2, ?_⟩
              conv => whnf
              refine ifb (fun c5 => ?_) (fun c5 => ?_)
              · have c5 : bst K G N ⟨(k + 1 : Nat), (j + 1 : Nat), true⟩ < bst K G N ⟨(k + 1 : Nat), (j + 1 : Nat), false⟩ := of_decide_eq_true c5
                have he : closeR K G N = ([], 6) := by
                  rcases hcl with ⟨h, _⟩ | ⟨_, h⟩
                  · exact h
                  · have := h (cellM K G N (k + 1) (j + 1)) ((mem_cellsC N).2 ⟨k + 1, j + 1, by omega, by omega, by omega, rfl⟩)
                    simp only [cellM] at this
                    omega
                conv => whnf
                exact .inl ⟨by rw [he]; rfl, by rw [he]⟩
              have c5 : bst K G N ⟨(k + 1 : Nat), (j + 1 : Nat), false⟩ ≤ bst K G N ⟨(k + 1 : Nat), (j + 1 : Nat), true⟩ := by have := of_decide_eq_false c5; omega
              have hcs2 : cs ++ [cellM K G N (k + 1) (j + 1)] = cellsC K G N k ++ rowC K G N (k + 1) (j + 1) := by rw [hcs, rowC, List.append_assoc]
              have hok2 : okCells (cs ++ [cellM K G N (k + 1) (j + 1)]) := by
                intro c hc
                rcases List.mem_append.1 hc with hc | hc
                · exact hok c hc
                · simp at hc; subst hc; exact c5
              clear hcs hok
              rcases hout with ⟨rfl, rfl, rfl⟩ | ⟨rfl, rfl⟩
              · conv => whnf
                refine drT 22 (by decide +kernel) ?_
                conv => whnf
                refine Pw.ob (by omega) ⟨rowD ra, ga1, ?_⟩
                conv => whnf
                refine Pw.ob (by omega) ⟨_, ga2, ?_⟩
                conv => whnf
                refine Pw.ob (by omega) ⟨rowD rb, gb1, ?_⟩
                conv => whnf
                refine Pw.ob (by omega) ⟨_, gb2, ?_⟩
                conv => whnf
                refine Pw.ob (Nat.le_refl 1) ?_
                conv => whnf
                refine Pw.ob (show 1 ≤ 2147483648 by omega) ?_
                conv => whnf
                refine iv ((j + 1 + 1 : Nat) : Int) (by rw [w64 (by omega) (by omega)]; omega) ?_
                conv => whnf
                refine ⟨k + 1 - (j + 1), [(10, .int .i64 (j + 1 + 1 : Nat)), (9, .int .i64 (k + 1 : Nat)), (8, .ptr 2 []), (7, .ptr 1 []), (6, .ptr 0 []), (0, .int .i64 N)], [.var (.agg [.nils, .int .i64 0]), .var t.D, .var (.agg [.sl 3 0 (([] : List CellM) ++ [cellM K G N (k + 1) (j + 1)]).length, .int .i64 0]), .row sh4 ((([] : List CellM) ++ [cellM K G N (k + 1) (j + 1)]).map CellM.D)], by omega, ⟨_, .refl _, .inr ⟨[0, 1, 2, 5], ⟨?_, ?_, rfl, rfl⟩⟩⟩, j + 1, _, _, _, by omega, rfl, hcs2, hok2, .inr ⟨rfl, rfl⟩, rfl, rfl⟩
                · exact ⟨.refl _, rfl, .refl _, rfl, .refl _, rfl, .refl _, rfl, .refl _, rfl, .refl _, rfl, trivial⟩
                · refine ⟨rfl, rfl, ?_, rfl, ?_, ?_, ?_, in_cls _ _ (cl_cells _), trivial⟩
                  · show Ob.var t.D = Ob.var (renD _ t.D)
                    rw [ren_cl _ _ (cl_tb t)]
                  · show Ob.var (.agg [.sl 5 0 1, .int .i64 0]) = Ob.var (.agg [.sl 5 0 (([] : List CellM) ++ [_]).length, .int .i64 0])
                    simp only [List.length_append, List.length_cons, List.length_nil]
                  · rfl
                  · simp only [renO, ren_cls _ _ (cl_cells _)]
                    rfl
              · conv => whnf
                refine drT 22 (by decide +kernel) ?_
                conv => whnf
                refine Pw.ob (by omega) ⟨rowD ra, ga1, ?_⟩
                conv => whnf
                refine Pw.ob (by omega) ⟨_, ga2, ?_⟩
                conv => whnf
                refine Pw.ob (by omega) ⟨rowD rb, gb1, ?_⟩
                conv => whnf
                refine Pw.ob (by omega) ⟨_, gb2, ?_⟩
                conv => whnf
                refine Pw.ob (Nat.le_refl 1) ?_
                conv => whnf
                refine Pw.ob (by simp) ?_
                refine Pw.ob (show cs.length + 1 ≤ 2147483648 by omega) ?_
                conv => whnf
                refine iv ((j + 1 + 1 : Nat) : Int) (by rw [w64 (by omega) (by omega)]; omega) ?_
                conv => whnf
                refine ⟨k + 1 - (j + 1), [(10, .int .i64 (j + 1 + 1 : Nat)), (9, .int .i64 (k + 1 : Nat)), (8, .ptr 2 []), (7, .ptr 1 []), (6, .ptr 0 []), (0, .int .i64 N)], [.var (.agg [.nils, .int .i64 0]), .var t.D, .var (.agg [.sl 3 0 (cs ++ [cellM K G N (k + 1) (j + 1)]).length, .int .i64 0]), .row sh4 ((cs ++ [cellM K G N (k + 1) (j + 1)]).map CellM.D)], by omega, ⟨_, .refl _, .inr ⟨[0, 1, 2, 5], ⟨?_, ?_, rfl, rfl⟩⟩⟩, j + 1, _, _, _, by omega, rfl, hcs2, hok2, .inr ⟨rfl, rfl⟩, rfl, rfl⟩
                · exact ⟨.refl _, rfl, .refl _, rfl, .refl _, rfl, .refl _, rfl, .refl _, rfl, .refl _, rfl, trivial⟩
                · refine ⟨rfl, rfl, ?_, rfl, ?_, ?_, ?_, in_cls _ _ (cl_cells _), trivial⟩
                  · show Ob.var t.D = Ob.var (renD _ t.D)
                    rw [ren_cl _ _ (cl_tb t)]
                  · show Ob.var (.agg [.sl 5 0 (cs.length + 1), .int .i64 0]) = Ob.var (.agg [.sl 5 0 (cs ++ [_]).length, .int .i64 0])
                    simp only [List.length_append, List.length_cons, List.length_nil]
                  · rfl
                  · simp only [renO, ren_cls _ _ (cl_cells _)]
                    rw [show (cs ++ [cellM K G N (k + 1) (j + 1)]).map CellM.D = ((cs.map CellM.D).drop 0).take cs.length ++ [(cellM K G N (k + 1) (j + 1)).D] from by simp [List.take_of_length_le]]
                    rfl
            · have : j = k + 1 := by have := of_decide_eq_false c4; omega
              subst this
              conv => whnf
              refine iv ((k + 1 + 1 : Nat) : Int) (by rw [w64 (by omega) (by omega)]; omega) ?_
              conv => whnf
              refine back (N - (k + 1)) _ (by omega) ?_ ⟨k + 1, cs, ob, dd, by omega, rfl, by rw [cellsC]; exact hcs, hok, hout, rfl, rfl⟩
              exact se0 rfl (se0 rfl (se0 rfl (se0 rfl (se0 rfl trivial))))
        · have : k = N := by have := of_decide_eq_false c3; omega
          subst this
          have hc1 : closeR K G k = (cs, 0) := by
            rcases hcl with ⟨_, h⟩ | ⟨h, _⟩
            · exact absurd (hcs ▸ hok) h
            · rw [h, hcs]
          rcases hout with ⟨rfl, rfl, rfl⟩ | ⟨rfl, rfl⟩
          · exfalso
            rw [← hcs] at hc0
            simp at hc0; omega
          · conv => whnf
            exact .inr ⟨cs, _, _, hc1, rfl, rfl⟩
    · rw [if_neg (by rw [h1]; simp)]
      have he := early (fun h => by rw [h1] at h; cases h.2.2)
      conv => whnf
      exact .inl ⟨by rw [he]; rfl, by rw [he]⟩
  · rintro r H' (⟨rfl, h⟩ | ⟨cs, d0, d1, h, rfl, rfl⟩)
    · refine ⟨_, closedD (closeR K G n), .refl _, ?_, rfl, rfl⟩
      unfold closedD
      rw [h]
      exact .agg _ _ (.cons _ _ _ _ (.nils _) (.cons _ _ _ _ (.refl _) .nil)) rfl
    · rw [h]
      refine ⟨[.var d0, .var d1, .var (.agg [.sl 3 0 cs.length, .int .i64 0]), .frz sh4 (cs.map CellM.D)], closedD (cs, 0), Frz.step 3 sh4 (cs.map CellM.D) rfl (cl_cells cs) (.refl _), ?_, rfl, rfl⟩
      have := LeD.frz (H := [.var d0, .var d1, .var (.agg [.sl 3 0 cs.length, .int .i64 0]), .frz sh4 (cs.map CellM.D)]) 3 0 cs.length sh4 (cs.map CellM.D) rfl (by simp)
      rw [List.drop_zero, List.take_of_length_le (by simp)] at this
      exact .agg _ _ (.cons _ _ _ _ this (.cons _ _ _ _ (.refl _) .nil)) rfl

end Go.Proofs.Ythplmnpfaagciaa.Pw

/- TableMatchesReference: which known bounds are right, closures, whether a bound has a reason, and which steps are accepted, are as in the reference. For every input. -/
set_option linter.unusedVariables false
set_option linter.unusedSimpArgs false
namespace Go.Proofs.Ythplmnpfaagciaa.Pw
open Go

theorem tyI {n : Nat} {d : D} (h : TyD (cx 0 0) (n + 1) 3 d) : ∃ x, d = .int .i64 x := by
  obtain ⟨x, rfl, _⟩ := h
  exact ⟨x, rfl⟩
theorem tyB {n : Nat} {d : D} (h : TyD (cx 0 0) (n + 1) 4 d) : ∃ b, d = .bool b := by
  obtain ⟨b, rfl⟩ := h
  exact ⟨b, rfl⟩
theorem tyList {α : Type} {P : D → Prop} {f : α → D} (h : ∀ d, P d → ∃ a, d = f a) : ∀ ds : List D, (∀ x ∈ ds, P x) → ∃ l : List α, ds = l.map f
  | [], _ => ⟨[], rfl⟩
  | d :: ds, hp => by
    obtain ⟨a, rfl⟩ := h d (hp d (by simp))
    obtain ⟨l, rfl⟩ := tyList h ds (fun x hx => hp x (by simp [hx]))
    exact ⟨a :: l, rfl⟩
theorem tyIntsN {n : Nat} {d : D} (h : TyD (cx 0 0) (n + 2) 26 d) : ∃ G : List Int, d = intsD false G := by
  obtain ⟨ds, rfl, hds⟩ := h
  obtain ⟨G, rfl⟩ := tyList (f := D.int .i64) (P := TyD (cx 0 0) (n + 1) 3) (fun d h => tyI h) ds hds
  exact ⟨G, rfl⟩
theorem tyKn {n : Nat} {d : D} (h : TyD (cx 0 0) (n + 2) 28 d) : ∃ k : Known, d = k.D := by
  obtain ⟨ds, rfl, hl, hds⟩ := h
  match ds, hl with
  | [a, b, c, e, f], _ =>
    obtain ⟨xa, rfl⟩ := tyI (hds 0 3 a rfl rfl)
    obtain ⟨xb, rfl⟩ := tyI (hds 1 3 b rfl rfl)
    obtain ⟨xc, rfl⟩ := tyB (hds 2 4 c rfl rfl)
    obtain ⟨xe, rfl⟩ := tyI (hds 3 3 e rfl rfl)
    obtain ⟨xf, rfl⟩ := tyI (hds 4 3 f rfl rfl)
    exact ⟨⟨xa, xb, xc, xe, xf⟩, rfl⟩
theorem tyKns {n : Nat} {d : D} (h : TyD (cx 0 0) (n + 3) 25 d) : ∃ K : List Known, d = knownsD false K := by
  obtain ⟨ds, rfl, hds⟩ := h
  obtain ⟨K, rfl⟩ := tyList (f := Known.D) (P := TyD (cx 0 0) (n + 2) 28) (fun d h => tyKn h) ds hds
  exact ⟨K, rfl⟩
theorem tyStp {n : Nat} {d : D} (h : TyD (cx 0 0) (n + 3) 34 d) : ∃ x : Stp, d = x.D := by
  obtain ⟨ds, rfl, hl, hds⟩ := h
  match ds, hl with
  | [a, b, c, e, f, g], _ =>
    obtain ⟨xa, rfl⟩ := tyI (hds 0 3 a rfl rfl)
    obtain ⟨xb, rfl⟩ := tyI (hds 1 3 b rfl rfl)
    obtain ⟨xc, rfl⟩ := tyB (hds 2 4 c rfl rfl)
    obtain ⟨xe, rfl⟩ := tyI (hds 3 3 e rfl rfl)
    obtain ⟨xf, rfl⟩ := tyI (hds 4 3 f rfl rfl)
    obtain ⟨G, rfl⟩ := tyIntsN (hds 5 26 g rfl rfl)
    exact ⟨⟨⟨xa, xb, xc⟩, xe, xf, G⟩, rfl⟩
theorem tyStps {n : Nat} {d : D} (h : TyD (cx 0 0) (n + 4) 29 d) : ∃ L : List Stp, d = stepsD L := by
  obtain ⟨ds, rfl, hds⟩ := h
  obtain ⟨L, rfl⟩ := tyList (f := Stp.D) (P := TyD (cx 0 0) (n + 3) 34) (fun d h => tyStp h) ds hds
  exact ⟨L, rfl⟩
def oddD (K : List Known) (G : List Int) (n : Int) (k : Known) (L : List Stp) : D := .agg [knownsD false K, intsD false G, .int .i64 n, k.D, stepsD L]
theorem tyOdd {d : D} (h : TyD (cx 0 0) 6 31 d) : ∃ K G n k L, d = oddD K G n k L := by
  obtain ⟨ds, rfl, hl, hds⟩ := h
  match ds, hl with
  | [a, b, c, e, f], _ =>
    obtain ⟨K, rfl⟩ := tyKns (hds 0 25 a rfl rfl)
    obtain ⟨G, rfl⟩ := tyIntsN (hds 1 26 b rfl rfl)
    obtain ⟨n, rfl⟩ := tyI (hds 2 3 c rfl rfl)
    obtain ⟨k, rfl⟩ := tyKn (hds 3 28 e rfl rfl)
    obtain ⟨L, rfl⟩ := tyStps (hds 4 29 f rfl rfl)
    exact ⟨K, G, n, k, L, rfl⟩

set_option maxHeartbeats 40000000 in
theorem vMatches (g0 g1 : D) (h0 : TyD (cx 0 0) 6 24 g0) (h1 : TyD (cx 0 0) 6 31 g1) : Val Try.prog 3 [g0, g1] (fun r => r = .bool true) := by
  obtain ⟨L, rfl, hL⟩ := tyRaw h0
  obtain ⟨K2, G, n, kk, S, rfl⟩ := tyOdd h1
  refine Val.of ?_
  refine hc_ofS (okc Try.f3.ntmps 0) (fn := Try.f3) (cd := _) rfl rfl rfl rfl rfl rfl (fun hbd => ?_)
  conv => whnf
  refine Val.call vEx (.refl _) .nil rfl ?_
  rintro r rfl
  conv => whnf
  refine ifb (fun c1 => ?_) (fun c1 => ?_)
  · conv => whnf
    exact ⟨rfl, rfl⟩
  conv => whnf
  refine ifb (fun c2 => ?_) (fun c2 => ?_)
  · conv => whnf
    exact ⟨rfl, rfl⟩
  conv => whnf
  refine ifb (fun c3 => ?_) (fun c3 => ?_)
  · conv => whnf
    exact ⟨rfl, rfl⟩
  have hS : S.length ≤ 60 := by
    have : decide ((60 : Int) < ((S.map Stp.D).length : Nat)) = false := c3
    simp at this; omega
  conv => whnf
  refine lp (fun q e H => ∃ i : Nat, i ≤ S.length ∧ q = S.length - i ∧ H = [.var (.agg [.list false sh44 (L.map Raw4.D)]), .var (oddD K2 G n kk S)] ∧ e = [(6, .int .i64 i), (5, .bool true), (3, .ptr 1 []), (2, .ptr 0 [])]) ?_ ?_
  · refine ⟨S.length + 1, back S.length _ (by omega) ?_ ⟨0, by omega, by omega, rfl, rfl⟩⟩
    exact se0 rfl (se0 rfl (se0 rfl (se0 rfl trivial)))
  · rintro q e H ⟨i, hi, rfl, rfl, rfl⟩
    conv => whnf
    refine ifb (fun c4 => ?_) (fun c4 => ?_)
    · have c4 : i < S.length := by
        have : decide ((i : Int) < ((S.map Stp.D).length : Nat)) = true := c4
        simp at this; omega
      conv => whnf
      refine ob (by omega) ⟨(S[i]).D, by rw [List.getElem?_map, show ((i : Int)).toNat = i from by omega, List.getElem?_eq_getElem c4]; rfl, ?_⟩
      conv => whnf
      refine ifb (fun c5 => ?_) (fun c5 => ?_)
      · conv => whnf
        exact ⟨rfl, rfl⟩
      · conv => whnf
        refine iv ((i + 1 : Nat) : Int) (by rw [w64 (by omega) (by omega)]; omega) ?_
        conv => whnf
        refine back (S.length - (i + 1)) _ (by omega) ?_ ⟨i + 1, by omega, rfl, rfl, rfl⟩
        exact se0 rfl (se0 rfl (se0 rfl (se0 rfl trivial)))
    · conv => whnf
      refine drT 6 (by decide +kernel) ?_
      conv => whnf
      refine ⟨_, none, PureC.val (vMadeX false L hL) (ler _ _) rfl (fun r H h => h.2.2) rfl, ?_⟩
      obtain ⟨K1, hK1⟩ : ∃ K1, K1 = madeX L := ⟨_, rfl⟩
      rw [← hK1]
      conv => whnf
      refine lp (fun q e H => ∃ i : Nat, i ≤ 2 ∧ q = 2 - i ∧ H = [.var (.agg [.list false sh44 (L.map Raw4.D)]), .var (oddD K2 G n kk S), .row .leaf [knownsD false K1, knownsD false K2]] ∧ e = [(8, .int .i64 i), (7, .sl 2 0 2), (5, .bool true), (3, .ptr 1 []), (2, .ptr 0 [])]) ?_ ?_
      · refine ⟨3, back 2 _ (by omega) ?_ ⟨0, by omega, rfl, rfl, rfl⟩⟩
        exact se0 rfl (se0 rfl (se0 rfl (se0 rfl (se0 rfl trivial))))
      · rintro q e H ⟨i, hi, rfl, rfl, rfl⟩
        conv => whnf
        refine ifb (fun c6 => ?_) (fun c6 => ?_)
        · have c6 : i < 2 := by have := of_decide_eq_true c6; omega
          obtain ⟨K, hget⟩ : ∃ K, [knownsD false K1, knownsD false K2][0 + ((i : Nat) : Int).toNat]? = some (knownsD false K) := by
            have : i = 0 ∨ i = 1 := by omega
            rcases this with rfl | rfl
            · exact ⟨K1, rfl⟩
            · exact ⟨K2, rfl⟩
          obtain ⟨e0, he0⟩ : ∃ e0 : Int, e0 = if rightK K = true then 0 else 1 := ⟨_, rfl⟩
          have hr1 : Val Try.prog 11 [knownsD false K] (fun r => r = .int .i64 e0) := by rw [he0]; exact vRight false K
          have hr2 : Val Try.prog 12 [knownsD false K] (fun r => r = .int .i64 e0) := by rw [he0]; exact vRightR false K
          conv => whnf
          refine ob ⟨by omega, by omega⟩ ?_
          conv => whnf
          refine ⟨_, hget, ?_⟩
          conv => whnf
          refine drT 52 (by decide +kernel) ?_
          conv => whnf
          refine ⟨_, none, PureC.val hr1 (ler _ _) rfl (fun r H h => h.2.2) rfl, ?_⟩
          conv => whnf
          refine ⟨_, none, PureC.val hr2 (ler _ _) rfl (fun r H h => h.2.2) rfl, ?_⟩
          conv => whnf
          refine ifb (fun c7 => absurd c7 (by show ¬ (!decide (e0 = e0)) = true; simp)) (fun c7 => ?_)
          conv => whnf
          refine ⟨_, none, PureC.val (vClosed false false K G n) (ler _ _) rfl (fun r H h => h.2.2) rfl, ?_⟩
          conv => whnf
          refine ⟨_, none, PureC.val (vCloseIn false false K G n) (ler _ _) rfl (fun r H h => h.2.2) rfl, ?_⟩
          conv => whnf
          refine ⟨_, none, PureC.val ((vSameL (closeR K G n) (closeR K G n)).mono (Q' := fun r => r = .bool true) (fun r h => by rw [h]; simp)) (ler _ _) rfl (fun r H h => h.2.2) rfl, ?_⟩
          conv => whnf
          refine ⟨_, none, PureC.val (vWhyX false false K G kk) (ler _ _) rfl (fun r H h => h.2.2) rfl, ?_⟩
          conv => whnf
          refine ⟨_, none, PureC.val (vWhetherX false false K G kk) (ler _ _) rfl (fun r H h => h.2.2) rfl, ?_⟩
          conv => whnf
          refine ifb (fun c8 => absurd c8 (by show ¬ (!decide (whyE K G kk = whyE K G kk)) = true; simp)) (fun c8 => ?_)
          conv => whnf
          refine ⟨_, none, PureC.val (vCheck false false false K G S) (ler _ _) rfl (fun r H h => h.2.2) rfl, ?_⟩
          conv => whnf
          refine ⟨_, none, PureC.val (vCheckR false false false K G S) (ler _ _) rfl (fun r H h => h.2.2) rfl, ?_⟩
          conv => whnf
          refine ifb (fun c9 => absurd c9 (by show ¬ (!decide (checkR K G S = checkR K G S)) = true; simp)) (fun c9 => ?_)
          conv => whnf
          refine Val.call (vWhyL false false K G kk) (.refl _) (ler _ _) rfl ?_
          rintro r ⟨Lw, ew, rfl, hW⟩
          have hch := hW.check
          conv => whnf
          refine ifb (fun d1 => ?_) (fun d1 => ?_)
          · have d1 : 0 < Lw.length := by
              have : decide ((0 : Int) < ((Lw.map Stp.D).length : Nat)) = true := d1
              rw [List.length_map] at this
              have := of_decide_eq_true this
              omega
            have hck : checkR K G Lw = 0 := hch.resolve_left (fun h => by rw [h] at d1; simp at d1)
            conv => whnf
            refine Val.call ((vCheckR false false false K G Lw).mono (Q' := fun r => r = .int .i64 0) (fun r h => by rw [h, hck])) (.refl _) (ler _ _) rfl ?_
            rintro r rfl
            conv => whnf
            refine iv ((i + 1 : Nat) : Int) (by rw [w64 (by omega) (by omega)]; omega) ?_
            conv => whnf
            refine back (2 - (i + 1)) _ (by omega) ?_ ⟨i + 1, by omega, rfl, rfl, rfl⟩
            exact se0 rfl (se0 rfl (se0 rfl (se0 rfl (se0 rfl trivial))))
          · conv => whnf
            refine iv ((i + 1 : Nat) : Int) (by rw [w64 (by omega) (by omega)]; omega) ?_
            conv => whnf
            refine back (2 - (i + 1)) _ (by omega) ?_ ⟨i + 1, by omega, rfl, rfl, rfl⟩
            exact se0 rfl (se0 rfl (se0 rfl (se0 rfl (se0 rfl trivial))))
        · conv => whnf
          exact ⟨rfl, rfl⟩

end Go.Proofs.Ythplmnpfaagciaa.Pw
