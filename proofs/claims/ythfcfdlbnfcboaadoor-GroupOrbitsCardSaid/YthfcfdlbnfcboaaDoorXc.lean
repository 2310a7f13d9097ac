/- Parts of the proof, merged: ZB YH YI YJ YK YL YM YN YO YP ZC YQ ZD YR ZE. -/
import Derived.Test.YthfcfdlbnfcboaaDoorXb
import Derived.Test.YthfcfdlbnfcboaaDoorPe

set_option linter.unusedVariables false
set_option linter.unusedSimpArgs false
set_option maxHeartbeats 1000000
set_option maxRecDepth 10000
namespace Go.Proofs.YthfcfdlbnfcboaaDoor.Pw
open Go
theorem mapN_iff {x : Inc} (hx : x.V ≤ 7) {i j : Nat} (hij : i ≤ j) (hj : j < x.V) : (mapN x x (preI i j)).isSome = true ↔ ∃ g, Aut x g ∧ g.take (i + 1) = preI i j := by
  have hd := pre_dif i j x.V hij hj
  have hl := pre_len i j
  unfold mapN
  constructor
  · intro h
    obtain ⟨g, hg⟩ := Option.isSome_iff_exists.1 h
    obtain ⟨h1, h2⟩ := look_aut x hx _ _ g (by omega) hd hg
    exact ⟨g, h1, by rw [← hl]; exact h2⟩
  · rintro ⟨g, hg, h⟩
    have := look_ne x hx g hg (x.V - (preI i j).length) (preI i j) (by omega) (by rw [hl]; exact h)
    cases he : lookA x x (x.V - (preI i j).length) (preI i j) with
    | none => exact absurd he this
    | some g => rfl
theorem pre_one (k : Nat) (h : 1 ≤ k) : preI (k - 1) (k - 1) = oneI k := by
  unfold preI
  rw [one_snoc, Nat.sub_add_cancel h]
theorem reach_aut {x : Inc} (hx : x.Fam) {i j : Nat} (hij : i ≤ j) (hj : j < x.V) {m : List Int} (h : reachB x i (j : Int) m = true) : Aut x m ∧ m.take (i + 1) = preI i j := by
  unfold reachB at h
  simp only [Bool.and_eq_true, decide_eq_true_eq] at h
  obtain ⟨⟨⟨h1, h2⟩, h3⟩, h4⟩ := h
  have ha := (isG_iff hx m).1 h1
  have hv1 := hx.ok.v1
  rw [pre_one x.V hv1, oneT x.V i (by omega)] at h2
  refine ⟨ha, ?_⟩
  have hl : i < m.length := by rw [ha.1.1]; omega
  rw [getD_of (List.getElem?_eq_getElem hl)] at h3
  rw [List.take_add_one, h2, List.getElem?_eq_getElem hl, h3]; rfl
theorem map_reach {x : Inc} (hx : x.Fam) {i j : Nat} (hij : i ≤ j) (hj : j < x.V) {m : List Int} (h : mapN x x (preI i j) = some m) : reachB x i (j : Int) m = true := by
  have hd := pre_dif i j x.V hij hj
  have hl := pre_len i j
  have hv1 := hx.ok.v1
  unfold mapN at h
  obtain ⟨h1, h2⟩ := look_aut x hx.v7 _ _ m (by omega) hd h
  rw [hl] at h2
  have hm : i < m.length := by rw [h1.1.1]; omega
  have h3 := congrArg (List.take i) h2
  rw [List.take_take, Nat.min_eq_left (by omega)] at h3
  have h4 : (preI i j).take i = oneI i := by
    unfold preI; rw [List.take_append_of_le_length (by rw [one_len]; omega), List.take_of_length_le (by rw [one_len]; omega)]
  have h5 : m[i]? = some (j : Int) := by
    have e := congrArg (fun l => l[i]?) h2
    simp only [List.getElem?_take, Nat.lt_succ_self, if_pos] at e
    rw [e]
    unfold preI
    rw [List.getElem?_append_right (by rw [one_len]; omega), one_len]; simp
  unfold reachB
  simp only [Bool.and_eq_true, decide_eq_true_eq]
  refine ⟨⟨⟨(isG_iff hx m).2 h1, ?_⟩, getD_of h5⟩, ?_⟩
  · rw [h3, h4, pre_one x.V hv1, oneT x.V i (by omega)]
  · rw [Bool.or_eq_true, decide_eq_true_eq, decide_eq_true_eq]
    by_cases hji : j = i
    · right
      subst hji
      have e : preI j j = oneI (j + 1) := by unfold preI; exact one_snoc j
      rw [e, one_len, look_one x hx.v7 _ (j + 1) (by omega)] at h
      cases h
      rw [pre_one x.V hv1]
    · left; intro e; exact hji (by omega)
theorem prv_chk {x : Inc} (hx : x.V ≤ 7) {i j : Nat} (hij : i ≤ j) (hj : j < x.V) (h : mapN x x (preI i j) = none) : chkM x x (preI i j) (prvT x x (preI i j)) = true := by
  have hd := pre_dif i j x.V hij hj
  have hl := pre_len i j
  unfold prvT chkM
  unfold mapN at h
  cases hr : refM x x (x.V - (preI i j).length) (preI i j) with
  | none => exact absurd h (ref_none x _ _ hr)
  | some t => exact ref_acc x hx _ _ t (by omega) hd hr
def cntL (x : Inc) (i j f : Nat) : Nat := (List.range' j f).countP fun q => (mapN x x (preI i q)).isSome
theorem lvK_succ (x : Inc) (i k : Nat) : lvK x i (k + 1) = match mapN x x (preI i (i + k)) with
    | some m => ((lvK x i k).1 ++ [(i + k, m)], (lvK x i k).2)
    | none => ((lvK x i k).1, (lvK x i k).2 ++ [(i + k, prvT x x (preI i (i + k)))]) := rfl
theorem lvK_cnt (x : Inc) (i : Nat) : ∀ k, (lvK x i k).1.length = cntL x i i k
  | 0 => rfl
  | k + 1 => by
    have ih := lvK_cnt x i k
    unfold cntL at ih ⊢
    rw [List.range'_concat, List.countP_append, ← ih, lvK_succ]
    cases h : mapN x x (preI i (i + k)) <;> simp [h]
theorem ordK_succ (x : Inc) (k : Nat) : ordK x (k + 1) = ordK x k * cntL x k k (x.V - k) := by rw [ordK, lvK_cnt]
def lvC (x : Inc) (i : Nat) : Nat → Nat → List (Nat × List Int) × List (Nat × Tree)
  | 0, _ => ([], [])
  | f + 1, j => match mapN x x (preI i j) with
    | some m => ((j, m) :: (lvC x i f (j + 1)).1, (lvC x i f (j + 1)).2)
    | none => ((lvC x i f (j + 1)).1, (j, prvT x x (preI i j)) :: (lvC x i f (j + 1)).2)
theorem lvC_snoc (x : Inc) (i : Nat) : ∀ f j, lvC x i (f + 1) j = match mapN x x (preI i (j + f)) with
    | some m => ((lvC x i f j).1 ++ [(j + f, m)], (lvC x i f j).2)
    | none => ((lvC x i f j).1, (lvC x i f j).2 ++ [(j + f, prvT x x (preI i (j + f)))])
  | 0, j => by simp only [lvC, Nat.add_zero]; cases mapN x x (preI i j) <;> rfl
  | f + 1, j => by
    rw [lvC, lvC_snoc x i f (j + 1), show j + 1 + f = j + (f + 1) by omega]
    conv => rhs; rw [lvC]
    cases mapN x x (preI i j) <;> cases mapN x x (preI i (j + (f + 1))) <;> rfl
theorem lvK_C (x : Inc) (i : Nat) : ∀ k, lvK x i k = lvC x i k i
  | 0 => rfl
  | k + 1 => by
    rw [lvC_snoc, ← lvK_C x i k]; rfl
def toI (l : List (Nat × List Int) × List (Nat × Tree)) : Lvl := (l.1.map fun y => ((y.1 : Int), y.2), l.2.map fun y => ((y.1 : Int), y.2))
theorem toI_D (l : List (Nat × List Int) × List (Nat × Tree)) : lvlD l = lvlI (toI l) := by
  unfold lvlD lvlI toI rchL unsL
  rw [List.map_map, List.map_map]; rfl
theorem lvC_ge (x : Inc) (i : Nat) : ∀ f j, ∀ y ∈ (lvC x i f j).1, j ≤ y.1
  | 0, j, y, h => by cases h
  | f + 1, j, y, h => by
    unfold lvC at h
    cases hm : mapN x x (preI i j) with
    | some m =>
      rw [hm] at h
      rcases List.mem_cons.1 h with rfl | h
      · exact Nat.le_refl _
      · have := lvC_ge x i f (j + 1) y h; omega
    | none =>
      rw [hm] at h
      have := lvC_ge x i f (j + 1) y h; omega
theorem lvRun_C {x : Inc} (hx : x.Fam) {i : Nat} : ∀ f j, i ≤ j → j + f = x.V → lvRun x i f j (toI (lvC x i f j)).1 (toI (lvC x i f j)).2 = true
  | 0, j, _, _ => by simp [lvRun, toI, lvC]
  | f + 1, j, hij, hjf => by
    have ih := lvRun_C hx (i := i) f (j + 1) (by omega) (by omega)
    unfold lvRun lvC
    cases hm : mapN x x (preI i j) with
    | some m =>
      have h1 := map_reach hx hij (by omega) hm
      have h2 : yesB x i j (toI ((j, m) :: (lvC x i f (j + 1)).1, (lvC x i f (j + 1)).2)).1 = true := by simp [toI, yesB, h1]
      simp only [h2, if_pos]
      exact ih
    | none =>
      have h0 : ¬ yesB x i j (toI ((lvC x i f (j + 1)).1, (j, prvT x x (preI i j)) :: (lvC x i f (j + 1)).2)).1 = true := by
        have hge := lvC_ge x i f (j + 1)
        unfold toI
        cases hl : (lvC x i f (j + 1)).1 with
        | nil => simp [yesB]
        | cons y l =>
          rw [hl] at hge
          have := hge y List.mem_cons_self
          simp only [List.map_cons, yesB, Bool.and_eq_true, decide_eq_true_eq]
          intro ⟨e, _⟩; omega
      have h1 := prv_chk hx.v7 hij (by omega) hm
      have h2 : noB x i j (toI ((lvC x i f (j + 1)).1, (j, prvT x x (preI i j)) :: (lvC x i f (j + 1)).2)).2 = true := by simp [toI, noB, h1]
      simp only [if_neg h0, h2, if_pos]
      exact ih
theorem chkAll_prf {x : Inc} (hx : x.Fam) : ∀ f i, i + f = x.V → chkAll x i (ordK x i) ((List.range' i f).map fun i => toI (lvK x i (x.V - i))) = ordK x x.V
  | 0, i, h => by simp at h; subst h; rfl
  | f + 1, i, h => by
    rw [List.range'_succ, List.map_cons, chkAll]
    have h1 := lvRun_C hx (i := i) (x.V - i) i (Nat.le_refl _) (by omega)
    rw [← lvK_C] at h1
    rw [if_pos h1]
    have e : ordK x i * (toI (lvK x i (x.V - i))).1.length = ordK x (i + 1) := by rw [ordK]; simp [toI]
    rw [e]
    exact chkAll_prf hx f (i + 1) (by omega)
theorem chkN_prf {x : Inc} (hx : x.Fam) : chkN x ((List.range x.V).map fun i => toI (lvK x i (x.V - i))) = ordK x x.V := by
  unfold chkN
  rw [if_pos (by simp), List.range_eq_range']
  exact chkAll_prf hx x.V 0 (by omega)
theorem prf_D (x : Inc) : prfD x = prfI ((List.range x.V).map fun i => toI (lvK x i (x.V - i))) := by
  unfold prfD prfI lvlsL proofL
  rw [List.map_map]
  congr 3
  exact List.map_congr_left fun i _ => toI_D _
end Go.Proofs.YthfcfdlbnfcboaaDoor.Pw



set_option linter.unusedVariables false
set_option linter.unusedSimpArgs false
set_option maxHeartbeats 1000000
set_option maxRecDepth 10000
namespace Go.Proofs.YthfcfdlbnfcboaaDoor.Pw
open Go
theorem exL {l : List Lvl} {n : Nat} {k : D → Prop} (h : n < l.length) (hk : ∀ a, l[n]? = some a → k (lvlI a)) : ∃ d, (lvlsL l)[n]? = some d ∧ k d := exM (f := lvlI) h hk
theorem exC0 {yj : Int} {ym : List Int} {l : List (Int × List Int)} {k : D → Prop} (hk : k (.agg [.int .i64 yj, intsD ym])) : ∃ d, (rchL ((yj, ym) :: l))[(0 : Int).toNat]? = some d ∧ k d := ⟨_, rfl, hk⟩
theorem exW0 {yj : Int} {t : Tree} {l : List (Int × Tree)} {k : D → Prop} (hk : k (.agg [.int .i64 yj, treeD t])) : ∃ d, (unsL ((yj, t) :: l))[(0 : Int).toNat]? = some d ∧ k d := ⟨_, rfl, hk⟩
theorem yes_f1 {x : Inc} {i j : Nat} {yj : Int} {ym : List Int} {yt : List (Int × List Int)} (h : reachB x i yj ym = false) : yesB x i j ((yj, ym) :: yt) = false := by simp [yesB, h]
theorem yes_f2 {x : Inc} {i j : Nat} {yj : Int} {ym : List Int} {yt : List (Int × List Int)} (h : ¬ yj = (j : Int)) : yesB x i j ((yj, ym) :: yt) = false := by simp [yesB, h]
theorem yes_t {x : Inc} {i j : Nat} {yj : Int} {ym : List Int} {yt : List (Int × List Int)} (h : yj = (j : Int)) (hr : reachB x i yj ym = true) : yesB x i j ((yj, ym) :: yt) = true := by simp [yesB, hr]; exact h
theorem no_f1 {x : Inc} {i j : Nat} {yj : Int} {t : Tree} {yt : List (Int × Tree)} (h : chkM x x (preI i j) t = false) : noB x i j ((yj, t) :: yt) = false := by simp [noB, h]
theorem no_f2 {x : Inc} {i j : Nat} {yj : Int} {t : Tree} {yt : List (Int × Tree)} (h : ¬ yj = (j : Int)) : noB x i j ((yj, t) :: yt) = false := by simp [noB, h]
theorem no_t {x : Inc} {i j : Nat} {yj : Int} {t : Tree} {yt : List (Int × Tree)} (h : yj = (j : Int)) (hr : chkM x x (preI i j) t = true) : noB x i j ((yj, t) :: yt) = true := by simp [noB, hr]; exact h
theorem lvRun_yes {x : Inc} {i j : Nat} {ys : List (Int × List Int)} {ns : List (Int × Tree)} (hj : j < x.V) (h : yesB x i j ys = true) : lvRun x i (x.V - j) j ys ns = lvRun x i (x.V - (j + 1)) (j + 1) ys.tail ns := by
  obtain ⟨f, hf⟩ : ∃ f, x.V - j = f + 1 := ⟨x.V - j - 1, by omega⟩
  rw [hf, show x.V - (j + 1) = f by omega, lvRun, if_pos h]
theorem lvRun_no {x : Inc} {i j : Nat} {ys : List (Int × List Int)} {ns : List (Int × Tree)} (hj : j < x.V) (h : yesB x i j ys = false) (h2 : noB x i j ns = true) : lvRun x i (x.V - j) j ys ns = lvRun x i (x.V - (j + 1)) (j + 1) ys ns.tail := by
  obtain ⟨f, hf⟩ : ∃ f, x.V - j = f + 1 := ⟨x.V - j - 1, by omega⟩
  rw [hf, show x.V - (j + 1) = f by omega, lvRun, if_neg (by simp [h]), if_pos h2]
theorem lvRun_bad {x : Inc} {i j : Nat} {ys : List (Int × List Int)} {ns : List (Int × Tree)} (hj : j < x.V) (h : yesB x i j ys = false) (h2 : noB x i j ns = false) : lvRun x i (x.V - j) j ys ns = false := by
  obtain ⟨f, hf⟩ : ∃ f, x.V - j = f + 1 := ⟨x.V - j - 1, by omega⟩
  rw [hf, lvRun, if_neg (by simp [h]), if_neg (by simp [h2])]
theorem lvRun_le (x : Inc) (i : Nat) : ∀ f j ys ns, lvRun x i f j ys ns = true → ys.length ≤ f
  | 0, j, ys, ns, h => by have := of_decide_eq_true h; omega
  | f + 1, j, ys, ns, h => by
    unfold lvRun at h
    by_cases hy : yesB x i j ys = true
    · rw [if_pos hy] at h
      have := lvRun_le x i f _ _ _ h
      simp only [List.length_tail] at this; omega
    · rw [if_neg hy] at h
      by_cases hn : noB x i j ns = true
      · rw [if_pos hn] at h
        have := lvRun_le x i f _ _ _ h; omega
      · rw [if_neg hn] at h; cases h
theorem ivMulN {x : Int} {n : Nat} {k : Int → Prop} (h : x = (n : Int)) (hn : n < 9223372036854775808) (hk : k (n : Int)) : ∃ r, IntKind.i64.wrap x = r ∧ k r :=
  ⟨_, by rw [h]; exact w64 (by omega) (by omega), hk⟩
def reachF (x : Inc) : D := .func 70 [.ref (.agg [.leaf, .leaf]) x.D, .ref .leaf (intsD (preI (x.V - 1) (x.V - 1)))]
theorem vGCheck (x : Inc) (hx : x.Ok) (hx7 : x.V ≤ 7) (hb : ∀ s ∈ x.B, ∀ p ∈ bitsL s, p < x.V) (L : List Lvl) (hL : ∀ l ∈ L, l.1.length ≤ 1000000 ∧ l.2.length ≤ 1000000) : Val Tryd.prog 44 [x.D, prfI L] (fun r => r = chkD (chkN x L)) := by
  have hv := hx.v
  have hv1 := hx.v1
  have hpl := pre_len (x.V - 1) (x.V - 1)
  have hp0 := intsL_len (preI (x.V - 1) (x.V - 1))
  have hL0 := lvlsL_len L
  have hpv := vPrefix (x.V - 1) (x.V - 1) (by omega)
  rw [show iD (x.V - 1) = .int .i64 ((x.V : Int) - 1) from by show D.int _ _ = _; rw [Int.natCast_sub hv1]; rfl] at hpv
  refine Val.ofV ?_
  refine hc_ofS (okc Tryd.f44.ntmps 0) (fn := Tryd.f44) (cd := _) rfl rfl rfl rfl rfl rfl (fun hbd => ?_)
  by_cases hLV : L.length = x.V
  · repeat' (
     conv => whnf
     first
     | refine ifd (fun h => ?_) (fun h => ?_)
     | refine ifn (fun h => ?_) (fun h => ?_)
     | with_reducible refine ivW (by omega) (by omega) ?_
     | ((with_reducible refine hcI ?_); refine Val.call hpv (.refl _) (ler _ _) rfl ?_; rintro r rfl))
    all_goals (conv => whnf)
    all_goals (first | (exfalso; omega) | skip)
    refine lpX (X := Nat × Nat) (fun y => [(2, .ref (.agg [.leaf, .leaf]) x.D), (7, reachF x), (8, iD y.2), (34, .list false (.agg [.leaf, .leaf]) (lvlsL L)), (35, iD (lvlsL L).length), (36, iD y.1)]) (fun y => [])
      (fun y => y.1 ≤ x.V ∧ y.2 ≤ 7 ^ y.1 ∧ chkAll x 0 1 L = chkAll x y.1 y.2 (L.drop y.1)) (fun y => x.V - y.1) ⟨_, nxF (ρ := []) (0, 1) (.fvar 0 x.D rfl rfl (.fvar 2 (intsD (preI (x.V - 1) (x.V - 1))) rfl rfl (.refl _))) ?_ trivial rfl rfl (Nat.lt_succ_self _) ⟨Nat.zero_le _, Nat.le_refl _, rfl⟩⟩ ?_
    · exact seL (show LeD _ (.ref (.agg [.leaf, .leaf]) x.D) (.ptr 0 []) from .fvar 0 x.D rfl) rfl (seL (show LeD _ (reachF x) (.func 70 [.ptr 0 [], .ptr 2 []]) from .func _ _ _ (.cons _ _ _ _ (show LeD _ (.ref (.agg [.leaf, .leaf]) x.D) (.ptr 0 []) from .fvar 0 x.D rfl) (.cons _ _ _ _ (show LeD _ (.ref .leaf (intsD (preI (x.V - 1) (x.V - 1)))) (.ptr 2 []) from .fvar 2 (intsD (preI (x.V - 1) (x.V - 1))) rfl) .nil))) rfl (by repeat (first | exact trivial | refine seC rfl rfl ?_ | refine seL (leRow rfl rfl) rfl ?_)))
    rintro ⟨i, n⟩ ⟨hi, hn, hc⟩
    dsimp only at hi hn hc ⊢
    rcases Nat.lt_or_ge i x.V with hlt | hge
    · obtain ⟨⟨ys, ns⟩, hl⟩ : ∃ l, L[i]? = some l := ⟨L[i], List.getElem?_eq_getElem (by omega)⟩
      have hL2 := hL _ (List.mem_of_getElem? hl)
      dsimp only at hL2
      have hdrop : L.drop i = (ys, ns) :: L.drop (i + 1) := by
        rw [List.drop_eq_getElem_cons (by omega)]
        rw [List.getElem?_eq_getElem (by omega)] at hl
        rw [Option.some.inj hl]
      have hfail : lvRun x i (x.V - i) i ys ns = false → chkD (chkN x L) = .tuple [.int .i64 0, .int .i64 200] := fun e => by
        unfold chkN; rw [if_pos hLV, hc, hdrop, chkAll, if_neg (by simp [e])]; rfl
      have hgo : lvRun x i (x.V - i) i ys ns = true → chkAll x 0 1 L = chkAll x (i + 1) (n * ys.length) (L.drop (i + 1)) := fun e => by
        rw [hc, hdrop, chkAll, if_pos e]
      have hnb : n ≤ 823543 := Nat.le_trans hn (Nat.le_trans (Nat.pow_le_pow_right (by omega) (show i ≤ 7 by omega)) (by decide))
      have hnm : n * ys.length ≤ 823543 * 1000000 := Nat.mul_le_mul hnb hL2.1
      have hnm2 : (n : Int) * (((rchL ys).length : Nat) : Int) = ((n * ys.length : Nat) : Int) := by rw [rchL_len, Int.natCast_mul]
      repeat' (
       conv => whnf
       first
       | refine ifd (fun h => ?_) (fun h => ?_)
       | ((with_reducible refine exL (by omega) ?_); intro y hy; simp only [Int.toNat_natCast] at hy; rw [hl] at hy; obtain rfl := Option.some.inj hy)
       | ((with_reducible refine ivMulN hnm2 (by omega) ?_))
       | ((with_reducible apply drT 5); rfl)
       | ((with_reducible apply ob); ((first | rfl | assumption | omega | (unfold maxLen2; omega) | (dsimp only; omega) | (simp only [LN]; omega) | (simp; done) | (simp; omega)))))
      all_goals (conv => whnf)
      all_goals (first | (exfalso; omega) | skip)
      refine lpX (X := Nat × List (Int × List Int) × List (Int × Tree)) (fun y => [(2, .ref (.agg [.leaf, .leaf]) x.D), (7, reachF x), (8, iD (n * ys.length)), (9, iD i), (11, .list false (.agg [.leaf, .leaf]) (rchL y.2.1)), (12, .list false (.agg [.leaf, .agg [.leaf]]) (unsL y.2.2)), (13, iD y.1), (34, .list false (.agg [.leaf, .leaf]) (lvlsL L)), (35, iD (lvlsL L).length), (36, iD i)]) (fun y => [])
        (fun y => i ≤ y.1 ∧ y.1 ≤ x.V ∧ y.2.1.length ≤ 1000000 ∧ y.2.2.length ≤ 1000000 ∧ lvRun x i (x.V - i) i ys ns = lvRun x i (x.V - y.1) y.1 y.2.1 y.2.2) (fun y => x.V - y.1) ⟨_, nx (ρ := []) (i, ys, ns) (by repeat (first | exact trivial | refine seC rfl rfl ?_ | refine seL (leRow rfl rfl) rfl ?_)) trivial rfl rfl (Nat.lt_succ_self _) ⟨Nat.le_refl _, hi, hL2.1, hL2.2, rfl⟩⟩ ?_
      rintro ⟨j, ys', ns'⟩ ⟨hij, hj, hy1, hn1, hrun⟩
      dsimp only at hij hj hy1 hn1 hrun ⊢
      rcases Nat.lt_or_ge j x.V with hjl | hjg
      · have hd := pre_dif i j x.V hij hjl
        have hpj := pre_len i j
        have hck := fun yj ym => vCheck1 x i yj ym hx hb hlt
        have hch := fun um => vCheckT x x (preI i j) (.node um) hx hx hx7 hx7 hd (by omega)
        rcases ys' with _ | ⟨⟨yj, ym⟩, yt⟩ <;> rcases ns' with _ | ⟨⟨uj, ⟨um⟩⟩, ut⟩
        · repeat' (
           conv => whnf
           first
           | refine ifd (fun h => ?_) (fun h => ?_)
           | with_reducible refine ivW (by omega) (by omega) ?_
           | ((with_reducible apply drT 21); rfl))
          all_goals (conv => whnf)
          all_goals (first | (exfalso; omega) | skip)
          all_goals first
            | (refine fC rfl (Eq.symm (hfail (hrun.trans (lvRun_bad hjl ?_ ?_)))) <;> (first | rfl | (refine yes_f1 ?_; assumption) | (refine yes_f2 ?_; assumption) | (refine yes_t ?_ ?_ <;> assumption) | (refine no_f1 ?_; assumption) | (refine no_f2 ?_; assumption) | (refine no_t ?_ ?_ <;> assumption)))
            | (refine nx0 (X := Nat × List (Int × List Int) × List (Int × Tree)) (j + 1, yt, []) ?_ rfl ?_ ?_ <;> first | (refine ⟨?_, ?_, ?_, hn1, hrun.trans (lvRun_yes hjl ?_)⟩ <;> first | (dsimp only; omega) | (simp only [List.length_cons] at hy1 ⊢; omega) | (refine yes_f1 ?_; assumption) | (refine yes_f2 ?_; assumption) | (refine yes_t ?_ ?_ <;> assumption) | (refine no_f1 ?_; assumption) | (refine no_f2 ?_; assumption) | (refine no_t ?_ ?_ <;> assumption)) | (dsimp only; omega) | (simp only [List.length_cons] at hy1 ⊢; omega) | (refine yes_f1 ?_; assumption) | (refine yes_f2 ?_; assumption) | (refine yes_t ?_ ?_ <;> assumption) | (refine no_f1 ?_; assumption) | (refine no_f2 ?_; assumption) | (refine no_t ?_ ?_ <;> assumption) | (focus (repeat (first | exact trivial | refine se0 rfl ?_)); done))
            | (refine nx0 (X := Nat × List (Int × List Int) × List (Int × Tree)) (j + 1, yt, (uj, Tree.node um) :: ut) ?_ rfl ?_ ?_ <;> first | (refine ⟨?_, ?_, ?_, hn1, hrun.trans (lvRun_yes hjl ?_)⟩ <;> first | (dsimp only; omega) | (simp only [List.length_cons] at hy1 ⊢; omega) | (refine yes_f1 ?_; assumption) | (refine yes_f2 ?_; assumption) | (refine yes_t ?_ ?_ <;> assumption) | (refine no_f1 ?_; assumption) | (refine no_f2 ?_; assumption) | (refine no_t ?_ ?_ <;> assumption)) | (dsimp only; omega) | (simp only [List.length_cons] at hy1 ⊢; omega) | (refine yes_f1 ?_; assumption) | (refine yes_f2 ?_; assumption) | (refine yes_t ?_ ?_ <;> assumption) | (refine no_f1 ?_; assumption) | (refine no_f2 ?_; assumption) | (refine no_t ?_ ?_ <;> assumption) | (focus (repeat (first | exact trivial | refine se0 rfl ?_)); done))
            | (refine nx0 (X := Nat × List (Int × List Int) × List (Int × Tree)) (j + 1, [], ut) ?_ rfl ?_ ?_ <;> first | (refine ⟨?_, ?_, hy1, ?_, hrun.trans (lvRun_no hjl ?_ ?_)⟩ <;> first | rfl | (dsimp only; omega) | (simp only [List.length_cons] at hn1 ⊢; omega) | (refine yes_f1 ?_; assumption) | (refine yes_f2 ?_; assumption) | (refine yes_t ?_ ?_ <;> assumption) | (refine no_f1 ?_; assumption) | (refine no_f2 ?_; assumption) | (refine no_t ?_ ?_ <;> assumption)) | rfl | (dsimp only; omega) | (simp only [List.length_cons] at hn1 ⊢; omega) | (refine yes_f1 ?_; assumption) | (refine yes_f2 ?_; assumption) | (refine yes_t ?_ ?_ <;> assumption) | (refine no_f1 ?_; assumption) | (refine no_f2 ?_; assumption) | (refine no_t ?_ ?_ <;> assumption) | (focus (repeat (first | exact trivial | refine se0 rfl ?_)); done))
            | (refine nx0 (X := Nat × List (Int × List Int) × List (Int × Tree)) (j + 1, (yj, ym) :: yt, ut) ?_ rfl ?_ ?_ <;> first | (refine ⟨?_, ?_, hy1, ?_, hrun.trans (lvRun_no hjl ?_ ?_)⟩ <;> first | rfl | (dsimp only; omega) | (simp only [List.length_cons] at hn1 ⊢; omega) | (refine yes_f1 ?_; assumption) | (refine yes_f2 ?_; assumption) | (refine yes_t ?_ ?_ <;> assumption) | (refine no_f1 ?_; assumption) | (refine no_f2 ?_; assumption) | (refine no_t ?_ ?_ <;> assumption)) | rfl | (dsimp only; omega) | (simp only [List.length_cons] at hn1 ⊢; omega) | (refine yes_f1 ?_; assumption) | (refine yes_f2 ?_; assumption) | (refine yes_t ?_ ?_ <;> assumption) | (refine no_f1 ?_; assumption) | (refine no_f2 ?_; assumption) | (refine no_t ?_ ?_ <;> assumption) | (focus (repeat (first | exact trivial | refine se0 rfl ?_)); done))
            | skip
        · have hp2 : (0 : Int) < ((unsL ((uj, Tree.node um) :: ut)).length : Int) := by simp only [unsL_len, List.length_cons]; omega
          have hch := hch um
          cases hk : chkM x x (preI i j) (.node um) <;> rw [hk] at hch
          all_goals
            repeat' (
             conv => whnf
             first
             | refine ifd (fun h => ?_) (fun h => ?_)
             | with_reducible refine ivW (by omega) (by omega) ?_
             | ((with_reducible refine exW0 ?_))
             | ((with_reducible refine hcI ?_); refine Val.call hch (.refl _) (ler _ _) rfl ?_; rintro r rfl)
             | ((with_reducible refine pcI ?_); refine Val.pure (vPrefix _ _ (by omega)) (ler _ _) rfl rfl ?_)
             | ((with_reducible apply drT 21); rfl)
             | ((with_reducible apply ob); ((first | rfl | assumption | omega | (unfold maxLen2; omega) | (dsimp only; omega) | (simp only [LN]; omega) | (simp; done) | (simp; omega)))))
            all_goals (conv => whnf)
            all_goals (first | (exfalso; omega) | skip)
            all_goals first
              | (refine fC rfl (Eq.symm (hfail (hrun.trans (lvRun_bad hjl ?_ ?_)))) <;> (first | rfl | (refine yes_f1 ?_; assumption) | (refine yes_f2 ?_; assumption) | (refine yes_t ?_ ?_ <;> assumption) | (refine no_f1 ?_; assumption) | (refine no_f2 ?_; assumption) | (refine no_t ?_ ?_ <;> assumption)))
              | (refine nx0 (X := Nat × List (Int × List Int) × List (Int × Tree)) (j + 1, yt, []) ?_ rfl ?_ ?_ <;> first | (refine ⟨?_, ?_, ?_, hn1, hrun.trans (lvRun_yes hjl ?_)⟩ <;> first | (dsimp only; omega) | (simp only [List.length_cons] at hy1 ⊢; omega) | (refine yes_f1 ?_; assumption) | (refine yes_f2 ?_; assumption) | (refine yes_t ?_ ?_ <;> assumption) | (refine no_f1 ?_; assumption) | (refine no_f2 ?_; assumption) | (refine no_t ?_ ?_ <;> assumption)) | (dsimp only; omega) | (simp only [List.length_cons] at hy1 ⊢; omega) | (refine yes_f1 ?_; assumption) | (refine yes_f2 ?_; assumption) | (refine yes_t ?_ ?_ <;> assumption) | (refine no_f1 ?_; assumption) | (refine no_f2 ?_; assumption) | (refine no_t ?_ ?_ <;> assumption) | (focus (repeat (first | exact trivial | refine se0 rfl ?_)); done))
              | (refine nx0 (X := Nat × List (Int × List Int) × List (Int × Tree)) (j + 1, yt, (uj, Tree.node um) :: ut) ?_ rfl ?_ ?_ <;> first | (refine ⟨?_, ?_, ?_, hn1, hrun.trans (lvRun_yes hjl ?_)⟩ <;> first | (dsimp only; omega) | (simp only [List.length_cons] at hy1 ⊢; omega) | (refine yes_f1 ?_; assumption) | (refine yes_f2 ?_; assumption) | (refine yes_t ?_ ?_ <;> assumption) | (refine no_f1 ?_; assumption) | (refine no_f2 ?_; assumption) | (refine no_t ?_ ?_ <;> assumption)) | (dsimp only; omega) | (simp only [List.length_cons] at hy1 ⊢; omega) | (refine yes_f1 ?_; assumption) | (refine yes_f2 ?_; assumption) | (refine yes_t ?_ ?_ <;> assumption) | (refine no_f1 ?_; assumption) | (refine no_f2 ?_; assumption) | (refine no_t ?_ ?_ <;> assumption) | (focus (repeat (first | exact trivial | refine se0 rfl ?_)); done))
              | (refine nx0 (X := Nat × List (Int × List Int) × List (Int × Tree)) (j + 1, [], ut) ?_ rfl ?_ ?_ <;> first | (refine ⟨?_, ?_, hy1, ?_, hrun.trans (lvRun_no hjl ?_ ?_)⟩ <;> first | rfl | (dsimp only; omega) | (simp only [List.length_cons] at hn1 ⊢; omega) | (refine yes_f1 ?_; assumption) | (refine yes_f2 ?_; assumption) | (refine yes_t ?_ ?_ <;> assumption) | (refine no_f1 ?_; assumption) | (refine no_f2 ?_; assumption) | (refine no_t ?_ ?_ <;> assumption)) | rfl | (dsimp only; omega) | (simp only [List.length_cons] at hn1 ⊢; omega) | (refine yes_f1 ?_; assumption) | (refine yes_f2 ?_; assumption) | (refine yes_t ?_ ?_ <;> assumption) | (refine no_f1 ?_; assumption) | (refine no_f2 ?_; assumption) | (refine no_t ?_ ?_ <;> assumption) | (focus (repeat (first | exact trivial | refine se0 rfl ?_)); done))
              | (refine nx0 (X := Nat × List (Int × List Int) × List (Int × Tree)) (j + 1, (yj, ym) :: yt, ut) ?_ rfl ?_ ?_ <;> first | (refine ⟨?_, ?_, hy1, ?_, hrun.trans (lvRun_no hjl ?_ ?_)⟩ <;> first | rfl | (dsimp only; omega) | (simp only [List.length_cons] at hn1 ⊢; omega) | (refine yes_f1 ?_; assumption) | (refine yes_f2 ?_; assumption) | (refine yes_t ?_ ?_ <;> assumption) | (refine no_f1 ?_; assumption) | (refine no_f2 ?_; assumption) | (refine no_t ?_ ?_ <;> assumption)) | rfl | (dsimp only; omega) | (simp only [List.length_cons] at hn1 ⊢; omega) | (refine yes_f1 ?_; assumption) | (refine yes_f2 ?_; assumption) | (refine yes_t ?_ ?_ <;> assumption) | (refine no_f1 ?_; assumption) | (refine no_f2 ?_; assumption) | (refine no_t ?_ ?_ <;> assumption) | (focus (repeat (first | exact trivial | refine se0 rfl ?_)); done))
              | skip
        · have hp1 : (0 : Int) < ((rchL ((yj, ym) :: yt)).length : Int) := by simp only [rchL_len, List.length_cons]; omega
          have hck := hck yj ym
          cases hr : reachB x i yj ym <;> rw [hr] at hck
          all_goals
            repeat' (
             conv => whnf
             first
             | refine ifd (fun h => ?_) (fun h => ?_)
             | with_reducible refine ivW (by omega) (by omega) ?_
             | ((with_reducible refine exC0 ?_))
             | ((with_reducible refine hcI ?_); refine Val.call hck (.refl _) (ler _ _) rfl ?_; rintro r rfl)
             | ((with_reducible apply drT 21); rfl)
             | ((with_reducible apply ob); ((first | rfl | assumption | omega | (unfold maxLen2; omega) | (dsimp only; omega) | (simp only [LN]; omega) | (simp; done) | (simp; omega)))))
            all_goals (conv => whnf)
            all_goals (first | (exfalso; omega) | skip)
            all_goals first
              | (refine fC rfl (Eq.symm (hfail (hrun.trans (lvRun_bad hjl ?_ ?_)))) <;> (first | rfl | (refine yes_f1 ?_; assumption) | (refine yes_f2 ?_; assumption) | (refine yes_t ?_ ?_ <;> assumption) | (refine no_f1 ?_; assumption) | (refine no_f2 ?_; assumption) | (refine no_t ?_ ?_ <;> assumption)))
              | (refine nx0 (X := Nat × List (Int × List Int) × List (Int × Tree)) (j + 1, yt, []) ?_ rfl ?_ ?_ <;> first | (refine ⟨?_, ?_, ?_, hn1, hrun.trans (lvRun_yes hjl ?_)⟩ <;> first | (dsimp only; omega) | (simp only [List.length_cons] at hy1 ⊢; omega) | (refine yes_f1 ?_; assumption) | (refine yes_f2 ?_; assumption) | (refine yes_t ?_ ?_ <;> assumption) | (refine no_f1 ?_; assumption) | (refine no_f2 ?_; assumption) | (refine no_t ?_ ?_ <;> assumption)) | (dsimp only; omega) | (simp only [List.length_cons] at hy1 ⊢; omega) | (refine yes_f1 ?_; assumption) | (refine yes_f2 ?_; assumption) | (refine yes_t ?_ ?_ <;> assumption) | (refine no_f1 ?_; assumption) | (refine no_f2 ?_; assumption) | (refine no_t ?_ ?_ <;> assumption) | (focus (repeat (first | exact trivial | refine se0 rfl ?_)); done))
              | (refine nx0 (X := Nat × List (Int × List Int) × List (Int × Tree)) (j + 1, yt, (uj, Tree.node um) :: ut) ?_ rfl ?_ ?_ <;> first | (refine ⟨?_, ?_, ?_, hn1, hrun.trans (lvRun_yes hjl ?_)⟩ <;> first | (dsimp only; omega) | (simp only [List.length_cons] at hy1 ⊢; omega) | (refine yes_f1 ?_; assumption) | (refine yes_f2 ?_; assumption) | (refine yes_t ?_ ?_ <;> assumption) | (refine no_f1 ?_; assumption) | (refine no_f2 ?_; assumption) | (refine no_t ?_ ?_ <;> assumption)) | (dsimp only; omega) | (simp only [List.length_cons] at hy1 ⊢; omega) | (refine yes_f1 ?_; assumption) | (refine yes_f2 ?_; assumption) | (refine yes_t ?_ ?_ <;> assumption) | (refine no_f1 ?_; assumption) | (refine no_f2 ?_; assumption) | (refine no_t ?_ ?_ <;> assumption) | (focus (repeat (first | exact trivial | refine se0 rfl ?_)); done))
              | (refine nx0 (X := Nat × List (Int × List Int) × List (Int × Tree)) (j + 1, [], ut) ?_ rfl ?_ ?_ <;> first | (refine ⟨?_, ?_, hy1, ?_, hrun.trans (lvRun_no hjl ?_ ?_)⟩ <;> first | rfl | (dsimp only; omega) | (simp only [List.length_cons] at hn1 ⊢; omega) | (refine yes_f1 ?_; assumption) | (refine yes_f2 ?_; assumption) | (refine yes_t ?_ ?_ <;> assumption) | (refine no_f1 ?_; assumption) | (refine no_f2 ?_; assumption) | (refine no_t ?_ ?_ <;> assumption)) | rfl | (dsimp only; omega) | (simp only [List.length_cons] at hn1 ⊢; omega) | (refine yes_f1 ?_; assumption) | (refine yes_f2 ?_; assumption) | (refine yes_t ?_ ?_ <;> assumption) | (refine no_f1 ?_; assumption) | (refine no_f2 ?_; assumption) | (refine no_t ?_ ?_ <;> assumption) | (focus (repeat (first | exact trivial | refine se0 rfl ?_)); done))
              | (refine nx0 (X := Nat × List (Int × List Int) × List (Int × Tree)) (j + 1, (yj, ym) :: yt, ut) ?_ rfl ?_ ?_ <;> first | (refine ⟨?_, ?_, hy1, ?_, hrun.trans (lvRun_no hjl ?_ ?_)⟩ <;> first | rfl | (dsimp only; omega) | (simp only [List.length_cons] at hn1 ⊢; omega) | (refine yes_f1 ?_; assumption) | (refine yes_f2 ?_; assumption) | (refine yes_t ?_ ?_ <;> assumption) | (refine no_f1 ?_; assumption) | (refine no_f2 ?_; assumption) | (refine no_t ?_ ?_ <;> assumption)) | rfl | (dsimp only; omega) | (simp only [List.length_cons] at hn1 ⊢; omega) | (refine yes_f1 ?_; assumption) | (refine yes_f2 ?_; assumption) | (refine yes_t ?_ ?_ <;> assumption) | (refine no_f1 ?_; assumption) | (refine no_f2 ?_; assumption) | (refine no_t ?_ ?_ <;> assumption) | (focus (repeat (first | exact trivial | refine se0 rfl ?_)); done))
              | skip
        · have hp1 : (0 : Int) < ((rchL ((yj, ym) :: yt)).length : Int) := by simp only [rchL_len, List.length_cons]; omega
          have hp2 : (0 : Int) < ((unsL ((uj, Tree.node um) :: ut)).length : Int) := by simp only [unsL_len, List.length_cons]; omega
          have hck := hck yj ym
          have hch := hch um
          cases hr : reachB x i yj ym <;> rw [hr] at hck <;> cases hk : chkM x x (preI i j) (.node um) <;> rw [hk] at hch
          all_goals
            repeat' (
             conv => whnf
             first
             | refine ifd (fun h => ?_) (fun h => ?_)
             | with_reducible refine ivW (by omega) (by omega) ?_
             | ((with_reducible refine exC0 ?_))
             | ((with_reducible refine exW0 ?_))
             | ((with_reducible refine hcI ?_); refine Val.call hck (.refl _) (ler _ _) rfl ?_; rintro r rfl)
             | ((with_reducible refine hcI ?_); refine Val.call hch (.refl _) (ler _ _) rfl ?_; rintro r rfl)
             | ((with_reducible refine pcI ?_); refine Val.pure (vPrefix _ _ (by omega)) (ler _ _) rfl rfl ?_)
             | ((with_reducible apply drT 21); rfl)
             | ((with_reducible apply ob); ((first | rfl | assumption | omega | (unfold maxLen2; omega) | (dsimp only; omega) | (simp only [LN]; omega) | (simp; done) | (simp; omega)))))
            all_goals (conv => whnf)
            all_goals (first | (exfalso; omega) | skip)
            all_goals first
              | (refine fC rfl (Eq.symm (hfail (hrun.trans (lvRun_bad hjl ?_ ?_)))) <;> (first | rfl | (refine yes_f1 ?_; assumption) | (refine yes_f2 ?_; assumption) | (refine yes_t ?_ ?_ <;> assumption) | (refine no_f1 ?_; assumption) | (refine no_f2 ?_; assumption) | (refine no_t ?_ ?_ <;> assumption)))
              | (refine nx0 (X := Nat × List (Int × List Int) × List (Int × Tree)) (j + 1, yt, []) ?_ rfl ?_ ?_ <;> first | (refine ⟨?_, ?_, ?_, hn1, hrun.trans (lvRun_yes hjl ?_)⟩ <;> first | (dsimp only; omega) | (simp only [List.length_cons] at hy1 ⊢; omega) | (refine yes_f1 ?_; assumption) | (refine yes_f2 ?_; assumption) | (refine yes_t ?_ ?_ <;> assumption) | (refine no_f1 ?_; assumption) | (refine no_f2 ?_; assumption) | (refine no_t ?_ ?_ <;> assumption)) | (dsimp only; omega) | (simp only [List.length_cons] at hy1 ⊢; omega) | (refine yes_f1 ?_; assumption) | (refine yes_f2 ?_; assumption) | (refine yes_t ?_ ?_ <;> assumption) | (refine no_f1 ?_; assumption) | (refine no_f2 ?_; assumption) | (refine no_t ?_ ?_ <;> assumption) | (focus (repeat (first | exact trivial | refine se0 rfl ?_)); done))
              | (refine nx0 (X := Nat × List (Int × List Int) × List (Int × Tree)) (j + 1, yt, (uj, Tree.node um) :: ut) ?_ rfl ?_ ?_ <;> first | (refine ⟨?_, ?_, ?_, hn1, hrun.trans (lvRun_yes hjl ?_)⟩ <;> first | (dsimp only; omega) | (simp only [List.length_cons] at hy1 ⊢; omega) | (refine yes_f1 ?_; assumption) | (refine yes_f2 ?_; assumption) | (refine yes_t ?_ ?_ <;> assumption) | (refine no_f1 ?_; assumption) | (refine no_f2 ?_; assumption) | (refine no_t ?_ ?_ <;> assumption)) | (dsimp only; omega) | (simp only [List.length_cons] at hy1 ⊢; omega) | (refine yes_f1 ?_; assumption) | (refine yes_f2 ?_; assumption) | (refine yes_t ?_ ?_ <;> assumption) | (refine no_f1 ?_; assumption) | (refine no_f2 ?_; assumption) | (refine no_t ?_ ?_ <;> assumption) | (focus (repeat (first | exact trivial | refine se0 rfl ?_)); done))
              | (refine nx0 (X := Nat × List (Int × List Int) × List (Int × Tree)) (j + 1, [], ut) ?_ rfl ?_ ?_ <;> first | (refine ⟨?_, ?_, hy1, ?_, hrun.trans (lvRun_no hjl ?_ ?_)⟩ <;> first | rfl | (dsimp only; omega) | (simp only [List.length_cons] at hn1 ⊢; omega) | (refine yes_f1 ?_; assumption) | (refine yes_f2 ?_; assumption) | (refine yes_t ?_ ?_ <;> assumption) | (refine no_f1 ?_; assumption) | (refine no_f2 ?_; assumption) | (refine no_t ?_ ?_ <;> assumption)) | rfl | (dsimp only; omega) | (simp only [List.length_cons] at hn1 ⊢; omega) | (refine yes_f1 ?_; assumption) | (refine yes_f2 ?_; assumption) | (refine yes_t ?_ ?_ <;> assumption) | (refine no_f1 ?_; assumption) | (refine no_f2 ?_; assumption) | (refine no_t ?_ ?_ <;> assumption) | (focus (repeat (first | exact trivial | refine se0 rfl ?_)); done))
              | (refine nx0 (X := Nat × List (Int × List Int) × List (Int × Tree)) (j + 1, (yj, ym) :: yt, ut) ?_ rfl ?_ ?_ <;> first | (refine ⟨?_, ?_, hy1, ?_, hrun.trans (lvRun_no hjl ?_ ?_)⟩ <;> first | rfl | (dsimp only; omega) | (simp only [List.length_cons] at hn1 ⊢; omega) | (refine yes_f1 ?_; assumption) | (refine yes_f2 ?_; assumption) | (refine yes_t ?_ ?_ <;> assumption) | (refine no_f1 ?_; assumption) | (refine no_f2 ?_; assumption) | (refine no_t ?_ ?_ <;> assumption)) | rfl | (dsimp only; omega) | (simp only [List.length_cons] at hn1 ⊢; omega) | (refine yes_f1 ?_; assumption) | (refine yes_f2 ?_; assumption) | (refine yes_t ?_ ?_ <;> assumption) | (refine no_f1 ?_; assumption) | (refine no_f2 ?_; assumption) | (refine no_t ?_ ?_ <;> assumption) | (focus (repeat (first | exact trivial | refine se0 rfl ?_)); done))
              | skip
      · have hjv : j = x.V := by omega
        have hl1 := rchL_len ys'
        have hl2 := unsL_len ns'
        subst hjv
        have hrun2 : lvRun x i (x.V - i) i ys ns = decide (ys'.length + ns'.length = 0) := by rw [hrun, Nat.sub_self]; rfl
        repeat' (
         conv => whnf
         first
         | refine ifd (fun h => ?_) (fun h => ?_)
         | with_reducible refine ivW (by omega) (by omega) ?_
         | ((with_reducible apply drT 21); rfl)
         | ((with_reducible apply ob); ((first | rfl | assumption | omega | (unfold maxLen2; omega) | (dsimp only; omega) | (simp only [LN]; omega) | (simp; done) | (simp; omega)))))
        all_goals (conv => whnf)
        all_goals (first | (exfalso; omega) | skip)
        · exact fC rfl (Eq.symm (hfail (by rw [hrun2]; exact decide_eq_false (by omega))))
        · have ht : lvRun x i (x.V - i) i ys ns = true := by rw [hrun2]; exact decide_eq_true (by omega)
          have hle := lvRun_le x i _ _ _ _ ht
          refine nx (X := Nat × Nat) (ρ := []) (i + 1, n * ys.length) (by repeat (first | exact trivial | refine seC rfl rfl ?_ | refine seL (leRow rfl rfl) rfl ?_)) trivial rfl rfl ?_ ?_
          · dsimp only; omega
          · refine ⟨?_, ?_, hgo ht⟩
            · dsimp only; omega
            · dsimp only; rw [Nat.pow_succ]; exact Nat.mul_le_mul hn (by omega)
    · have hiv : i = x.V := by omega
      have hlast : chkN x L = n := by
        unfold chkN; rw [if_pos hLV, hc, List.drop_eq_nil_of_le (by omega)]; rfl
      repeat' (
       conv => whnf
       first
       | refine ifd (fun h => ?_) (fun h => ?_)
       | ((with_reducible apply ob); ((first | rfl | assumption | omega | (unfold maxLen2; omega) | (dsimp only; omega) | (simp only [LN]; omega) | (simp; done) | (simp; omega)))))
      all_goals (conv => whnf)
      all_goals (first | (exfalso; omega) | skip)
      · exact fC rfl (by rw [hlast, show n = 0 by omega]; rfl)
      · refine fC rfl (by rw [hlast]; unfold chkD; rw [if_neg (by omega)]; rfl)
  · repeat' (
     conv => whnf
     first
     | refine ifd (fun h => ?_) (fun h => ?_)
     | refine ifn (fun h => ?_) (fun h => ?_)
     | with_reducible refine ivW (by omega) (by omega) ?_)
    all_goals (conv => whnf)
    all_goals (first | (exfalso; omega) | skip)
    have e : chkN x L = 0 := by unfold chkN; rw [if_neg hLV]
    exact fC rfl (by rw [e]; rfl)
end Go.Proofs.YthfcfdlbnfcboaaDoor.Pw



set_option linter.unusedVariables false
set_option linter.unusedSimpArgs false
set_option maxHeartbeats 1000000
set_option maxRecDepth 10000
namespace Go.Proofs.YthfcfdlbnfcboaaDoor.Pw
open Go
def limV (l : List Nat) (most : Nat) : Nat := 1 + l.getD 1 0 % most
def limA (v : Nat) : Nat := 1 <<< v - 1
def limF (l : List Nat) (v : Nat) : Nat := l.getD 2 0 &&& limA v
def limN (l : List Nat) : Nat := 1 + l.getD 3 0 % 10
def turnsL (b v k : Nat) : List Nat := (List.range k).map fun t => turnN b v t
def pairL (p k : Nat) : List Nat := (List.range k).map fun q => 1 <<< p ||| 1 <<< q
def pairsL : Nat → List Nat
  | 0 => []
  | p + 1 => pairsL p ++ pairL p p
def planeL (v k : Nat) : List Nat := (List.range k).map fun t => turnN 11 7 t &&& limA v
def shrL (l : List Nat) (v k : Nat) : List Nat := (List.range k).map fun t => limF l v >>> (l.getD (4 + t) 0 % 2)
def triL (l : List Nat) (v k : Nat) : List Nat := ((List.range k).map fun t => l.getD (4 + t) 0 &&& limA v).filter fun b => decide (sizeN b = 3)
def anyL (l : List Nat) (v k : Nat) : List Nat := (List.range k).map fun t => l.getD (4 + t) 0 &&& limA v
def limL (l : List Nat) (v : Nat) : List Nat :=
  if l.getD 0 0 % 8 = 0 ∨ l.getD 0 0 % 8 = 1 then turnsL (limF l v) v v else
  if l.getD 0 0 % 8 = 2 then pairsL v else if l.getD 0 0 % 8 = 3 then planeL v 7 else
  if l.getD 0 0 % 8 = 4 then shrL l v (limN l) else if l.getD 0 0 % 8 = 5 then triL l v (limN l) else anyL l v (limN l)
def limX (l : List Nat) (most : Nat) : Inc := ⟨limV l most, sortL ((limL l (limV l most)).take 10)⟩
theorem limA_w {v : Nat} (h : v < 64) : W64 (limA v) := wSub (wOne h)
theorem turn_w {b v t : Nat} (hv : v ≤ 64) (h0 : 0 < v) : W64 (turnN b v t) := turnK_w hv h0 v
theorem ws_map {α : Type} {f : α → Nat} {l : List α} (h : ∀ a ∈ l, W64 (f a)) : Ws (l.map f) := by
  intro x hx
  obtain ⟨a, ha, rfl⟩ := List.mem_map.1 hx
  exact h a ha
theorem pairL_w {p : Nat} (h : p < 64) (k : Nat) (hk : k ≤ 64) : Ws (pairL p k) := ws_map fun q hq => wOr (wOne h) (wOne (by have := List.mem_range.1 hq; omega))
theorem ws_app {a b : List Nat} (ha : Ws a) (hb : Ws b) : Ws (a ++ b) := by
  intro x hx
  rcases List.mem_append.1 hx with h | h
  · exact ha x h
  · exact hb x h
theorem pairsL_w : ∀ p, p ≤ 64 → Ws (pairsL p)
  | 0, _ => by intro x hx; cases hx
  | p + 1, h => ws_app (pairsL_w p (by omega)) (pairL_w (by omega) p (by omega))
theorem pairs_len : ∀ p, (pairsL p).length ≤ p * p
  | 0 => Nat.le_refl _
  | p + 1 => by
    have := pairs_len p
    simp only [pairsL, pairL, List.length_append, List.length_map, List.length_range]
    have e : (p + 1) * (p + 1) = p * p + 2 * p + 1 := by rw [Nat.mul_add, Nat.add_mul]; omega
    omega
theorem triL_w {l : List Nat} {v : Nat} (hA : W64 (limA v)) (k : Nat) : Ws (triL l v k) := fun x hx => (ws_map (fun t _ => wAnd2 hA)) x ((List.mem_filter.1 hx).1)
theorem triL_len (l : List Nat) (v k : Nat) : (triL l v k).length ≤ k := Nat.le_trans (List.length_filter_le _ _) (by simp)
theorem triL_pos {l : List Nat} {v k : Nat} (h : sizeN (l.getD (4 + k) 0 &&& limA v) = 3) : triL l v (k + 1) = triL l v k ++ [l.getD (4 + k) 0 &&& limA v] := by
  simp only [triL, List.range_succ, List.map_append, List.filter_append, List.map_cons, List.map_nil, List.filter_cons, List.filter_nil, h, decide_true, if_true]
theorem triL_neg {l : List Nat} {v k : Nat} (h : ¬ sizeN (l.getD (4 + k) 0 &&& limA v) = 3) : triL l v (k + 1) = triL l v k := by
  simp only [triL, List.range_succ, List.map_append, List.filter_append, List.map_cons, List.map_nil, List.filter_cons, List.filter_nil, decide_eq_false h, Bool.false_eq_true, if_false, List.append_nil]
theorem ws_take {l : List Nat} (h : Ws l) (k : Nat) : Ws (l.take k) := fun x hx => h x (List.mem_of_mem_take hx)
theorem leTen {H : List Ob} {g : Nat} {l : List Nat} {len : Nat} (h : H.getD g .dead = .frz .leaf (setsL l)) (hl : len ≤ l.length) (he : l.take len = l.take 10) : LeD H (setsD (l.take 10)) (.sl g 0 len) :=
  leCut h (by simp; omega) (by rw [List.drop_zero, ← he]; simp [setsL, List.map_take])
theorem vLimited (l : List Nat) (most : Nat) (hR : ∀ x ∈ l, x < 256) (hm : 1 ≤ most) (hm7 : most ≤ 7) : Val Tryd.prog 8 [.agg [bytesD l], iD most] (fun r => r = (limX l most).D) := by
  have hl0 : (bytesL l).length = l.length := by simp
  have hgb : ∀ k, l.getD k 0 < 256 := fun k => by
    rw [List.getD]
    cases h : l[k]? with
    | none => simp
    | some y => exact hR y (List.mem_of_getElem? h)
  have hW : ∀ k, W64 (l.getD k 0) := fun k => Nat.lt_trans (hgb k) (by decide)
  have hg0 := hgb 0
  have hg1 := hgb 1
  have hg2 := hgb 2
  have hg3 := hgb 3
  have hm1 : l.getD 1 0 % most < most := Nat.mod_lt _ (by omega)
  have hm3 : l.getD 3 0 % 10 < 10 := Nat.mod_lt _ (by omega)
  obtain ⟨v, hv⟩ : ∃ v, v = limV l most := ⟨_, rfl⟩
  have hv1 : 1 ≤ v := by unfold limV at hv; omega
  have hv7 : v ≤ 7 := by unfold limV at hv; omega
  have hvi : (1 : Int) + ((l.getD 1 0 % most : Nat) : Int) = (v : Int) := by unfold limV at hv; omega
  obtain ⟨n, hn⟩ : ∃ n, n = limN l := ⟨_, rfl⟩
  have hn1 : 1 ≤ n := by unfold limN at hn; omega
  have hn7 : n ≤ 10 := by unfold limN at hn; omega
  have hni : (1 : Int) + ((l.getD 3 0 % 10 : Nat) : Int) = (n : Int) := by unfold limN at hn; omega
  have hA : W64 (limA v) := limA_w (by omega)
  have hF : W64 (limF l v) := wAnd2 hA
  have hS : W64 (1 <<< ((1 : Int) + ((l.getD 1 0 % most : Nat) : Int)).toNat - 1) := wSub (wOne (by omega))
  have hAe : D.int .u64 ((1 <<< ((1 : Int) + ((l.getD 1 0 % most : Nat) : Int)).toNat - 1 : Nat) : Int) = sD (limA v) := by rw [hvi]; rfl
  have hFe : D.int .u64 ((l.getD 2 0 &&& (1 <<< ((1 : Int) + ((l.getD 1 0 % most : Nat) : Int)).toNat - 1) : Nat) : Int) = sD (limF l v) := by rw [hvi]; rfl
  obtain ⟨q, hq⟩ : ∃ q, q = l.getD 0 0 % 8 := ⟨_, rfl⟩
  unfold limX limL
  rw [← hv, ← hn, ← hq]
  refine Val.ofV ?_
  refine hc_ofS (okc Tryd.f8.ntmps 0) (fn := Tryd.f8) (cd := _) rfl rfl rfl rfl rfl rfl (fun hbd => ?_)
  repeat' (
   conv => whnf
   first
   | refine ifd (fun h => ?_) (fun h => ?_)
   | with_reducible refine ivW (by omega) (by omega) ?_
   | ((with_reducible apply ivAnd); (rfl); (rfl); (focus ((repeat' (first | assumption | (exact hW _) | (unfold W64; first | omega | decide) | (exact Ws.get (by assumption) (by assumption)) | (exact wOne (by omega)) | (exact bit1_w (by omega)) | (exact wXorAnd (by assumption)) | (exact wSub (by assumption)) | apply wOr | (apply wAnd; assumption) | (apply wAnd2; assumption) | apply wShr)) <;> fail)); (focus ((repeat' (first | assumption | (exact hW _) | (unfold W64; first | omega | decide) | (exact Ws.get (by assumption) (by assumption)) | (exact wOne (by omega)) | (exact bit1_w (by omega)) | (exact wXorAnd (by assumption)) | (exact wSub (by assumption)) | apply wOr | (apply wAnd; assumption) | (apply wAnd2; assumption) | apply wShr)) <;> fail)))
   | ((with_reducible apply ivShl); (rfl); (rfl); (omega); (focus ((repeat' (first | assumption | (exact hW _) | (unfold W64; first | omega | decide) | (exact Ws.get (by assumption) (by assumption)) | (exact wOne (by omega)) | (exact bit1_w (by omega)) | (exact wXorAnd (by assumption)) | (exact wSub (by assumption)) | apply wOr | (apply wAnd; assumption) | (apply wAnd2; assumption) | apply wShr)) <;> fail)))
   | ((with_reducible apply ivSub); (rfl); (rfl); (first | exact one_pos _ | omega); (focus ((repeat' (first | assumption | (exact hW _) | (unfold W64; first | omega | decide) | (exact Ws.get (by assumption) (by assumption)) | (exact wOne (by omega)) | (exact bit1_w (by omega)) | (exact wXorAnd (by assumption)) | (exact wSub (by assumption)) | apply wOr | (apply wAnd; assumption) | (apply wAnd2; assumption) | apply wShr)) <;> fail)))
   | ((with_reducible apply ivU); (rfl); (focus ((repeat' (first | assumption | (exact hW _) | (unfold W64; first | omega | decide) | (exact Ws.get (by assumption) (by assumption)) | (exact wOne (by omega)) | (exact bit1_w (by omega)) | (exact wXorAnd (by assumption)) | (exact wSub (by assumption)) | apply wOr | (apply wAnd; assumption) | (apply wAnd2; assumption) | apply wShr)) <;> fail)))
   | ((with_reducible apply ivU1); (omega); (focus ((repeat' (first | assumption | (exact hW _) | (unfold W64; first | omega | decide) | (exact Ws.get (by assumption) (by assumption)) | (exact wOne (by omega)) | (exact bit1_w (by omega)) | (exact wXorAnd (by assumption)) | (exact wSub (by assumption)) | apply wOr | (apply wAnd; assumption) | (apply wAnd2; assumption) | apply wShr)) <;> fail)))
   | (refine ivModE (a := l.getD 0 0) (b := 8) hq.symm ?_)
   | (refine ivMod (a := l.getD 1 0) (b := most) ?_)
   | (refine ivMod (a := l.getD 3 0) (b := 10) ?_)
   | ((with_reducible refine hcI ?_); refine Val.call (vAt _ _ (by assumption)) (.refl _) (ler _ _) rfl ?_; rintro r rfl)
   | ((with_reducible refine pcI ?_); refine Val.pure (vAt _ _ (by assumption)) (ler _ _) rfl rfl ?_)
   | ((with_reducible apply drT 10); rfl)
   | ((with_reducible apply ob); ((first | rfl | assumption | omega | (unfold maxLen2; omega) | (dsimp only; omega) | (simp only [LN]; omega) | (simp; done) | (simp; omega)))))
  all_goals (conv => whnf)
  all_goals (first | (exfalso; omega) | skip)
  · refine lpX (X := Nat) (fun k => [(4, .ptr 1 []), (6, iD v), (8, sD (limF l v)), (9, .sl 2 0 k), (11, iD k)]) (fun k => [.var (.agg [bytesD l]), .var (.agg [.int .i64 0, .nils]), .row .leaf (setsL (turnsL (limF l v) v k))]) (fun k => k ≤ v) (fun k => v - k) ⟨_, nx (ρ := [0, 1, 2]) 0 (by repeat (first | exact trivial | refine seC rfl rfl ?_ | refine seC (congrArg (D.int .i64) hvi) rfl ?_ | refine seC (congrArg (D.int .i64) hni) rfl ?_ | refine seC hAe rfl ?_ | refine seC hFe rfl ?_)) (by repeat (first | exact trivial | refine shC rfl rfl ?_)) rfl rfl (Nat.lt_succ_self _) (Nat.zero_le _)⟩ ?_
    intro k hk
    have hws : Ws (turnsL (limF l v) v k) := ws_map fun t _ => turn_w (by omega) (by omega)
    have hlen : (turnsL (limF l v) v k).length = k := by simp [turnsL]
    have hlen2 : (setsL (turnsL (limF l v) v k)).length = (turnsL (limF l v) v k).length := setsL_len _
    repeat' (
     conv => whnf
     first
     | refine ifd (fun h => ?_) (fun h => ?_)
     | with_reducible refine ivW (by omega) (by omega) ?_
     | ((with_reducible refine hcI ?_); refine Val.call (vSorted ((turnsL (limF l v) v k).take 10) (ws_take hws 10) (by simp; omega)) (.step 2 .leaf (setsL (turnsL (limF l v) v k)) rfl (cl_sets _) (.refl _)) (.cons _ _ _ _ (leTen rfl (by omega) (by first | rfl | (rw [List.take_of_length_le (by omega), List.take_of_length_le (by omega)]))) .nil) rfl ?_; rintro r rfl)
     | ((with_reducible refine hcI ?_); refine Val.call (vTurned _ _ _ (by (repeat' (first | assumption | (exact hW _) | (unfold W64; first | omega | decide) | (exact Ws.get (by assumption) (by assumption)) | (exact wOne (by omega)) | (exact bit1_w (by omega)) | (exact wXorAnd (by assumption)) | (exact wSub (by assumption)) | apply wOr | (apply wAnd; assumption) | (apply wAnd2; assumption) | apply wShr)) <;> fail) (by omega) (by omega) (by omega)) (.refl _) (ler _ _) rfl ?_; rintro r rfl)
     | ((with_reducible apply ob); ((first | rfl | assumption | omega | (unfold maxLen2; omega) | (dsimp only; omega) | (simp only [LN]; omega) | (simp; done) | (simp; omega)))))
    all_goals (conv => whnf)
    · exact nx (ρ := [0, 1, 4]) (k + 1) (by repeat (first | exact trivial | refine seC rfl rfl ?_ | refine seL (leRow rfl rfl) rfl ?_)) (shC rfl rfl (shC rfl rfl (shR rfl (by simp [turnsL, setsL, sD, List.range_succ, List.take_of_length_le]) (cl_sets _) trivial))) rfl rfl (by omega) (by omega)
    all_goals (have hkv : k = v := (by omega); subst hkv; refine fC rfl ?_; rw [if_pos (by omega)]; try rfl)
  · refine lpX (X := Nat) (fun k => [(4, .ptr 1 []), (6, iD v), (8, sD (limF l v)), (9, .sl 2 0 k), (11, iD k)]) (fun k => [.var (.agg [bytesD l]), .var (.agg [.int .i64 0, .nils]), .row .leaf (setsL (turnsL (limF l v) v k))]) (fun k => k ≤ v) (fun k => v - k) ⟨_, nx (ρ := [0, 1, 2]) 0 (by repeat (first | exact trivial | refine seC rfl rfl ?_ | refine seC (congrArg (D.int .i64) hvi) rfl ?_ | refine seC (congrArg (D.int .i64) hni) rfl ?_ | refine seC hAe rfl ?_ | refine seC hFe rfl ?_)) (by repeat (first | exact trivial | refine shC rfl rfl ?_)) rfl rfl (Nat.lt_succ_self _) (Nat.zero_le _)⟩ ?_
    intro k hk
    have hws : Ws (turnsL (limF l v) v k) := ws_map fun t _ => turn_w (by omega) (by omega)
    have hlen : (turnsL (limF l v) v k).length = k := by simp [turnsL]
    have hlen2 : (setsL (turnsL (limF l v) v k)).length = (turnsL (limF l v) v k).length := setsL_len _
    repeat' (
     conv => whnf
     first
     | refine ifd (fun h => ?_) (fun h => ?_)
     | with_reducible refine ivW (by omega) (by omega) ?_
     | ((with_reducible refine hcI ?_); refine Val.call (vSorted ((turnsL (limF l v) v k).take 10) (ws_take hws 10) (by simp; omega)) (.step 2 .leaf (setsL (turnsL (limF l v) v k)) rfl (cl_sets _) (.refl _)) (.cons _ _ _ _ (leTen rfl (by omega) (by first | rfl | (rw [List.take_of_length_le (by omega), List.take_of_length_le (by omega)]))) .nil) rfl ?_; rintro r rfl)
     | ((with_reducible refine hcI ?_); refine Val.call (vTurned _ _ _ (by (repeat' (first | assumption | (exact hW _) | (unfold W64; first | omega | decide) | (exact Ws.get (by assumption) (by assumption)) | (exact wOne (by omega)) | (exact bit1_w (by omega)) | (exact wXorAnd (by assumption)) | (exact wSub (by assumption)) | apply wOr | (apply wAnd; assumption) | (apply wAnd2; assumption) | apply wShr)) <;> fail) (by omega) (by omega) (by omega)) (.refl _) (ler _ _) rfl ?_; rintro r rfl)
     | ((with_reducible apply ob); ((first | rfl | assumption | omega | (unfold maxLen2; omega) | (dsimp only; omega) | (simp only [LN]; omega) | (simp; done) | (simp; omega)))))
    all_goals (conv => whnf)
    · exact nx (ρ := [0, 1, 4]) (k + 1) (by repeat (first | exact trivial | refine seC rfl rfl ?_ | refine seL (leRow rfl rfl) rfl ?_)) (shC rfl rfl (shC rfl rfl (shR rfl (by simp [turnsL, setsL, sD, List.range_succ, List.take_of_length_le]) (cl_sets _) trivial))) rfl rfl (by omega) (by omega)
    all_goals (have hkv : k = v := (by omega); subst hkv; refine fC rfl ?_; rw [if_pos (by omega)]; try rfl)
  · refine lpX (X := Nat) (fun k => [(4, .ptr 1 []), (6, iD v), (9, .sl 2 0 (pairsL k).length), (12, iD k)]) (fun k => [.var (.agg [bytesD l]), .var (.agg [.int .i64 0, .nils]), .row .leaf (setsL (pairsL k))]) (fun k => k ≤ v) (fun k => v - k) ⟨_, nx (ρ := [0, 1, 2]) 0 (by repeat (first | exact trivial | refine seC rfl rfl ?_ | refine seC (congrArg (D.int .i64) hvi) rfl ?_ | refine seC (congrArg (D.int .i64) hni) rfl ?_ | refine seC hAe rfl ?_ | refine seC hFe rfl ?_)) (by repeat (first | exact trivial | refine shC rfl rfl ?_)) rfl rfl (Nat.lt_succ_self _) (Nat.zero_le _)⟩ ?_
    intro k hk
    have hws : Ws (pairsL k) := pairsL_w k (by omega)
    have hlen := pairs_len k
    have hkk : k * k ≤ 49 := Nat.mul_le_mul (show k ≤ 7 by omega) (show k ≤ 7 by omega)
    have hlen2 : (setsL (pairsL k)).length = (pairsL k).length := setsL_len _
    repeat' (
     conv => whnf
     first
     | refine ifd (fun h => ?_) (fun h => ?_)
     | ((with_reducible refine hcI ?_); refine Val.call (vSorted ((pairsL k).take 10) (ws_take hws 10) (by simp; omega)) (.step 2 .leaf (setsL (pairsL k)) rfl (cl_sets _) (.refl _)) (.cons _ _ _ _ (leTen rfl (by omega) (by first | rfl | (rw [List.take_of_length_le (by omega), List.take_of_length_le (by omega)]))) .nil) rfl ?_; rintro r rfl)
     | ((with_reducible apply ob); ((first | rfl | assumption | omega | (unfold maxLen2; omega) | (dsimp only; omega) | (simp only [LN]; omega) | (simp; done) | (simp; omega)))))
    all_goals (conv => whnf)
    · refine lpX (X := Nat) (fun j => [(4, .ptr 1 []), (6, iD v), (9, .sl 2 0 (pairsL k ++ pairL k j).length), (12, iD k), (13, iD j)]) (fun j => [.var (.agg [bytesD l]), .var (.agg [.int .i64 0, .nils]), .row .leaf (setsL (pairsL k ++ pairL k j))]) (fun j => j ≤ k) (fun j => k - j) ⟨_, nx (ρ := [0, 1, 2]) 0 (by repeat (first | exact trivial | refine seC rfl rfl ?_ | refine seC (by simp [pairL]; rfl) rfl ?_)) (shC rfl rfl (shC rfl rfl (shR rfl (by simp [pairL]) (cl_sets _) trivial))) rfl rfl (Nat.lt_succ_self _) (Nat.zero_le _)⟩ ?_
      intro j hj
      have hl3 : (pairsL k ++ pairL k j).length = (pairsL k).length + j := by simp [pairL]
      have hl4 : (setsL (pairsL k ++ pairL k j)).length = (pairsL k).length + j := by rw [setsL_len, hl3]
      have hl5 : (pairsL k ++ pairL k (j + 1)).length = (pairsL k).length + (j + 1) := by simp [pairL]
      have hw6 : ∀ t, t ≤ 7 → W64 (1 <<< t) := fun t ht => wOne (by omega)
      repeat' (
       conv => whnf
       first
       | refine ifd (fun h => ?_) (fun h => ?_)
       | with_reducible refine ivW (by omega) (by omega) ?_
       | ((with_reducible apply ivOr); (rfl); (rfl); (focus ((repeat' (first | assumption | (exact hW _) | (unfold W64; first | omega | decide) | (exact Ws.get (by assumption) (by assumption)) | (exact wOne (by omega)) | (exact bit1_w (by omega)) | (exact wXorAnd (by assumption)) | (exact wSub (by assumption)) | apply wOr | (apply wAnd; assumption) | (apply wAnd2; assumption) | apply wShr)) <;> fail)); (focus ((repeat' (first | assumption | (exact hW _) | (unfold W64; first | omega | decide) | (exact Ws.get (by assumption) (by assumption)) | (exact wOne (by omega)) | (exact bit1_w (by omega)) | (exact wXorAnd (by assumption)) | (exact wSub (by assumption)) | apply wOr | (apply wAnd; assumption) | (apply wAnd2; assumption) | apply wShr)) <;> fail)))
       | ((with_reducible apply ivShl); (rfl); (rfl); (omega); (focus ((repeat' (first | assumption | (exact hW _) | (unfold W64; first | omega | decide) | (exact Ws.get (by assumption) (by assumption)) | (exact wOne (by omega)) | (exact bit1_w (by omega)) | (exact wXorAnd (by assumption)) | (exact wSub (by assumption)) | apply wOr | (apply wAnd; assumption) | (apply wAnd2; assumption) | apply wShr)) <;> fail)))
       | ((with_reducible apply ivU); (rfl); (focus ((repeat' (first | assumption | (exact hW _) | (unfold W64; first | omega | decide) | (exact Ws.get (by assumption) (by assumption)) | (exact wOne (by omega)) | (exact bit1_w (by omega)) | (exact wXorAnd (by assumption)) | (exact wSub (by assumption)) | apply wOr | (apply wAnd; assumption) | (apply wAnd2; assumption) | apply wShr)) <;> fail)))
       | ((with_reducible apply ob); ((first | rfl | assumption | omega | (unfold maxLen2; omega) | (dsimp only; omega) | (simp only [LN]; omega) | (simp; done) | (simp; omega))))
       | with_reducible refine ob (side_in ?_) ?_)
      all_goals (conv => whnf)
      · exact side_out (by unfold maxLen2; rw [hl3]; show _ + 1 ≤ _; omega)
      · exact nx (ρ := [0, 1, 4]) (j + 1) (seC rfl rfl (seC rfl rfl (seC (show D.sl 4 0 ((pairsL k ++ pairL k j).length + 1) = D.sl 4 0 (pairsL k ++ pairL k (j + 1)).length from by rw [hl3, hl5]; rfl) rfl (seC rfl rfl (seC rfl rfl trivial))))) (shC rfl rfl (shC rfl rfl (shR rfl (by simp [pairL, setsL, sD, List.range_succ, List.take_of_length_le]) (cl_sets _) trivial))) rfl rfl (by omega) (by omega)
      · have hjk : j = k := by omega
        subst hjk
        exact nx0 (j + 1) (by repeat (first | exact trivial | refine se0 rfl ?_)) rfl (by omega) (by omega)
    all_goals (have hkv : k = v := (by omega); subst hkv; refine fC rfl ?_; rw [if_neg (by omega), if_pos (by omega)]; try rfl)
  · refine lpX (X := Nat) (fun k => [(4, .ptr 1 []), (6, iD v), (7, sD (limA v)), (9, .sl 2 0 k), (14, iD k)]) (fun k => [.var (.agg [bytesD l]), .var (.agg [.int .i64 0, .nils]), .row .leaf (setsL (planeL v k))]) (fun k => k ≤ 7) (fun k => 7 - k) ⟨_, nx (ρ := [0, 1, 2]) 0 (by repeat (first | exact trivial | refine seC rfl rfl ?_ | refine seC (congrArg (D.int .i64) hvi) rfl ?_ | refine seC (congrArg (D.int .i64) hni) rfl ?_ | refine seC hAe rfl ?_ | refine seC hFe rfl ?_)) (by repeat (first | exact trivial | refine shC rfl rfl ?_)) rfl rfl (Nat.lt_succ_self _) (Nat.zero_le _)⟩ ?_
    intro k hk
    have hws : Ws (planeL v k) := ws_map fun t _ => wAnd2 hA
    have hlen : (planeL v k).length = k := by simp [planeL]
    have hlen2 : (setsL (planeL v k)).length = (planeL v k).length := setsL_len _
    have htn : Val Tryd.prog 36 [.int .u64 11, .int .i64 7, .int .i64 (k : Int)] (fun r => r = sD (turnN 11 7 k)) := vTurned 11 7 k (by unfold W64; omega) (by omega) (by omega) (by omega)
    have hW2 : W64 (turnN 11 7 k) := turn_w (by omega) (by omega)
    repeat' (
     conv => whnf
     first
     | refine ifd (fun h => ?_) (fun h => ?_)
     | with_reducible refine ivW (by omega) (by omega) ?_
     | ((with_reducible apply ivAnd); (rfl); (rfl); (focus ((repeat' (first | assumption | (exact hW _) | (unfold W64; first | omega | decide) | (exact Ws.get (by assumption) (by assumption)) | (exact wOne (by omega)) | (exact bit1_w (by omega)) | (exact wXorAnd (by assumption)) | (exact wSub (by assumption)) | apply wOr | (apply wAnd; assumption) | (apply wAnd2; assumption) | apply wShr)) <;> fail)); (focus ((repeat' (first | assumption | (exact hW _) | (unfold W64; first | omega | decide) | (exact Ws.get (by assumption) (by assumption)) | (exact wOne (by omega)) | (exact bit1_w (by omega)) | (exact wXorAnd (by assumption)) | (exact wSub (by assumption)) | apply wOr | (apply wAnd; assumption) | (apply wAnd2; assumption) | apply wShr)) <;> fail)))
     | ((with_reducible refine hcI ?_); refine Val.call htn (.refl _) (ler _ _) rfl ?_; rintro r rfl)
     | ((with_reducible refine hcI ?_); refine Val.call (vSorted ((planeL v k).take 10) (ws_take hws 10) (by simp; omega)) (.step 2 .leaf (setsL (planeL v k)) rfl (cl_sets _) (.refl _)) (.cons _ _ _ _ (leTen rfl (by omega) (by first | rfl | (rw [List.take_of_length_le (by omega), List.take_of_length_le (by omega)]))) .nil) rfl ?_; rintro r rfl)
     | ((with_reducible apply ob); ((first | rfl | assumption | omega | (unfold maxLen2; omega) | (dsimp only; omega) | (simp only [LN]; omega) | (simp; done) | (simp; omega)))))
    all_goals (conv => whnf)
    · exact nx (ρ := [0, 1, 4]) (k + 1) (by repeat (first | exact trivial | refine seC rfl rfl ?_ | refine seL (leRow rfl rfl) rfl ?_)) (shC rfl rfl (shC rfl rfl (shR rfl (by simp [planeL, setsL, sD, List.range_succ, List.take_of_length_le]) (cl_sets _) trivial))) rfl rfl (by omega) (by omega)
    all_goals (have hkv : k = 7 := (by omega); subst hkv; refine fC rfl ?_; rw [if_neg (by omega), if_neg (by omega), if_pos (by omega)]; try rfl)
  · refine lpX (X := Nat) (fun k => [(2, .ptr 0 []), (4, .ptr 1 []), (6, iD v), (8, sD (limF l v)), (9, .sl 2 0 k), (10, iD n), (15, iD k)]) (fun k => [.var (.agg [bytesD l]), .var (.agg [.int .i64 0, .nils]), .row .leaf (setsL (shrL l v k))]) (fun k => k ≤ n) (fun k => n - k) ⟨_, nx (ρ := [0, 1, 2]) 0 (by repeat (first | exact trivial | refine seC rfl rfl ?_ | refine seC (congrArg (D.int .i64) hvi) rfl ?_ | refine seC (congrArg (D.int .i64) hni) rfl ?_ | refine seC hAe rfl ?_ | refine seC hFe rfl ?_)) (by repeat (first | exact trivial | refine shC rfl rfl ?_)) rfl rfl (Nat.lt_succ_self _) (Nat.zero_le _)⟩ ?_
    intro k hk
    have hws : Ws (shrL l v k) := ws_map fun t _ => wShr hF
    have hlen : (shrL l v k).length = k := by simp [shrL]
    have hlen2 : (setsL (shrL l v k)).length = (shrL l v k).length := setsL_len _
    have hk4 : iD (4 + k) = .int .i64 ((4 : Int) + (k : Int)) := by show D.int _ _ = _; rw [Int.natCast_add]; rfl
    have hat := vAt l (4 + k) hR
    rw [hk4] at hat
    have hm2 : l.getD (4 + k) 0 % 2 < 2 := Nat.mod_lt _ (by omega)
    repeat' (
     conv => whnf
     first
     | refine ifd (fun h => ?_) (fun h => ?_)
     | with_reducible refine ivW (by omega) (by omega) ?_
     | ((with_reducible apply ivShr); (rfl); (rfl); (omega))
     | ((with_reducible apply ivU); (rfl); (focus ((repeat' (first | assumption | (exact hW _) | (unfold W64; first | omega | decide) | (exact Ws.get (by assumption) (by assumption)) | (exact wOne (by omega)) | (exact bit1_w (by omega)) | (exact wXorAnd (by assumption)) | (exact wSub (by assumption)) | apply wOr | (apply wAnd; assumption) | (apply wAnd2; assumption) | apply wShr)) <;> fail)))
     | ((with_reducible refine hcI ?_); refine Val.call hat (.refl _) (ler _ _) rfl ?_; rintro r rfl)
     | (refine ivMod (a := l.getD (4 + k) 0) (b := 2) ?_)
     | ((with_reducible refine hcI ?_); refine Val.call (vSorted ((shrL l v k).take 10) (ws_take hws 10) (by simp; omega)) (.step 2 .leaf (setsL (shrL l v k)) rfl (cl_sets _) (.refl _)) (.cons _ _ _ _ (leTen rfl (by omega) (by first | rfl | (rw [List.take_of_length_le (by omega), List.take_of_length_le (by omega)]))) .nil) rfl ?_; rintro r rfl)
     | ((with_reducible apply ob); ((first | rfl | assumption | omega | (unfold maxLen2; omega) | (dsimp only; omega) | (simp only [LN]; omega) | (simp; done) | (simp; omega)))))
    all_goals (conv => whnf)
    · exact nx (ρ := [0, 1, 4]) (k + 1) (by repeat (first | exact trivial | refine seC rfl rfl ?_ | refine seL (leRow rfl rfl) rfl ?_)) (shC rfl rfl (shC rfl rfl (shR rfl (by simp [shrL, setsL, sD, List.range_succ, List.take_of_length_le]) (cl_sets _) trivial))) rfl rfl (by omega) (by omega)
    all_goals (have hkv : k = n := (by omega); subst hkv; refine fC rfl ?_; rw [if_neg (by omega), if_neg (by omega), if_neg (by omega), if_pos (by omega)]; try rfl)
  · refine lpX (X := Nat) (fun k => [(2, .ptr 0 []), (4, .ptr 1 []), (6, iD v), (7, sD (limA v)), (9, .sl 2 0 (triL l v k).length), (10, iD n), (16, iD k)]) (fun k => [.var (.agg [bytesD l]), .var (.agg [.int .i64 0, .nils]), .row .leaf (setsL (triL l v k))]) (fun k => k ≤ n) (fun k => n - k) ⟨_, nx (ρ := [0, 1, 2]) 0 (by repeat (first | exact trivial | refine seC rfl rfl ?_ | refine seC (congrArg (D.int .i64) hvi) rfl ?_ | refine seC (congrArg (D.int .i64) hni) rfl ?_ | refine seC hAe rfl ?_ | refine seC hFe rfl ?_)) (by repeat (first | exact trivial | refine shC rfl rfl ?_)) rfl rfl (Nat.lt_succ_self _) (Nat.zero_le _)⟩ ?_
    intro k hk
    have hws : Ws (triL l v k) := triL_w hA k
    have hlen : (triL l v k).length ≤ k := by exact triL_len l v k
    have hlen2 : (setsL (triL l v k)).length = (triL l v k).length := setsL_len _
    have hk4 : iD (4 + k) = .int .i64 ((4 : Int) + (k : Int)) := by show D.int _ _ = _; rw [Int.natCast_add]; rfl
    have hat := vAt l (4 + k) hR
    rw [hk4] at hat
    have hm2 : l.getD (4 + k) 0 % 2 < 2 := Nat.mod_lt _ (by omega)
    repeat' (
     conv => whnf
     first
     | refine ifd (fun h => ?_) (fun h => ?_)
     | with_reducible refine ivW (by omega) (by omega) ?_
     | ((with_reducible apply ivAnd); (rfl); (rfl); (focus ((repeat' (first | assumption | (exact hW _) | (unfold W64; first | omega | decide) | (exact Ws.get (by assumption) (by assumption)) | (exact wOne (by omega)) | (exact bit1_w (by omega)) | (exact wXorAnd (by assumption)) | (exact wSub (by assumption)) | apply wOr | (apply wAnd; assumption) | (apply wAnd2; assumption) | apply wShr)) <;> fail)); (focus ((repeat' (first | assumption | (exact hW _) | (unfold W64; first | omega | decide) | (exact Ws.get (by assumption) (by assumption)) | (exact wOne (by omega)) | (exact bit1_w (by omega)) | (exact wXorAnd (by assumption)) | (exact wSub (by assumption)) | apply wOr | (apply wAnd; assumption) | (apply wAnd2; assumption) | apply wShr)) <;> fail)))
     | ((with_reducible apply ivU); (rfl); (focus ((repeat' (first | assumption | (exact hW _) | (unfold W64; first | omega | decide) | (exact Ws.get (by assumption) (by assumption)) | (exact wOne (by omega)) | (exact bit1_w (by omega)) | (exact wXorAnd (by assumption)) | (exact wSub (by assumption)) | apply wOr | (apply wAnd; assumption) | (apply wAnd2; assumption) | apply wShr)) <;> fail)))
     | ((with_reducible refine hcI ?_); refine Val.call hat (.refl _) (ler _ _) rfl ?_; rintro r rfl)
     | ((with_reducible refine hcI ?_); refine Val.call (vSorted ((triL l v k).take 10) (ws_take hws 10) (by simp; omega)) (.step 2 .leaf (setsL (triL l v k)) rfl (cl_sets _) (.refl _)) (.cons _ _ _ _ (leTen rfl (by omega) (by first | rfl | (rw [List.take_of_length_le (by omega), List.take_of_length_le (by omega)]))) .nil) rfl ?_; rintro r rfl)
     | ((with_reducible refine hcI ?_); refine Val.call (vSize _ (by (repeat' (first | assumption | (exact hW _) | (unfold W64; first | omega | decide) | (exact Ws.get (by assumption) (by assumption)) | (exact wOne (by omega)) | (exact bit1_w (by omega)) | (exact wXorAnd (by assumption)) | (exact wSub (by assumption)) | apply wOr | (apply wAnd; assumption) | (apply wAnd2; assumption) | apply wShr)) <;> fail)) (.refl _) (ler _ _) rfl ?_; rintro r rfl)
     | ((with_reducible apply ob); ((first | rfl | assumption | omega | (unfold maxLen2; omega) | (dsimp only; omega) | (simp only [LN]; omega) | (simp; done) | (simp; omega)))))
    all_goals (conv => whnf)
    · exact nx (ρ := [0, 1, 4]) (k + 1) (by repeat (first | exact trivial | refine seC rfl rfl ?_ | refine seC (show D.sl 4 0 ((triL l v k).length + 1) = D.sl 4 0 (triL l v (k + 1)).length from by rw [triL_pos (by omega)]; simp) rfl ?_)) (shC rfl rfl (shC rfl rfl (shR rfl (by rw [triL_pos (by omega)]; simp [setsL, sD, List.take_of_length_le]) (cl_sets _) trivial))) rfl rfl (by omega) (by omega)
    · have e := triL_neg (l := l) (v := v) (k := k) (by omega)
      exact nx0 (k + 1) (by repeat (first | exact trivial | refine se0 rfl ?_ | refine se0 (by rw [e]; rfl) ?_)) (by rw [e]) (by omega) (by omega)
    all_goals (have hkv : k = n := (by omega); subst hkv; refine fC rfl ?_; rw [if_neg (by omega), if_neg (by omega), if_neg (by omega), if_neg (by omega), if_pos (by omega)]; try rfl)
  · refine lpX (X := Nat) (fun k => [(2, .ptr 0 []), (4, .ptr 1 []), (6, iD v), (7, sD (limA v)), (9, .sl 2 0 k), (10, iD n), (18, iD k)]) (fun k => [.var (.agg [bytesD l]), .var (.agg [.int .i64 0, .nils]), .row .leaf (setsL (anyL l v k))]) (fun k => k ≤ n) (fun k => n - k) ⟨_, nx (ρ := [0, 1, 2]) 0 (by repeat (first | exact trivial | refine seC rfl rfl ?_ | refine seC (congrArg (D.int .i64) hvi) rfl ?_ | refine seC (congrArg (D.int .i64) hni) rfl ?_ | refine seC hAe rfl ?_ | refine seC hFe rfl ?_)) (by repeat (first | exact trivial | refine shC rfl rfl ?_)) rfl rfl (Nat.lt_succ_self _) (Nat.zero_le _)⟩ ?_
    intro k hk
    have hws : Ws (anyL l v k) := ws_map fun t _ => wAnd2 hA
    have hlen : (anyL l v k).length = k := by simp [anyL]
    have hlen2 : (setsL (anyL l v k)).length = (anyL l v k).length := setsL_len _
    have hk4 : iD (4 + k) = .int .i64 ((4 : Int) + (k : Int)) := by show D.int _ _ = _; rw [Int.natCast_add]; rfl
    have hat := vAt l (4 + k) hR
    rw [hk4] at hat
    have hm2 : l.getD (4 + k) 0 % 2 < 2 := Nat.mod_lt _ (by omega)
    repeat' (
     conv => whnf
     first
     | refine ifd (fun h => ?_) (fun h => ?_)
     | with_reducible refine ivW (by omega) (by omega) ?_
     | ((with_reducible apply ivAnd); (rfl); (rfl); (focus ((repeat' (first | assumption | (exact hW _) | (unfold W64; first | omega | decide) | (exact Ws.get (by assumption) (by assumption)) | (exact wOne (by omega)) | (exact bit1_w (by omega)) | (exact wXorAnd (by assumption)) | (exact wSub (by assumption)) | apply wOr | (apply wAnd; assumption) | (apply wAnd2; assumption) | apply wShr)) <;> fail)); (focus ((repeat' (first | assumption | (exact hW _) | (unfold W64; first | omega | decide) | (exact Ws.get (by assumption) (by assumption)) | (exact wOne (by omega)) | (exact bit1_w (by omega)) | (exact wXorAnd (by assumption)) | (exact wSub (by assumption)) | apply wOr | (apply wAnd; assumption) | (apply wAnd2; assumption) | apply wShr)) <;> fail)))
     | ((with_reducible apply ivU); (rfl); (focus ((repeat' (first | assumption | (exact hW _) | (unfold W64; first | omega | decide) | (exact Ws.get (by assumption) (by assumption)) | (exact wOne (by omega)) | (exact bit1_w (by omega)) | (exact wXorAnd (by assumption)) | (exact wSub (by assumption)) | apply wOr | (apply wAnd; assumption) | (apply wAnd2; assumption) | apply wShr)) <;> fail)))
     | ((with_reducible refine hcI ?_); refine Val.call hat (.refl _) (ler _ _) rfl ?_; rintro r rfl)
     | ((with_reducible refine hcI ?_); refine Val.call (vSorted ((anyL l v k).take 10) (ws_take hws 10) (by simp; omega)) (.step 2 .leaf (setsL (anyL l v k)) rfl (cl_sets _) (.refl _)) (.cons _ _ _ _ (leTen rfl (by omega) (by first | rfl | (rw [List.take_of_length_le (by omega), List.take_of_length_le (by omega)]))) .nil) rfl ?_; rintro r rfl)
     | ((with_reducible apply ob); ((first | rfl | assumption | omega | (unfold maxLen2; omega) | (dsimp only; omega) | (simp only [LN]; omega) | (simp; done) | (simp; omega)))))
    all_goals (conv => whnf)
    · exact nx (ρ := [0, 1, 4]) (k + 1) (by repeat (first | exact trivial | refine seC rfl rfl ?_ | refine seL (leRow rfl rfl) rfl ?_)) (shC rfl rfl (shC rfl rfl (shR rfl (by simp [anyL, setsL, sD, List.range_succ, List.take_of_length_le]) (cl_sets _) trivial))) rfl rfl (by omega) (by omega)
    all_goals (have hkv : k = n := (by omega); subst hkv; refine fC rfl ?_; rw [if_neg (by omega), if_neg (by omega), if_neg (by omega), if_neg (by omega), if_neg (by omega)]; try rfl)
end Go.Proofs.YthfcfdlbnfcboaaDoor.Pw



set_option linter.unusedVariables false
set_option linter.unusedSimpArgs false
set_option maxHeartbeats 1000000
set_option maxRecDepth 10000
namespace Go.Proofs.YthfcfdlbnfcboaaDoor.Pw
open Go
theorem limA_lt (v : Nat) : limA v < 2 ^ v := by
  unfold limA; rw [Nat.one_shiftLeft]
  have := Nat.one_le_two_pow (n := v); omega
theorem one_lt {p v : Nat} (h : p < v) : 1 <<< p < 2 ^ v := by rw [Nat.one_shiftLeft]; exact Nat.pow_lt_pow_right (by decide) h
theorem turnK_lt {b v t : Nat} (h0 : 0 < v) : ∀ k, turnK b v t k < 2 ^ v
  | 0 => Nat.pow_pos (by decide)
  | k + 1 => by
    unfold turnK
    split
    · exact Nat.or_lt_two_pow (turnK_lt h0 k) (one_lt (Nat.mod_lt _ h0))
    · exact turnK_lt h0 k
theorem pairsL_lt {v : Nat} : ∀ p, p ≤ v → ∀ b ∈ pairsL p, b < 2 ^ v
  | 0, _, b, h => by cases h
  | p + 1, hp, b, h => by
    rcases List.mem_append.1 h with h | h
    · exact pairsL_lt p (by omega) b h
    · obtain ⟨q, hq, rfl⟩ := List.mem_map.1 h
      have := List.mem_range.1 hq
      exact Nat.or_lt_two_pow (one_lt (by omega)) (one_lt (by omega))
theorem and_lt {a v : Nat} : a &&& limA v < 2 ^ v := Nat.lt_of_le_of_lt Nat.and_le_right (limA_lt v)
theorem limL_lt (l : List Nat) {v : Nat} (h0 : 0 < v) : ∀ b ∈ limL l v, b < 2 ^ v := by
  intro b hb
  unfold limL at hb
  split at hb
  · obtain ⟨t, _, rfl⟩ := List.mem_map.1 hb; exact turnK_lt h0 v
  · split at hb
    · exact pairsL_lt v (Nat.le_refl _) b hb
    · split at hb
      · obtain ⟨t, _, rfl⟩ := List.mem_map.1 hb; exact and_lt
      · split at hb
        · obtain ⟨t, _, rfl⟩ := List.mem_map.1 hb
          exact Nat.lt_of_le_of_lt (by rw [Nat.shiftRight_eq_div_pow]; exact Nat.div_le_self _ _) (show limF l v < 2 ^ v from and_lt)
        · split at hb
          · obtain ⟨t, _, rfl⟩ := List.mem_map.1 (List.mem_filter.1 hb).1; exact and_lt
          · obtain ⟨t, _, rfl⟩ := List.mem_map.1 hb; exact and_lt
theorem limX_fam (l : List Nat) {most : Nat} (hm : 1 ≤ most) (hm7 : most ≤ 7) : (limX l most).Fam := by
  have h1 : l.getD 1 0 % most < most := Nat.mod_lt _ (by omega)
  have hv7 : limV l most ≤ 7 := by unfold limV; omega
  have hv1 : 1 ≤ limV l most := by unfold limV; omega
  have hlt : ∀ b ∈ (limX l most).B, b < 2 ^ limV l most := fun b hb => limL_lt l hv1 b (List.mem_of_mem_take ((sortL_perm _).mem_iff.1 hb))
  have h2 : 2 ^ limV l most ≤ 2 ^ 7 := Nat.pow_le_pow_right (by decide) hv7
  refine ⟨⟨hv1, by show limV l most ≤ 16; omega, fun b hb => ?_, ?_⟩, hv7, sortL_srt _, hlt⟩
  · have := hlt b hb; unfold W64; omega
  · show (sortL _).length ≤ 12
    rw [(sortL_perm _).length_eq, List.length_take]; omega
theorem Inc.Fam.bits {x : Inc} (h : x.Fam) : ∀ s ∈ x.B, ∀ p ∈ bitsL s, p < x.V := fun s hs p hp => bits_lt (h.lt s hs) ((bitsL_mem _ _).1 hp).2
theorem vMadeR (l : List Nat) (hR : ∀ x ∈ l, x < 256) : Val Tryd.prog 21 [.agg [bytesD l]] (fun r => r = (limX l 7).D) := by
  have h := vLimited l 7 hR (by omega) (by omega)
  refine Val.ofV ?_
  refine hc_ofS (okc Tryd.f21.ntmps 0) (fn := Tryd.f21) (cd := _) rfl rfl rfl rfl rfl rfl (fun hbd => ?_)
  repeat' (
   conv => whnf
   first
   | ((with_reducible refine hcI ?_); refine Val.call h (.refl _) (ler _ _) rfl ?_; rintro r rfl))
  all_goals (conv => whnf)
  exact fC rfl rfl
theorem vProved (x : Inc) (hx : x.Fam) : Val Tryd.prog 9 [x.D] (fun r => r = .agg [prfI ((List.range x.V).map fun i => toI (lvK x i (x.V - i))), .int .i64 0]) := by
  have h := vLawProved x hx.ok hx.v7
  rw [prf_D] at h
  exact h
theorem vChecked (x : Inc) (hx : x.Fam) (L : List Lvl) (hL : ∀ l ∈ L, l.1.length ≤ 1000000 ∧ l.2.length ≤ 1000000) : Val Tryd.prog 14 [x.D, prfI L] (fun r => r = .agg [iD (chkN x L), .int .i64 (if chkN x L = 0 then 200 else 0)]) := by
  have h := vGCheck x hx.ok hx.v7 hx.bits L hL
  refine Val.ofV ?_
  refine hc_ofS (okc Tryd.f14.ntmps 0) (fn := Tryd.f14) (cd := _) rfl rfl rfl rfl rfl rfl (fun hbd => ?_)
  repeat' (
   conv => whnf
   first
   | ((with_reducible refine hcI ?_); refine Val.call h (.refl _) (ler _ _) rfl ?_; rintro r rfl))
  all_goals (conv => whnf)
  exact fC rfl rfl
end Go.Proofs.YthfcfdlbnfcboaaDoor.Pw



set_option linter.unusedVariables false
set_option linter.unusedSimpArgs false
set_option maxHeartbeats 1000000
set_option maxRecDepth 10000
namespace Go.Proofs.YthfcfdlbnfcboaaDoor.Pw
open Go
theorem leDs_app {H : List Ob} : ∀ {a a' b b' : List D}, LeDs H a a' → LeDs H b b' → LeDs H (a ++ b) (a' ++ b')
  | _, _, _, _, .nil, h2 => h2
  | _, _, _, _, .cons _ _ _ _ h1 h, h2 => .cons _ _ _ _ h1 (leDs_app h h2)
theorem shapes_app : ∀ (a b : List D), shapes (a ++ b) = shapes a ++ shapes b
  | [], _ => rfl
  | d :: a, b => by simp only [List.cons_append, shapes, shapes_app a b]
theorem okDs_app : ∀ {a b : List D}, okDs a = true → okDs b = true → okDs (a ++ b) = true
  | [], _, _, h => h
  | d :: a, b, h1, h2 => okDs_mk (okDs_cons h1).1 (okDs_app (okDs_cons h1).2 h2)
theorem okDs_map {α : Type} {f : α → D} (h : ∀ a, okD (f a) = true) : ∀ l : List α, okDs (l.map f) = true
  | [] => rfl
  | a :: l => okDs_mk (h a) (okDs_map h l)
end Go.Proofs.YthfcfdlbnfcboaaDoor.Pw



set_option linter.unusedVariables false
set_option linter.unusedSimpArgs false
set_option maxHeartbeats 4000000
set_option maxRecDepth 10000
namespace Go.Proofs.YthfcfdlbnfcboaaDoor.Pw
open Go
theorem frzRow {H H' : List Ob} (g : Nat) {sh : Sh} {es0 : List D} (es ds : List D) (h : H.getD g .dead = .row sh es0) (he : es0 = es) (hle : LeDs H ds es) (hs : shapes ds = shapes es) (ho : okDs ds = true) (hn : Frz (H.set g (.row sh ds)) H') : Frz H H' := by
  subst he; exact .row g sh ds es0 h hle hs ho hn
theorem exLv {l : List Lvl} {n : Nat} {k : D → Prop} {cy : List (Int × List Int)} {cn : List (Int × Tree)} (h : l[n]? = some (cy, cn)) (hk : k (.agg [.list false (.agg [.leaf, .leaf]) (rchL cy), .list false (.agg [.leaf, .agg [.leaf]]) (unsL cn)])) : ∃ d, (lvlsL l)[n]? = some d ∧ k d :=
  ⟨_, by unfold lvlsL; rw [List.getElem?_map, h]; rfl, hk⟩
theorem toN {α : Type} {l : List α} {k : Nat} {a : α} (h : l[k]? = some a) : l[((k : Nat) : Int).toNat]? = some a := h
end Go.Proofs.YthfcfdlbnfcboaaDoor.Pw



set_option linter.unusedVariables false
set_option linter.unusedSimpArgs false
set_option maxHeartbeats 4000000
set_option maxRecDepth 10000
namespace Go.Proofs.YthfcfdlbnfcboaaDoor.Pw
open Go
end Go.Proofs.YthfcfdlbnfcboaaDoor.Pw



set_option linter.unusedVariables false
set_option linter.unusedSimpArgs false
set_option maxHeartbeats 4000000
set_option maxRecDepth 10000
namespace Go.Proofs.YthfcfdlbnfcboaaDoor.Pw
open Go
def orbI (l : List (Nat × List Int)) : List Int := l.map fun y => (y.1 : Int)
def repI (l : List (Nat × List Int)) : List (List Int) := l.map fun y => y.2
def stgD (l : List (Nat × List Int)) : D := .agg [.list false .leaf (intsL (orbI l)), .list false .leaf (rowsL (repI l))]
def stgL (x : Inc) (k : Nat) : List D := (List.range k).map fun i => stgD (lvK x i (x.V - i)).1
def chainD (x : Inc) : D := .agg [iD x.V, .list false (.agg [.leaf, .leaf]) (stgL x x.V)]
theorem stgL_len (x : Inc) (k : Nat) : (stgL x k).length = k := by simp [stgL]
theorem stgL_cl (x : Inc) (k : Nat) : clDs (stgL x k) = true := cl_map (fun i => rfl) _
theorem stgL_snoc (x : Inc) (k : Nat) : stgL x (k + 1) = stgL x k ++ [stgD (lvK x k (x.V - k)).1] := by simp [stgL, List.range_succ]
theorem orb_snoc (l : List (Nat × List Int)) (k : Nat) (y : Nat × List Int) (h : l[k]? = some y) : intsL (orbI (l.take (k + 1))) = intsL (orbI (l.take k)) ++ [.int .i64 (y.1 : Int)] := by
  rw [List.take_add_one, h]; simp [orbI, intsL]
theorem rep_snoc (l : List (Nat × List Int)) (k : Nat) (y : Nat × List Int) (h : l[k]? = some y) : rowsL (repI (l.take (k + 1))) = rowsL (repI (l.take k)) ++ [intsD y.2] := by
  rw [List.take_add_one, h]; simp [repI, rowsL]
theorem orb_len (l : List (Nat × List Int)) (k : Nat) (h : k ≤ l.length) : (intsL (orbI (l.take k))).length = k := by simp [orbI]; omega
theorem rep_len (l : List (Nat × List Int)) (k : Nat) (h : k ≤ l.length) : (rowsL (repI (l.take k))).length = k := by simp [repI, rowsL]; omega
theorem exRe {l : List (Nat × List Int)} {n : Nat} {k : D → Prop} (h : n < l.length) (hk : ∀ a m, l[n]? = some (a, m) → k (.agg [.int .i64 (a : Int), intsD m])) : ∃ d, (l.map reachD)[n]? = some d ∧ k d :=
  exM (f := reachD) h fun a ha => hk a.1 a.2 ha
theorem frSt {H H' : List Ob} (g : Nat) {sh : Sh} {ds0 : List D} (ds : List D) (h : H.getD g .dead = .row sh ds0) (he : ds0 = ds) (hc : clDs ds = true) (hn : Frz (H.set g (.frz sh ds)) H') : Frz H H' := by
  subst he; exact .step g sh ds0 h hc hn
theorem vGChain (x : Inc) (hx : x.Ok) (hx7 : x.V ≤ 7) : Val Tryd.prog 29 [x.D] (fun r => r = .tuple [chainD x, .int .i64 0]) := by
  have hv := hx.v
  have hv1 := hx.v1
  refine Val.ofV ?_
  refine hc_ofS (okc Tryd.f29.ntmps 0) (fn := Tryd.f29) (cd := _) rfl rfl rfl rfl rfl rfl (fun hbd => ?_)
  repeat' (
   conv => whnf
   first
   | refine ifd (fun h => ?_) (fun h => ?_)
   | ((with_reducible refine hcI ?_); refine Val.call (vLevels _) (.refl _) (ler _ _) rfl ?_; rintro r rfl))
  all_goals (conv => whnf)
  all_goals (first | (exfalso; omega) | skip)
  refine itLevSF4 x hx hx7 3 (by omega) _ (.var x.D) (.var (.agg [.int .i64 0, .nils])) (.var (.agg [iD x.V, .nils])) rfl
    (fun lp k H => (k = 0 ∧ H = [.var x.D, .var (.agg [.int .i64 0, .nils]), .var (.agg [iD x.V, .nils]), lp]) ∨ (0 < k ∧ H = [.var x.D, .var (.agg [.int .i64 0, .nils]), .var (.agg [iD x.V, .sl 4 0 k]), lp, .row (.agg [.leaf, .leaf]) (stgL x k)])) _ ?_ ?_ ?_ (.inl ⟨rfl, rfl⟩)
  · rintro k H (⟨rfl, rfl⟩ | ⟨hk0, rfl⟩)
    · exact ⟨.inl ⟨_, _, _, _, rfl⟩, inAll rfl⟩
    · refine ⟨.inr ⟨_, _, _, _, _, rfl⟩, ?_⟩
      intro o ho
      simp only [List.mem_cons, List.not_mem_nil, or_false] at ho
      rcases ho with rfl | rfl | rfl | rfl | rfl <;> first | rfl | exact in_cls _ _ (stgL_cl x k)
  · intro k H hJ hk
    have hlen := lvK_len x k (x.V - k)
    obtain ⟨⟨ys, ns⟩, hlv⟩ : ∃ l, lvK x k (x.V - k) = l := ⟨_, rfl⟩
    rw [hlv] at hlen ⊢
    dsimp only at hlen
    have hol : (intsL (orbI ys)).length = ys.length := by simp [orbI]
    have hrl : (rowsL (repI ys)).length = ys.length := by simp [repI, rowsL]
    have hyl : (ys.map reachD).length = ys.length := by simp
    have hsl := stgL_len x k
    rcases hJ with ⟨rfl, rfl⟩ | ⟨hk0, rfl⟩
    · refine yc_intro (okc Tryd.f29.ntmps 4) rfl rfl rfl rfl rfl ?_
      all_goals (conv => whnf)
      refine lpX (X := Nat × List Ob) (fun y => [(4, .ptr 2 []), (7, .ptr 4 []), (22, .list false (.agg [.leaf, .leaf]) (ys.map reachD)), (23, iD (ys.map reachD).length), (24, iD y.1)]) (fun y => y.2)
        (fun y => (y.1 = 0 ∧ 0 < ys.length ∧ y.2 = [.var x.D, .var (.agg [.int .i64 0, .nils]), .var (.agg [iD x.V, .nils]), .dead, .var (.agg [.nils, .nils])]) ∨ (0 < y.1 ∧ y.1 < ys.length ∧ y.2 = [.var x.D, .var (.agg [.int .i64 0, .nils]), .var (.agg [iD x.V, .nils]), .dead, .var (.agg [.sl 5 0 y.1, .sl 6 0 y.1]), .row .leaf (intsL (orbI (ys.take y.1))), .row .leaf (rowsL (repI (ys.take y.1)))]) ∨ (y.1 = ys.length ∧ y.2 = [.var x.D, .var (.agg [.int .i64 0, .nils]), .var (.agg [iD x.V, .nils]), .dead, .var (stgD ys)])) (fun y => ys.length - y.1) ⟨ys.length + 1, ?_⟩ ?_
      · rcases Nat.eq_zero_or_pos ys.length with hz | hz
        · have hnil : ys = [] := List.eq_nil_of_length_eq_zero hz
          subst hnil
          exact nxF (X := Nat × List Ob) (0, [.var x.D, .var (.agg [.int .i64 0, .nils]), .var (.agg [iD x.V, .nils]), .dead, .var (stgD [])]) [0, 1, 2, 3, 5] (.var 5 (stgD []) _ rfl (.agg _ _ (.cons _ _ _ _ (.nils _) (.cons _ _ _ _ (.nils _) .nil)) rfl) rfl rfl (.refl _)) (by repeat (first | exact trivial | refine seC rfl rfl ?_ | refine seL (leRow rfl rfl) rfl ?_)) ((shC rfl rfl (shC rfl rfl (shC rfl rfl (shC rfl rfl (shC rfl rfl trivial)))))) rfl rfl (by dsimp only; omega) (.inr (.inr ⟨rfl, rfl⟩))
        · exact nx (X := Nat × List Ob) (0, [.var x.D, .var (.agg [.int .i64 0, .nils]), .var (.agg [iD x.V, .nils]), .dead, .var (.agg [.nils, .nils])]) [0, 1, 2, 3, 5] (by repeat (first | exact trivial | refine seC rfl rfl ?_ | refine seL (leRow rfl rfl) rfl ?_)) ((shC rfl rfl (shC rfl rfl (shC rfl rfl (shC rfl rfl (shC rfl rfl trivial)))))) rfl rfl (by dsimp only; omega) (.inl ⟨rfl, hz, rfl⟩)
      rintro ⟨j, H⟩ hP
      have hcase : (j = 0 ∧ 0 < ys.length ∧ H = [.var x.D, .var (.agg [.int .i64 0, .nils]), .var (.agg [iD x.V, .nils]), .dead, .var (.agg [.nils, .nils])]) ∨ (0 < j ∧ j < ys.length ∧ H = [.var x.D, .var (.agg [.int .i64 0, .nils]), .var (.agg [iD x.V, .nils]), .dead, .var (.agg [.sl 5 0 j, .sl 6 0 j]), .row .leaf (intsL (orbI (ys.take j))), .row .leaf (rowsL (repI (ys.take j)))]) ∨ (j = ys.length ∧ H = [.var x.D, .var (.agg [.int .i64 0, .nils]), .var (.agg [iD x.V, .nils]), .dead, .var (stgD ys)]) := hP
      clear hP
      dsimp only
      rcases hcase with ⟨hj, hj2, rfl⟩ | ⟨hj, hj2, rfl⟩ | ⟨hj, rfl⟩
      · subst hj
        repeat' (
         conv => whnf
         first
         | refine ifd (fun h => ?_) (fun h => ?_)
         | with_reducible refine ivW (by omega) (by omega) ?_
         | ((with_reducible refine exRe (by omega) ?_); intro a m hy; simp only [Int.toNat_natCast, Int.toNat_zero] at hy)
         | ((with_reducible apply ob); ((first | rfl | assumption | omega | (unfold maxLen2; omega) | (dsimp only; omega) | (simp only [LN]; omega) | (simp; done) | (simp; omega)))))
        all_goals (conv => whnf)
        all_goals (first | (exfalso; omega) | skip)
        have hos := orb_snoc ys 0 _ hy
        have hrs := rep_snoc ys 0 _ hy
        by_cases hlast : 0 + 1 = ys.length
        · have hall : ys.take (0 + 1) = ys := List.take_of_length_le (by omega)
          rw [hall] at hos hrs
          exact nxF (X := Nat × List Ob) (0 + 1, [.var x.D, .var (.agg [.int .i64 0, .nils]), .var (.agg [iD x.V, .nils]), .dead, .var (stgD ys)]) [0, 1, 2, 3, 4] (frSt 7 (intsL (orbI ys)) rfl (by rw [hos]; rfl) (cl_ints _) (frSt 9 (rowsL (repI ys)) rfl (by rw [hrs]; rfl) (cl_rows _) (.var 4 (stgD ys) _ rfl (.agg _ _ (.cons _ _ _ _ (leRow (ds := intsL (orbI ys)) rfl (by rw [hol]; exact hlast.symm)) (.cons _ _ _ _ (leRow (ds := rowsL (repI ys)) rfl (by rw [hrl]; exact hlast.symm)) .nil)) rfl) rfl rfl (.refl _)))) (by repeat (first | exact trivial | refine seC rfl rfl ?_ | refine seL (leRow rfl rfl) rfl ?_)) ((shC rfl rfl (shC rfl rfl (shC rfl rfl (shC rfl rfl (shC rfl rfl trivial)))))) rfl rfl (by dsimp only; omega) (.inr (.inr ⟨hlast, rfl⟩))
        · exact nx (X := Nat × List Ob) (0 + 1, [.var x.D, .var (.agg [.int .i64 0, .nils]), .var (.agg [iD x.V, .nils]), .dead, .var (.agg [.sl 5 0 (0 + 1), .sl 6 0 (0 + 1)]), .row .leaf (intsL (orbI (ys.take (0 + 1)))), .row .leaf (rowsL (repI (ys.take (0 + 1))))]) [0, 1, 2, 3, 4, 7, 9] (by repeat (first | exact trivial | refine seC rfl rfl ?_ | refine seL (leRow rfl rfl) rfl ?_)) ((shC rfl rfl (shC rfl rfl (shC rfl rfl (shC rfl rfl (shC rfl rfl (shR rfl (by rw [hos]; rfl) (cl_ints _) (shR rfl (by rw [hrs]; rfl) (cl_rows _) trivial)))))))) rfl rfl (by dsimp only; omega) (.inr (.inl ⟨by dsimp only; omega, by dsimp only; omega, rfl⟩))
      · have hol2 := orb_len ys j (by omega)
        have hrl2 := rep_len ys j (by omega)
        repeat' (
         conv => whnf
         first
         | refine ifd (fun h => ?_) (fun h => ?_)
         | with_reducible refine ivW (by omega) (by omega) ?_
         | ((with_reducible refine exRe (by omega) ?_); intro a m hy; simp only [Int.toNat_natCast, Int.toNat_zero] at hy)
         | ((with_reducible apply ob); ((first | rfl | assumption | omega | (unfold maxLen2; omega) | (dsimp only; omega) | (simp only [LN]; omega) | (simp; done) | (simp; omega)))))
        all_goals (conv => whnf)
        all_goals (first | (exfalso; omega) | skip)
        have hos := orb_snoc ys j _ hy
        have hrs := rep_snoc ys j _ hy
        by_cases hlast : j + 1 = ys.length
        · have hall : ys.take (j + 1) = ys := List.take_of_length_le (by omega)
          rw [hall] at hos hrs
          exact nxF (X := Nat × List Ob) (j + 1, [.var x.D, .var (.agg [.int .i64 0, .nils]), .var (.agg [iD x.V, .nils]), .dead, .var (stgD ys)]) [0, 1, 2, 3, 4] (frSt 9 (intsL (orbI ys)) rfl (by rw [hos]; show List.take j (List.drop 0 _) ++ [_] = _; rw [List.drop_zero, List.take_of_length_le (by omega)]) (cl_ints _) (frSt 11 (rowsL (repI ys)) rfl (by rw [hrs]; show List.take j (List.drop 0 _) ++ [_] = _; rw [List.drop_zero, List.take_of_length_le (by omega)]; rfl) (cl_rows _) (.var 4 (stgD ys) _ rfl (.agg _ _ (.cons _ _ _ _ (leRow (ds := intsL (orbI ys)) rfl (by rw [hol]; exact hlast.symm)) (.cons _ _ _ _ (leRow (ds := rowsL (repI ys)) rfl (by rw [hrl]; exact hlast.symm)) .nil)) rfl) rfl rfl (.refl _)))) (by repeat (first | exact trivial | refine seC rfl rfl ?_ | refine seL (leRow rfl rfl) rfl ?_)) ((shC rfl rfl (shC rfl rfl (shC rfl rfl (shC rfl rfl (shC rfl rfl trivial)))))) rfl rfl (by dsimp only; omega) (.inr (.inr ⟨hlast, rfl⟩))
        · exact nx (X := Nat × List Ob) (j + 1, [.var x.D, .var (.agg [.int .i64 0, .nils]), .var (.agg [iD x.V, .nils]), .dead, .var (.agg [.sl 5 0 (j + 1), .sl 6 0 (j + 1)]), .row .leaf (intsL (orbI (ys.take (j + 1)))), .row .leaf (rowsL (repI (ys.take (j + 1))))]) [0, 1, 2, 3, 4, 9, 11] (by repeat (first | exact trivial | refine seC rfl rfl ?_ | refine seL (leRow rfl rfl) rfl ?_)) ((shC rfl rfl (shC rfl rfl (shC rfl rfl (shC rfl rfl (shC rfl rfl (shR rfl (by rw [hos]; show List.take j (List.drop 0 _) ++ [_] = _; rw [List.drop_zero, List.take_of_length_le (by omega)]) (cl_ints _) (shR rfl (by rw [hrs]; show List.take j (List.drop 0 _) ++ [_] = _; rw [List.drop_zero, List.take_of_length_le (by omega)]; rfl) (cl_rows _) trivial)))))))) rfl rfl (by dsimp only; omega) (.inr (.inl ⟨by dsimp only; omega, by dsimp only; omega, rfl⟩))
      · repeat' (
         conv => whnf
         first
         | refine ifd (fun h => ?_) (fun h => ?_)
         | ((with_reducible apply ob); ((first | rfl | assumption | omega | (unfold maxLen2; omega) | (dsimp only; omega) | (simp only [LN]; omega) | (simp; done) | (simp; omega)))))
        all_goals (conv => whnf)
        all_goals (first | (exfalso; omega) | skip)
        refine fin_in ⟨rfl, [0, 1, 2, 3, 6], _, ?_, rfl, .inl ⟨rfl, .inr ⟨by omega, rfl⟩⟩⟩
        exact ⟨(shC rfl rfl (shC rfl rfl (shC rfl rfl (shC rfl rfl (shR rfl (by rw [stgL_snoc, hlv]; rfl) (stgL_cl _ _) trivial))))), rfl, by simp⟩
    · refine yc_intro (okc Tryd.f29.ntmps 5) rfl rfl rfl rfl rfl ?_
      all_goals (conv => whnf)
      refine lpX (X := Nat × List Ob) (fun y => [(4, .ptr 2 []), (7, .ptr 5 []), (22, .list false (.agg [.leaf, .leaf]) (ys.map reachD)), (23, iD (ys.map reachD).length), (24, iD y.1)]) (fun y => y.2)
        (fun y => (y.1 = 0 ∧ 0 < ys.length ∧ y.2 = [.var x.D, .var (.agg [.int .i64 0, .nils]), .var (.agg [iD x.V, .sl 4 0 k]), .dead, .row (.agg [.leaf, .leaf]) (stgL x k), .var (.agg [.nils, .nils])]) ∨ (0 < y.1 ∧ y.1 < ys.length ∧ y.2 = [.var x.D, .var (.agg [.int .i64 0, .nils]), .var (.agg [iD x.V, .sl 4 0 k]), .dead, .row (.agg [.leaf, .leaf]) (stgL x k), .var (.agg [.sl 6 0 y.1, .sl 7 0 y.1]), .row .leaf (intsL (orbI (ys.take y.1))), .row .leaf (rowsL (repI (ys.take y.1)))]) ∨ (y.1 = ys.length ∧ y.2 = [.var x.D, .var (.agg [.int .i64 0, .nils]), .var (.agg [iD x.V, .sl 4 0 k]), .dead, .row (.agg [.leaf, .leaf]) (stgL x k), .var (stgD ys)])) (fun y => ys.length - y.1) ⟨ys.length + 1, ?_⟩ ?_
      · rcases Nat.eq_zero_or_pos ys.length with hz | hz
        · have hnil : ys = [] := List.eq_nil_of_length_eq_zero hz
          subst hnil
          exact nxF (X := Nat × List Ob) (0, [.var x.D, .var (.agg [.int .i64 0, .nils]), .var (.agg [iD x.V, .sl 4 0 k]), .dead, .row (.agg [.leaf, .leaf]) (stgL x k), .var (stgD [])]) [0, 1, 2, 3, 4, 6] (.var 6 (stgD []) _ rfl (.agg _ _ (.cons _ _ _ _ (.nils _) (.cons _ _ _ _ (.nils _) .nil)) rfl) rfl rfl (.refl _)) (by repeat (first | exact trivial | refine seC rfl rfl ?_ | refine seL (leRow rfl rfl) rfl ?_)) ((shC rfl rfl (shC rfl rfl (shC rfl rfl (shC rfl rfl (shR rfl rfl (stgL_cl x k) (shC rfl rfl trivial))))))) rfl rfl (by dsimp only; omega) (.inr (.inr ⟨rfl, rfl⟩))
        · exact nx (X := Nat × List Ob) (0, [.var x.D, .var (.agg [.int .i64 0, .nils]), .var (.agg [iD x.V, .sl 4 0 k]), .dead, .row (.agg [.leaf, .leaf]) (stgL x k), .var (.agg [.nils, .nils])]) [0, 1, 2, 3, 4, 6] (by repeat (first | exact trivial | refine seC rfl rfl ?_ | refine seL (leRow rfl rfl) rfl ?_)) ((shC rfl rfl (shC rfl rfl (shC rfl rfl (shC rfl rfl (shR rfl rfl (stgL_cl x k) (shC rfl rfl trivial))))))) rfl rfl (by dsimp only; omega) (.inl ⟨rfl, hz, rfl⟩)
      rintro ⟨j, H⟩ hP
      have hcase : (j = 0 ∧ 0 < ys.length ∧ H = [.var x.D, .var (.agg [.int .i64 0, .nils]), .var (.agg [iD x.V, .sl 4 0 k]), .dead, .row (.agg [.leaf, .leaf]) (stgL x k), .var (.agg [.nils, .nils])]) ∨ (0 < j ∧ j < ys.length ∧ H = [.var x.D, .var (.agg [.int .i64 0, .nils]), .var (.agg [iD x.V, .sl 4 0 k]), .dead, .row (.agg [.leaf, .leaf]) (stgL x k), .var (.agg [.sl 6 0 j, .sl 7 0 j]), .row .leaf (intsL (orbI (ys.take j))), .row .leaf (rowsL (repI (ys.take j)))]) ∨ (j = ys.length ∧ H = [.var x.D, .var (.agg [.int .i64 0, .nils]), .var (.agg [iD x.V, .sl 4 0 k]), .dead, .row (.agg [.leaf, .leaf]) (stgL x k), .var (stgD ys)]) := hP
      clear hP
      dsimp only
      rcases hcase with ⟨hj, hj2, rfl⟩ | ⟨hj, hj2, rfl⟩ | ⟨hj, rfl⟩
      · subst hj
        repeat' (
         conv => whnf
         first
         | refine ifd (fun h => ?_) (fun h => ?_)
         | with_reducible refine ivW (by omega) (by omega) ?_
         | ((with_reducible refine exRe (by omega) ?_); intro a m hy; simp only [Int.toNat_natCast, Int.toNat_zero] at hy)
         | ((with_reducible apply ob); ((first | rfl | assumption | omega | (unfold maxLen2; omega) | (dsimp only; omega) | (simp only [LN]; omega) | (simp; done) | (simp; omega)))))
        all_goals (conv => whnf)
        all_goals (first | (exfalso; omega) | skip)
        have hos := orb_snoc ys 0 _ hy
        have hrs := rep_snoc ys 0 _ hy
        by_cases hlast : 0 + 1 = ys.length
        · have hall : ys.take (0 + 1) = ys := List.take_of_length_le (by omega)
          rw [hall] at hos hrs
          exact nxF (X := Nat × List Ob) (0 + 1, [.var x.D, .var (.agg [.int .i64 0, .nils]), .var (.agg [iD x.V, .sl 4 0 k]), .dead, .row (.agg [.leaf, .leaf]) (stgL x k), .var (stgD ys)]) [0, 1, 2, 3, 4, 5] (frSt 8 (intsL (orbI ys)) rfl (by rw [hos]; rfl) (cl_ints _) (frSt 10 (rowsL (repI ys)) rfl (by rw [hrs]; rfl) (cl_rows _) (.var 5 (stgD ys) _ rfl (.agg _ _ (.cons _ _ _ _ (leRow (ds := intsL (orbI ys)) rfl (by rw [hol]; exact hlast.symm)) (.cons _ _ _ _ (leRow (ds := rowsL (repI ys)) rfl (by rw [hrl]; exact hlast.symm)) .nil)) rfl) rfl rfl (.refl _)))) (by repeat (first | exact trivial | refine seC rfl rfl ?_ | refine seL (leRow rfl rfl) rfl ?_)) ((shC rfl rfl (shC rfl rfl (shC rfl rfl (shC rfl rfl (shR rfl rfl (stgL_cl x k) (shC rfl rfl trivial))))))) rfl rfl (by dsimp only; omega) (.inr (.inr ⟨hlast, rfl⟩))
        · exact nx (X := Nat × List Ob) (0 + 1, [.var x.D, .var (.agg [.int .i64 0, .nils]), .var (.agg [iD x.V, .sl 4 0 k]), .dead, .row (.agg [.leaf, .leaf]) (stgL x k), .var (.agg [.sl 6 0 (0 + 1), .sl 7 0 (0 + 1)]), .row .leaf (intsL (orbI (ys.take (0 + 1)))), .row .leaf (rowsL (repI (ys.take (0 + 1))))]) [0, 1, 2, 3, 4, 5, 8, 10] (by repeat (first | exact trivial | refine seC rfl rfl ?_ | refine seL (leRow rfl rfl) rfl ?_)) ((shC rfl rfl (shC rfl rfl (shC rfl rfl (shC rfl rfl (shR rfl rfl (stgL_cl x k) (shC rfl rfl (shR rfl (by rw [hos]; rfl) (cl_ints _) (shR rfl (by rw [hrs]; rfl) (cl_rows _) trivial))))))))) rfl rfl (by dsimp only; omega) (.inr (.inl ⟨by dsimp only; omega, by dsimp only; omega, rfl⟩))
      · have hol2 := orb_len ys j (by omega)
        have hrl2 := rep_len ys j (by omega)
        repeat' (
         conv => whnf
         first
         | refine ifd (fun h => ?_) (fun h => ?_)
         | with_reducible refine ivW (by omega) (by omega) ?_
         | ((with_reducible refine exRe (by omega) ?_); intro a m hy; simp only [Int.toNat_natCast, Int.toNat_zero] at hy)
         | ((with_reducible apply ob); ((first | rfl | assumption | omega | (unfold maxLen2; omega) | (dsimp only; omega) | (simp only [LN]; omega) | (simp; done) | (simp; omega)))))
        all_goals (conv => whnf)
        all_goals (first | (exfalso; omega) | skip)
        have hos := orb_snoc ys j _ hy
        have hrs := rep_snoc ys j _ hy
        by_cases hlast : j + 1 = ys.length
        · have hall : ys.take (j + 1) = ys := List.take_of_length_le (by omega)
          rw [hall] at hos hrs
          exact nxF (X := Nat × List Ob) (j + 1, [.var x.D, .var (.agg [.int .i64 0, .nils]), .var (.agg [iD x.V, .sl 4 0 k]), .dead, .row (.agg [.leaf, .leaf]) (stgL x k), .var (stgD ys)]) [0, 1, 2, 3, 4, 5] (frSt 10 (intsL (orbI ys)) rfl (by rw [hos]; show List.take j (List.drop 0 _) ++ [_] = _; rw [List.drop_zero, List.take_of_length_le (by omega)]) (cl_ints _) (frSt 12 (rowsL (repI ys)) rfl (by rw [hrs]; show List.take j (List.drop 0 _) ++ [_] = _; rw [List.drop_zero, List.take_of_length_le (by omega)]; rfl) (cl_rows _) (.var 5 (stgD ys) _ rfl (.agg _ _ (.cons _ _ _ _ (leRow (ds := intsL (orbI ys)) rfl (by rw [hol]; exact hlast.symm)) (.cons _ _ _ _ (leRow (ds := rowsL (repI ys)) rfl (by rw [hrl]; exact hlast.symm)) .nil)) rfl) rfl rfl (.refl _)))) (by repeat (first | exact trivial | refine seC rfl rfl ?_ | refine seL (leRow rfl rfl) rfl ?_)) ((shC rfl rfl (shC rfl rfl (shC rfl rfl (shC rfl rfl (shR rfl rfl (stgL_cl x k) (shC rfl rfl trivial))))))) rfl rfl (by dsimp only; omega) (.inr (.inr ⟨hlast, rfl⟩))
        · exact nx (X := Nat × List Ob) (j + 1, [.var x.D, .var (.agg [.int .i64 0, .nils]), .var (.agg [iD x.V, .sl 4 0 k]), .dead, .row (.agg [.leaf, .leaf]) (stgL x k), .var (.agg [.sl 6 0 (j + 1), .sl 7 0 (j + 1)]), .row .leaf (intsL (orbI (ys.take (j + 1)))), .row .leaf (rowsL (repI (ys.take (j + 1))))]) [0, 1, 2, 3, 4, 5, 10, 12] (by repeat (first | exact trivial | refine seC rfl rfl ?_ | refine seL (leRow rfl rfl) rfl ?_)) ((shC rfl rfl (shC rfl rfl (shC rfl rfl (shC rfl rfl (shR rfl rfl (stgL_cl x k) (shC rfl rfl (shR rfl (by rw [hos]; show List.take j (List.drop 0 _) ++ [_] = _; rw [List.drop_zero, List.take_of_length_le (by omega)]) (cl_ints _) (shR rfl (by rw [hrs]; show List.take j (List.drop 0 _) ++ [_] = _; rw [List.drop_zero, List.take_of_length_le (by omega)]; rfl) (cl_rows _) trivial))))))))) rfl rfl (by dsimp only; omega) (.inr (.inl ⟨by dsimp only; omega, by dsimp only; omega, rfl⟩))
      · repeat' (
         conv => whnf
         first
         | refine ifd (fun h => ?_) (fun h => ?_)
         | ((with_reducible apply ob); ((first | rfl | assumption | omega | (unfold maxLen2; omega) | (dsimp only; omega) | (simp only [LN]; omega) | (simp; done) | (simp; omega)))))
        all_goals (conv => whnf)
        all_goals (first | (exfalso; omega) | skip)
        refine fin_in ⟨rfl, [0, 1, 2, 3, 7], _, ?_, rfl, .inl ⟨rfl, .inr ⟨by omega, rfl⟩⟩⟩
        exact ⟨(shC rfl rfl (shC rfl rfl (shC rfl rfl (shC rfl rfl (shR rfl (by rw [stgL_snoc, hlv]; show List.take k (List.drop 0 (stgL x k)) ++ [_] = _; rw [List.drop_zero, List.take_of_length_le (by omega)]; rfl) (stgL_cl _ _) trivial))))), rfl, by simp⟩
  · rintro H (⟨h0, rfl⟩ | ⟨hk0, rfl⟩)
    · omega
    · conv => whnf
      all_goals (conv => whnf)
      refine fin_in ⟨_, .tuple [chainD x, .int .i64 0], .step 4 (.agg [.leaf, .leaf]) (stgL x x.V) rfl (stgL_cl _ _) (.refl _), .tuple _ _ (.cons _ _ _ _ (.agg _ _ (.cons _ _ _ _ (.refl _) (.cons _ _ _ _ (leRow rfl (stgL_len _ _)) .nil)) rfl) (.cons _ _ _ _ (.refl _) .nil)), rfl, rfl⟩
end Go.Proofs.YthfcfdlbnfcboaaDoor.Pw



set_option linter.unusedVariables false
set_option linter.unusedSimpArgs false
set_option maxHeartbeats 4000000
set_option maxRecDepth 10000
namespace Go.Proofs.YthfcfdlbnfcboaaDoor.Pw
open Go
abbrev How := List (Option (List Int))
def howL (h : How) : List D := h.map optD
theorem cl_how (h : How) : clDs (howL h) = true := cl_map (fun o => by cases o <;> rfl) h
@[simp] theorem howL_len (h : How) : (howL h).length = h.length := by simp [howL]
def orbS (x : Nat) (g : List Int) (s : How × List Int) : How × List Int :=
  match s.1[(g.getD x 0).toNat]? with
  | some none => (s.1.set (g.getD x 0).toNat (some (mulI ((s.1.getD x none).getD []) g)), s.2 ++ [g.getD x 0])
  | _ => s
def orbT (gens : List (List Int)) (x : Nat) (s : How × List Int) : Nat → How × List Int
  | 0 => s
  | k + 1 => orbS x (gens.getD k []) (orbT gens x s k)
def orbF (gens : List (List Int)) : Nat → How × List Int → How
  | 0, s => s.1
  | f + 1, s => match s.2 with
    | [] => s.1
    | x :: q => orbF gens f (orbT gens x.toNat (s.1, q) gens.length)
def orb0 (n p : Nat) : How := (List.replicate n none).set p (some (oneI n))
def orbM (n p : Nat) (gens : List (List Int)) : How := orbF gens (2 * n) (orb0 n p, [(p : Int)])
def noneN (h : How) : Nat := h.countP Option.isNone
def mesS (s : How × List Int) : Nat := 2 * noneN s.1 + s.2.length
structure OrbOk (n : Nat) (s : How × List Int) : Prop where
  len : s.1.length = n
  pm : ∀ l, some l ∈ s.1 → Pm l n
  q : ∀ y ∈ s.2, 0 ≤ y ∧ y < n ∧ ∃ l, s.1[y.toNat]? = some (some l)
theorem countP_set {α : Type} (p : α → Bool) : ∀ (l : List α) (i : Nat) (a b : α), l[i]? = some a → p a = true → p b = false → (l.set i b).countP p + 1 = l.countP p
  | [], i, a, b, h, _, _ => by simp at h
  | c :: l, 0, a, b, h, ha, hb => by
    simp at h; subst h
    simp [List.countP_cons, ha, hb]
  | c :: l, i + 1, a, b, h, ha, hb => by
    have := countP_set p l i a b (by simpa using h) ha hb
    simp only [List.set_cons_succ, List.countP_cons]
    omega
theorem mul_pm {n : Nat} {a b : List Int} (ha : Pm a n) (hb : Pm b n) : Pm (mulI a b) n := by
  have hal : a.length = n := ha.1
  have e : mulI a b = (List.range a.length).map (mulF a b) := mulK_map a b a.length
  have hF : ∀ i, i < n → ∃ (h1 : i < a.length) (h2 : (a[i]).toNat < b.length), mulF a b i = b[(a[i]).toNat] := fun i hi => by
    have h1 : i < a.length := by omega
    have hr := ha.2.1 _ (List.getElem_mem h1)
    have h2 : (a[i]).toNat < b.length := by rw [hb.1]; omega
    exact ⟨h1, h2, by unfold mulF; rw [getD_of (List.getElem?_eq_getElem h1), getD_of (List.getElem?_eq_getElem h2)]⟩
  refine ⟨by rw [e]; simp [hal], fun x hx => ?_, ?_⟩
  · rw [e] at hx
    obtain ⟨i, hi, rfl⟩ := List.mem_map.1 hx
    obtain ⟨h1, h2, h3⟩ := hF i (by have := List.mem_range.1 hi; omega)
    rw [h3]
    exact hb.2.1 _ (List.getElem_mem h2)
  · rw [e, hal]
    refine (nd_map fun i hi j hj hij => ?_).2 List.nodup_range
    obtain ⟨h1, h2, h3⟩ := hF i (List.mem_range.1 hi)
    obtain ⟨g1, g2, g3⟩ := hF j (List.mem_range.1 hj)
    rw [h3, g3] at hij
    have h4 := (List.getElem_inj hb.2.2).1 hij
    have r1 := ha.2.1 _ (List.getElem_mem h1)
    have r2 := ha.2.1 _ (List.getElem_mem g1)
    exact (List.getElem_inj ha.2.2).1 (by omega)
theorem one_pm (n : Nat) : Pm (oneI n) n := ⟨one_len n, one_dif n n (Nat.le_refl _)⟩
theorem orbS_ok {n x : Nat} {g : List Int} {s : How × List Int} (hg : Pm g n) (hs : OrbOk n s) (hx : x < n) (hl : ∃ l, s.1[x]? = some (some l)) : OrbOk n (orbS x g s) ∧ mesS (orbS x g s) ≤ mesS s ∧ ∀ (y : Nat) (l : List Int), s.1[y]? = some (some l) → (orbS x g s).1[y]? = some (some l) := by
  obtain ⟨l0, hl0⟩ := hl
  have hxg : x < g.length := by rw [hg.1]; exact hx
  have hgx : g.getD x 0 = g[x] := getD_of (List.getElem?_eq_getElem hxg)
  have hr := hg.2.1 _ (List.getElem_mem hxg)
  rw [← hgx] at hr
  have hql : (g.getD x 0).toNat < s.1.length := by rw [hs.len]; omega
  unfold orbS
  cases ho : s.1[(g.getD x 0).toNat] with
  | some l =>
    rw [List.getElem?_eq_getElem hql, ho]
    exact ⟨hs, Nat.le_refl _, fun _ _ h => h⟩
  | none =>
    have ho2 : s.1[(g.getD x 0).toNat]? = some none := by rw [List.getElem?_eq_getElem hql, ho]
    rw [ho2]
    have hd : (s.1.getD x none).getD [] = l0 := by rw [getD_of hl0]; rfl
    dsimp only
    rw [hd]
    have hp : Pm (mulI l0 g) n := mul_pm (hs.pm l0 (List.mem_of_getElem? hl0)) hg
    have hkeep : ∀ (y : Nat) (l : List Int), s.1[y]? = some (some l) → (s.1.set (g.getD x 0).toNat (some (mulI l0 g)))[y]? = some (some l) := fun y l h => by
      have hne : (g.getD x 0).toNat ≠ y := fun e => by rw [← e, ho2] at h; cases h
      rw [List.getElem?_set_ne hne]; exact h
    refine ⟨⟨by simp [hs.len], fun l hl => ?_, fun y hy => ?_⟩, ?_, hkeep⟩
    · rcases List.mem_or_eq_of_mem_set hl with h | h
      · exact hs.pm l h
      · cases h; exact hp
    · rcases List.mem_append.1 hy with h | h
      · obtain ⟨h1, h2, l, h3⟩ := hs.q y h
        exact ⟨h1, h2, l, hkeep _ _ h3⟩
      · rw [List.mem_singleton.1 h]
        exact ⟨hr.1, hr.2, _, List.getElem?_set_self hql⟩
    · have := countP_set Option.isNone s.1 _ none (some (mulI l0 g)) ho2 rfl rfl
      unfold mesS noneN
      simp only [List.length_append, List.length_cons, List.length_nil]
      omega
theorem orbT_ok {n x : Nat} {gens : List (List Int)} {s : How × List Int} (hg : ∀ g ∈ gens, Pm g n) (hs : OrbOk n s) (hx : x < n) (hl : ∃ l, s.1[x]? = some (some l)) : ∀ k, k ≤ gens.length → OrbOk n (orbT gens x s k) ∧ mesS (orbT gens x s k) ≤ mesS s ∧ (∃ l, (orbT gens x s k).1[x]? = some (some l))
  | 0, _ => ⟨hs, Nat.le_refl _, hl⟩
  | k + 1, hk => by
    obtain ⟨h1, h2, l, h3⟩ := orbT_ok hg hs hx hl k (by omega)
    have hgk : gens[k]? = some gens[k] := List.getElem?_eq_getElem (by omega)
    have hgd : gens.getD k [] = gens[k] := getD_of hgk
    have := orbS_ok (g := gens[k]) (hg _ (List.getElem_mem _)) h1 hx ⟨l, h3⟩
    unfold orbT
    rw [hgd]
    exact ⟨this.1, Nat.le_trans this.2.1 h2, l, this.2.2 x l h3⟩
theorem orbF_end (gens : List (List Int)) (f : Nat) (h : How) : orbF gens f (h, []) = h := by cases f <;> rfl
theorem orb0_ok {n p : Nat} (hp : p < n) : OrbOk n (orb0 n p, [(p : Int)]) ∧ mesS (orb0 n p, [(p : Int)]) ≤ 2 * n := by
  refine ⟨⟨by simp [orb0], fun l hl => ?_, fun y hy => ?_⟩, ?_⟩
  · rcases List.mem_or_eq_of_mem_set hl with h | h
    · have := List.eq_of_mem_replicate h; cases this
    · cases h; exact one_pm n
  · rw [List.mem_singleton.1 hy]
    refine ⟨by omega, by omega, oneI n, ?_⟩
    show ((List.replicate n none).set p (some (oneI n)))[p]? = _
    rw [List.getElem?_set_self (by simp; exact hp)]
  · have h1 : (List.replicate n (none : Option (List Int)))[p]? = some none := by simp [hp]
    have := countP_set Option.isNone (List.replicate n (none : Option (List Int))) p none (some (oneI n)) h1 rfl rfl
    have h2 : (List.replicate n (none : Option (List Int))).countP Option.isNone = n := by simp [List.countP_replicate]
    unfold mesS noneN orb0
    simp only [List.length_cons, List.length_nil]
    omega
theorem exRk {l : List (List Int)} {n : Nat} {a : List Int} {k : D → Prop} (h : l[n]? = some a) (hk : k (intsD a)) : ∃ d, (rowsL l)[n]? = some d ∧ k d := ⟨_, by unfold rowsL; rw [List.getElem?_map, h]; rfl, hk⟩
theorem exIk {l : List Int} {n : Nat} {a : Int} {k : D → Prop} (h : l[n]? = some a) (hk : k (.int .i64 a)) : ∃ d, (intsL l)[n]? = some d ∧ k d := ⟨_, by unfold intsL; rw [List.getElem?_map, h]; rfl, hk⟩
theorem exHk {l : How} {n : Nat} {o : Option (List Int)} {k : D → Prop} (h : l[n]? = some o) (hk : k (optD o)) : ∃ d, (howL l)[n]? = some d ∧ k d := ⟨_, by unfold howL; rw [List.getElem?_map, h]; rfl, hk⟩
theorem vOrbit (n p : Nat) (gens : List (List Int)) (hn : n ≤ 16) (hp : p < n) (hg : ∀ g ∈ gens, Pm g n) (hgl : gens.length ≤ 1000000) : Val Tryd.prog 89 [iD n, iD p, rowsD gens] (fun r => r = .list false .leaf (howL (orbM n p gens))) := by
  have hr0 := rowsL_len gens
  obtain ⟨hok0, hmes0⟩ := orb0_ok hp
  have hone := vPOne n (by omega)
  refine Val.ofV ?_
  refine hc_ofS (okc Tryd.f89.ntmps 0) (fn := Tryd.f89) (cd := _) rfl rfl rfl rfl rfl rfl (fun hbd => ?_)
  repeat' (
   conv => whnf
   first
   | ((with_reducible refine hcI ?_); refine Val.call (vPOne _ (by omega)) (.refl _) (ler _ _) rfl ?_; rintro r rfl)
   | ((with_reducible apply ob); ((first | rfl | assumption | omega | (unfold maxLen2; omega) | (dsimp only; omega) | (simp only [LN]; omega) | (simp; done) | (simp; omega)))))
  all_goals (conv => whnf)
  all_goals (first | (exfalso; omega) | skip)
  refine lpX (X := Nat × How × List Int × Nat) (fun y => [(2, rowsD gens), (7, .sl 0 0 n), (8, .sl 1 y.2.2.2 (y.2.2.1.length - y.2.2.2))]) (fun y => [.row .leaf (howL y.2.1), .row .leaf (intsL y.2.2.1)])
    (fun y => y.1 ≤ 2 * n ∧ y.2.2.2 ≤ y.2.2.1.length ∧ OrbOk n (y.2.1, y.2.2.1.drop y.2.2.2) ∧ mesS (y.2.1, y.2.2.1.drop y.2.2.2) ≤ y.1 ∧ orbM n p gens = orbF gens y.1 (y.2.1, y.2.2.1.drop y.2.2.2)) (fun y => y.1)
    ⟨_, nx (2 * n, orb0 n p, [(p : Int)], 0) [0, 1] (by repeat (first | exact trivial | refine seC rfl rfl ?_ | refine seL (leRow rfl rfl) rfl ?_)) (shR rfl (by show (List.replicate n D.nils).set (0 + ((p : Nat) : Int).toNat) (intsD (oneI n)) = _; simp [howL, orb0, List.map_set, optD]) (cl_how _) (shR rfl rfl (cl_ints _) trivial)) rfl rfl (Nat.lt_succ_self _) ⟨Nat.le_refl _, Nat.zero_le _, hok0, hmes0, rfl⟩⟩ ?_
  rintro ⟨f, how, Q, off⟩ ⟨hf, hoff, hok, hmes, hres⟩
  dsimp only at hf hoff hok hmes hres ⊢
  have hQ0 := intsL_len Q
  have hH0 := howL_len how
  have hHl : how.length = n := hok.len
  have hml : Q.length - off ≤ f := by
    have := hmes; unfold mesS at this; simp only [List.length_drop] at this; omega
  rcases Nat.eq_zero_or_pos (Q.length - off) with hz | hz
  · rw [hz]
    all_goals (conv => whnf)
    all_goals (first | (exfalso; omega) | skip)
    have hend : orbM n p gens = how := by rw [hres, List.drop_eq_nil_of_le (by omega), orbF_end]
    apply fR' (howL (orbM n p gens))
    case hg => rfl
    case hc => exact cl_how _
    case h => rfl
    · rw [hend]
    · rw [hend, howL_len]; exact hHl
  · have hlt : off < Q.length := by omega
    obtain ⟨x, hx⟩ : ∃ x, Q[off]? = some x := ⟨Q[off], List.getElem?_eq_getElem hlt⟩
    have hd1 : Q.drop off = x :: Q.drop (off + 1) := by
      rw [List.drop_eq_getElem_cons hlt]
      rw [List.getElem?_eq_getElem hlt] at hx; rw [Option.some.inj hx]
    obtain ⟨hx0, hxn, l1, hl1⟩ := hok.q x (by rw [hd1]; exact List.mem_cons_self)
    obtain ⟨f', rfl⟩ : ∃ f', f = f' + 1 := ⟨f - 1, by omega⟩
    have hok1 : OrbOk n (how, Q.drop (off + 1)) := ⟨hok.len, hok.pm, fun y hy => hok.q y (by rw [hd1]; exact List.mem_cons_of_mem _ hy)⟩
    have hmes1 : mesS (how, Q.drop (off + 1)) ≤ f' := by
      unfold mesS at hmes ⊢
      rw [hd1] at hmes
      simp only [List.length_cons] at hmes ⊢
      omega
    have hres1 : orbM n p gens = orbF gens f' (orbT gens x.toNat (how, Q.drop (off + 1)) gens.length) := by rw [hres, hd1]; rfl
    have hT := orbT_ok hg hok1 (x := x.toNat) (by omega) ⟨l1, hl1⟩
    repeat' (
     conv => whnf
     first
     | refine ifd (fun h => ?_) (fun h => ?_)
     | ((with_reducible refine exI' (by omega) ?_); intro y hy; (try simp only [Int.toNat_natCast, Nat.zero_add] at hy); (try have hyr := hR _ (List.mem_of_getElem? hy)))
     | ((with_reducible apply ob); ((first | rfl | assumption | omega | (unfold maxLen2; omega) | (dsimp only; omega) | (simp only [LN]; omega) | (simp; done) | (simp; omega)))))
    all_goals (conv => whnf)
    all_goals (first | (exfalso; omega) | skip)
    obtain rfl : x = y := Option.some.inj (hx.symm.trans hy)
    refine lpX (X := Nat × How × List Int × Nat) (fun y => [(2, rowsD gens), (7, .sl 0 0 n), (8, .sl 1 y.2.2.2 (y.2.2.1.length - y.2.2.2)), (9, .int .i64 x), (29, rowsD gens), (30, iD (rowsL gens).length), (31, iD y.1)]) (fun y => [.row .leaf (howL y.2.1), .row .leaf (intsL y.2.2.1)])
      (fun y => y.1 ≤ gens.length ∧ y.2.2.2 ≤ y.2.2.1.length ∧ (y.2.1, y.2.2.1.drop y.2.2.2) = orbT gens x.toNat (how, Q.drop (off + 1)) y.1) (fun y => gens.length - y.1)
      ⟨_, nx0 (0, how, Q, off + 1) (by repeat (first | exact trivial | refine se0 rfl ?_ | refine se0 (show D.sl 1 (off + 1) (Q.length - off - 1) = D.sl 1 (off + 1) (Q.length - (off + 1)) from by rw [Nat.sub_sub]) ?_)) rfl (Nat.lt_succ_self _) ⟨Nat.zero_le _, by dsimp only; omega, rfl⟩⟩ ?_
    rintro ⟨k, how', Q', off'⟩ ⟨hk, hoff', hst⟩
    dsimp only at hk hoff' hst ⊢
    obtain ⟨hok', hmes', l0, hl0⟩ := hT k hk
    rw [← hst] at hok' hmes' hl0
    dsimp only at hl0
    have hQ0' := intsL_len Q'
    have hH0' := howL_len how'
    have hHl' : how'.length = n := hok'.len
    have hml' : Q'.length - off' ≤ f' := by
      have := Nat.le_trans hmes' hmes1
      unfold mesS at this; simp only [List.length_drop] at this; omega
    rcases Nat.lt_or_ge k gens.length with hkl | hkg
    · obtain ⟨g, hgk⟩ : ∃ g, gens[k]? = some g := ⟨gens[k], List.getElem?_eq_getElem hkl⟩
      have hgp := hg g (List.mem_of_getElem? hgk)
      have hgl2 : g.length = n := hgp.1
      have hR := hgp.2.1
      have hgk2 := toN hgk
      have hgy0 := intsL_len g
      repeat' (
       conv => whnf
       first
       | refine ifd (fun h => ?_) (fun h => ?_)
       | ((with_reducible refine exI' (by omega) ?_); intro y hy; (try simp only [Int.toNat_natCast, Nat.zero_add] at hy); (try have hyr := hR _ (List.mem_of_getElem? hy)))
       | ((with_reducible refine exRk hgk2 ?_))
       | ((with_reducible apply ob); ((first | rfl | assumption | omega | (unfold maxLen2; omega) | (dsimp only; omega) | (simp only [LN]; omega) | (simp; done) | (simp; omega)))))
      all_goals (conv => whnf)
      all_goals (first | (exfalso; omega) | skip)
      have hgy := hy
      have hgd : g.getD x.toNat 0 = y := getD_of hgy
      have hsucc : orbT gens x.toNat (how, Q.drop (off + 1)) (k + 1) = orbS x.toNat g (how', Q'.drop off') := by
        show orbS x.toNat (gens.getD k []) (orbT gens x.toNat (how, Q.drop (off + 1)) k) = _
        rw [getD_of hgk, ← hst]
      obtain ⟨o, ho⟩ : ∃ o, how'[y.toNat]? = some o := ⟨_, List.getElem?_eq_getElem (by omega)⟩
      have ho2 : how'[0 + y.toNat]? = some o := by rw [Nat.zero_add]; exact ho
      have hl02 : how'[0 + x.toNat]? = some (some l0) := by rw [Nat.zero_add]; exact hl0
      rcases o with _ | l
      · have hlp := hok'.pm l0 (List.mem_of_getElem? hl0)
        have hmul := vPMul l0 g (fun z hz => by rw [hgl2]; exact hlp.2.1 z hz) (by rw [hlp.1]; omega)
        have hS : orbS x.toNat g (how', Q'.drop off') = (how'.set y.toNat (some (mulI l0 g)), Q'.drop off' ++ [y]) := by
          unfold orbS
          rw [hgd]; dsimp only
          rw [ho]; dsimp only
          rw [getD_of hl0]; rfl
        repeat' (
         conv => whnf
         first
         | ((with_reducible refine exIk hgy ?_))
         | with_reducible refine ivW (by omega) (by omega) ?_
         | ((with_reducible refine exHk ho2 ?_))
         | ((with_reducible refine exHk hl02 ?_))
         | ((with_reducible refine pcI ?_); refine Val.pure hmul (ler _ _) rfl rfl ?_)
         | ((with_reducible apply drT 11); rfl)
         | ((with_reducible apply ob); ((first | rfl | assumption | omega | (unfold maxLen2; omega) | (dsimp only; omega) | (simp only [LN]; omega) | (simp; done) | (simp; omega)))))
        all_goals (conv => whnf)
        all_goals (first | (exfalso; omega) | skip)
        refine nx (X := Nat × How × List Int × Nat) (k + 1, how'.set y.toNat (some (mulI l0 g)), Q'.drop off' ++ [y], 0) [0, 3] ?_ ?_ rfl rfl (by dsimp only; omega) ⟨by dsimp only; omega, Nat.zero_le _, by rw [hsucc, hS]; rfl⟩
        · repeat (first | exact trivial | refine seC rfl rfl ?_ | refine seC (show D.sl 3 0 ((Q'.length - off') + 1) = D.sl 3 0 ((Q'.drop off' ++ [y]).length - 0) from by simp) rfl ?_)
        · refine shR rfl ?_ (cl_how _) (shR rfl ?_ (cl_ints _) trivial)
          · show (howL how').set (0 + y.toNat) (optD (some (mulI l0 g))) = _
            rw [Nat.zero_add]; unfold howL; rw [List.map_set]
          · show List.take (Q'.length - off') (List.drop off' (intsL Q')) ++ [D.int .i64 y] = intsL (Q'.drop off' ++ [y])
            simp [intsL, List.map_drop, List.take_of_length_le]
      · have hne : intsL l ≠ [] := fun e => by
          have h1 := (hok'.pm l (List.mem_of_getElem? ho)).1
          have := congrArg List.length e
          rw [intsL_len, h1, List.length_nil] at this
          omega
        have hS : orbS x.toNat g (how', Q'.drop off') = (how', Q'.drop off') := by
          unfold orbS
          rw [hgd]; dsimp only
          rw [ho]
        repeat' (
         conv => whnf
         first
         | with_reducible refine ivW (by omega) (by omega) ?_
         | ((with_reducible refine exHk ho2 ?_))
         | ((with_reducible apply nilNe); ((first | rfl | assumption | omega | (unfold maxLen2; omega) | (dsimp only; omega) | (simp only [LN]; omega) | (simp; done) | (simp; omega)))))
        all_goals (conv => whnf)
        all_goals (first | (exfalso; omega) | skip)
        exact nx0 (k + 1, how', Q', off') (by repeat (first | exact trivial | refine se0 rfl ?_)) rfl (by dsimp only; omega) ⟨by dsimp only; omega, hoff', by dsimp only; rw [hsucc, hS]⟩
    · have hkn : k = gens.length := by omega
      subst hkn
      repeat' (
       conv => whnf
       first
       | refine ifd (fun h => ?_) (fun h => ?_)
       | ((with_reducible apply ob); ((first | rfl | assumption | omega | (unfold maxLen2; omega) | (dsimp only; omega) | (simp only [LN]; omega) | (simp; done) | (simp; omega)))))
      all_goals (conv => whnf)
      all_goals (first | (exfalso; omega) | skip)
      exact nx0 (f', how', Q', off') (by repeat (first | exact trivial | refine se0 rfl ?_)) rfl (by dsimp only; omega) ⟨by dsimp only; omega, hoff', hok', Nat.le_trans hmes' hmes1, by dsimp only; rw [hst]; exact hres1⟩
end Go.Proofs.YthfcfdlbnfcboaaDoor.Pw



set_option linter.unusedVariables false
set_option linter.unusedSimpArgs false
set_option maxHeartbeats 4000000
set_option maxRecDepth 10000
namespace Go.Proofs.YthfcfdlbnfcboaaDoor.Pw
open Go
def lK (h : How) : Nat → List Int
  | 0 => []
  | i + 1 => if (h.getD i none).isSome = true then lK h i ++ [(i : Int)] else lK h i
def doneK (h : How) (d : List Bool) : Nat → List Bool
  | 0 => d
  | i + 1 => if (h.getD i none).isSome = true then (doneK h d i).set i true else doneK h d i
theorem doneK_len (h : How) (d : List Bool) : ∀ i, (doneK h d i).length = d.length
  | 0 => rfl
  | i + 1 => by unfold doneK; split <;> simp [doneK_len h d i]
theorem lK_len (h : How) : ∀ i, (lK h i).length ≤ i
  | 0 => Nat.le_refl _
  | i + 1 => by
    have := lK_len h i
    unfold lK; split
    · simp; omega
    · omega
def orbsK (n : Nat) (gens : List (List Int)) : Nat → List (List Int) × List Bool
  | 0 => ([], List.replicate n false)
  | p + 1 => if (orbsK n gens p).2.getD p false = true then orbsK n gens p else ((orbsK n gens p).1 ++ [lK (orbM n p gens) n], doneK (orbM n p gens) (orbsK n gens p).2 n)
theorem orbsK_len (n : Nat) (gens : List (List Int)) : ∀ p, (orbsK n gens p).2.length = n ∧ (orbsK n gens p).1.length ≤ p
  | 0 => by simp [orbsK]
  | p + 1 => by
    obtain ⟨h1, h2⟩ := orbsK_len n gens p
    unfold orbsK; split
    · exact ⟨h1, by omega⟩
    · exact ⟨by rw [doneK_len]; exact h1, by simp; omega⟩
theorem orbT_keep {n x : Nat} {gens : List (List Int)} {s : How × List Int} (hg : ∀ g ∈ gens, Pm g n) (hs : OrbOk n s) (hx : x < n) (hl : ∃ l, s.1[x]? = some (some l)) : ∀ k, k ≤ gens.length → ∀ (y : Nat) (l : List Int), s.1[y]? = some (some l) → (orbT gens x s k).1[y]? = some (some l)
  | 0, _, _, _, h => h
  | k + 1, hk, y, l, h => by
    have hT := orbT_ok hg hs hx hl k (by omega)
    have hgk : gens[k]? = some gens[k] := List.getElem?_eq_getElem (by omega)
    have hgd : gens.getD k [] = gens[k] := getD_of hgk
    unfold orbT
    rw [hgd]
    exact (orbS_ok (hg _ (List.getElem_mem _)) hT.1 hx hT.2.2).2.2 y l (orbT_keep hg hs hx hl k (by omega) y l h)
theorem orbF_ok {n : Nat} {gens : List (List Int)} (hg : ∀ g ∈ gens, Pm g n) : ∀ f s, OrbOk n s → mesS s ≤ f → OrbOk n (orbF gens f s, [])∧ ∀ (y : Nat) (l : List Int), s.1[y]? = some (some l) → (orbF gens f s)[y]? = some (some l)
  | 0, s, hs, hm => ⟨⟨hs.len, hs.pm, fun y hy => by cases hy⟩, fun _ _ h => h⟩
  | f + 1, (h, []), hs, hm => ⟨⟨hs.len, hs.pm, fun y hy => by cases hy⟩, fun _ _ h => h⟩
  | f + 1, (h, x :: q), hs, hm => by
    obtain ⟨h0, h1, l, h2⟩ := hs.q x List.mem_cons_self
    have hs1 : OrbOk n (h, q) := ⟨hs.len, hs.pm, fun y hy => hs.q y (List.mem_cons_of_mem _ hy)⟩
    have hT := orbT_ok hg hs1 (x := x.toNat) (by omega) ⟨l, h2⟩ gens.length (Nat.le_refl _)
    have hm1 : mesS (orbT gens x.toNat (h, q) gens.length) ≤ f := Nat.le_trans hT.2.1 (by
      unfold mesS at hm ⊢
      simp only [List.length_cons] at hm ⊢
      omega)
    have ih := orbF_ok hg f _ hT.1 hm1
    refine ⟨ih.1, fun y l hy => ih.2 y l ?_⟩
    exact orbT_keep hg hs1 (by omega) ⟨_, h2⟩ gens.length (Nat.le_refl _) y l hy
theorem orbM_ok {n p : Nat} {gens : List (List Int)} (hg : ∀ g ∈ gens, Pm g n) (hp : p < n) : (orbM n p gens).length = n ∧ (∀ l, some l ∈ orbM n p gens → Pm l n) ∧ (orbM n p gens)[p]? = some (some (oneI n)) := by
  obtain ⟨h1, h2⟩ := orb0_ok hp
  have h3 := orbF_ok hg (2 * n) _ h1 h2
  refine ⟨h3.1.len, h3.1.pm, h3.2 p _ ?_⟩
  show ((List.replicate n none).set p (some (oneI n)))[p]? = _
  rw [List.getElem?_set_self (by simp; exact hp)]
theorem lK_mem (h : How) (q : Int) : ∀ i, q ∈ lK h i ↔ ∃ j : Nat, j < i ∧ (h.getD j none).isSome = true ∧ (j : Int) = q
  | 0 => by simp [lK]
  | i + 1 => by
    have ih := lK_mem h q i
    unfold lK; split
    · rename_i hs
      rw [List.mem_append, ih, List.mem_singleton]
      constructor
      · rintro (⟨j, h1, h2⟩ | rfl)
        · exact ⟨j, by omega, h2⟩
        · exact ⟨i, by omega, hs, rfl⟩
      · rintro ⟨j, h1, h2, h3⟩
        rcases Nat.lt_succ_iff_lt_or_eq.1 h1 with h | rfl
        · exact .inl ⟨j, h, h2, h3⟩
        · exact .inr h3.symm
    · rename_i hs
      rw [ih]
      constructor
      · rintro ⟨j, h1, h2⟩; exact ⟨j, by omega, h2⟩
      · rintro ⟨j, h1, h2, h3⟩
        rcases Nat.lt_succ_iff_lt_or_eq.1 h1 with h | rfl
        · exact ⟨j, h, h2, h3⟩
        · exact absurd h2 hs
def boolsL (l : List Bool) : List D := l.map D.bool
@[simp] theorem boolsL_len (l : List Bool) : (boolsL l).length = l.length := by simp [boolsL]
theorem cl_bools (l : List Bool) : clDs (boolsL l) = true := cl_map (fun _ => rfl) l
theorem exBo {l : List Bool} {n : Nat} {b : Bool} {k : D → Prop} (h : l[n]? = some b) (hk : k (.bool b)) : ∃ d, (boolsL l)[n]? = some d ∧ k d := ⟨_, by unfold boolsL; rw [List.getElem?_map, h]; rfl, hk⟩
def outS : List (List Int) → D
  | [] => .nils
  | o :: os => .sl 1 0 (rowsL (o :: os)).length
def outO : List (List Int) → List Ob
  | [] => []
  | o :: os => [.row .leaf (rowsL (o :: os))]
def ptS (g : Nat) : List Int → D
  | [] => .nils
  | a :: l => .sl g 0 (intsL (a :: l)).length
def ptO : List Int → List Ob
  | [] => []
  | a :: l => [.row .leaf (intsL (a :: l))]
def orbsM (n : Nat) (gens : List (List Int)) : List (List Int) := (orbsK n gens n).1
theorem vPOrbits (n : Nat) (gens : List (List Int)) (hn1 : 1 ≤ n) (hn : n ≤ 16) (hg : ∀ g ∈ gens, Pm g n) (hgl : gens.length ≤ 100) : Val Tryd.prog 75 [iD n, rowsD gens] (fun r => r = .tuple [rowsD (orbsM n gens), .int .i64 0]) := by
  have hr0 := rowsL_len gens
  have hacc := vAccepted 16 n gens
  have hab : accB 16 n gens = true := by
    unfold accB
    rw [decide_eq_true ⟨hn1, hn, hgl⟩, Bool.true_and, Bool.not_eq_true', List.any_eq_false]
    intro g h
    have hp := hg g h
    unfold badP
    rw [decide_eq_false (by rw [hp.1]; simp), decide_eq_true ⟨by rw [hp.1]; omega, by rw [hp.1]; omega, by rw [hp.1]; exact hp.2⟩]
    simp
  rw [hab] at hacc
  refine Val.ofV ?_
  refine hc_ofS (okc Tryd.f75.ntmps 0) (fn := Tryd.f75) (cd := _) rfl rfl rfl rfl rfl rfl (fun hbd => ?_)
  repeat' (
   conv => whnf
   first
   | ((with_reducible refine hcI ?_); refine Val.call hacc (.refl _) (ler _ _) rfl ?_; rintro r rfl)
   | ((with_reducible apply ob); ((first | rfl | assumption | omega | (unfold maxLen2; omega) | (dsimp only; omega) | (simp only [LN]; omega) | (simp; done) | (simp; omega)))))
  all_goals (conv => whnf)
  all_goals (first | (exfalso; omega) | skip)
  refine lpX (X := Nat) (fun y => [(0, iD n), (1, rowsD gens), (6, outS (orbsK n gens y).1), (7, .sl 0 0 n), (18, iD n), (19, iD y)]) (fun y => [.row .leaf (boolsL (orbsK n gens y).2)] ++ outO (orbsK n gens y).1) (fun y => y ≤ n) (fun y => n - y)
    ⟨_, nx (ρ := [0]) 0 (by repeat (first | exact trivial | refine seC rfl rfl ?_ | refine seL (leRow rfl rfl) rfl ?_)) (by show SubH _ _ _ [Ob.row .leaf (boolsL (List.replicate n false))] _; exact shR rfl (by simp [boolsL]; exact .inr rfl) (cl_bools _) trivial) rfl rfl (Nat.lt_succ_self _) (Nat.zero_le _)⟩ ?_
  intro p hp
  obtain ⟨hdl, hol⟩ := orbsK_len n gens p
  obtain ⟨⟨out, done⟩, hst⟩ : ∃ s, orbsK n gens p = s := ⟨_, rfl⟩
  dsimp only
  rw [hst] at hdl hol ⊢
  dsimp only at hdl hol ⊢
  rcases Nat.lt_or_ge p n with hpn | hpn
  · obtain ⟨b, hb⟩ : ∃ b, done[p]? = some b := ⟨_, List.getElem?_eq_getElem (by omega)⟩
    have hb2 : done[0 + ((p : Nat) : Int).toNat]? = some b := by rw [Nat.zero_add]; exact hb
    have hbl := boolsL_len done
    have hbd2 := getD_of (d := false) hb
    obtain ⟨hhl, hhp, hhs⟩ := orbM_ok hg hpn
    have horb := vOrbit n p gens hn hpn hg (by omega)
    obtain ⟨hO, hh⟩ : ∃ h, orbM n p gens = h := ⟨_, rfl⟩
    have hstep : orbsK n gens (p + 1) = if done.getD p false = true then (out, done) else (out ++ [lK hO n], doneK hO done n) := by rw [← hh, orbsK, hst]
    rw [hh] at horb hhl hhp hhs
    have hhl2 := howL_len hO
    cases b with
    | true =>
      rw [if_pos hbd2] at hstep
      rcases out with _ | ⟨o, os⟩
      all_goals
        repeat' (
         conv => whnf
         first
         | refine ifd (fun h => ?_) (fun h => ?_)
         | with_reducible refine ivW (by omega) (by omega) ?_
         | ((with_reducible refine exBo hb2 ?_))
         | ((with_reducible apply ob); ((first | rfl | assumption | omega | (unfold maxLen2; omega) | (dsimp only; omega) | (simp only [LN]; omega) | (simp; done) | (simp; omega)))))
        all_goals (conv => whnf)
        all_goals (first | (exfalso; omega) | skip)
        exact nx0 (p + 1) (by show SubE0 _ _ [(0, iD n), (1, rowsD gens), (6, outS (orbsK n gens (p + 1)).1), (7, .sl 0 0 n), (18, iD n), (19, iD (p + 1))]; rw [hstep]; repeat (first | exact trivial | refine se0 rfl ?_)) (by show [Ob.row .leaf (boolsL (orbsK n gens (p + 1)).2)] ++ outO (orbsK n gens (p + 1)).1 = _; rw [hstep]) (by omega) (by omega)
    | false =>
      rw [if_neg (by rw [hbd2]; simp)] at hstep
      have hne0 : lK hO n ≠ [] := fun e => by
        have := (lK_mem hO (p : Int) n).2 ⟨p, hpn, by rw [getD_of hhs]; rfl, rfl⟩
        rw [e] at this; cases this
      rcases out with _ | ⟨o, os⟩
      · repeat' (
         conv => whnf
         first
         | refine ifd (fun h => ?_) (fun h => ?_)
         | ((with_reducible refine exBo hb2 ?_))
         | ((with_reducible refine hcI ?_); refine Val.call horb (.refl _) (ler _ _) rfl ?_; rintro r rfl)
         | ((with_reducible apply ob); ((first | rfl | assumption | omega | (unfold maxLen2; omega) | (dsimp only; omega) | (simp only [LN]; omega) | (simp; done) | (simp; omega)))))
        all_goals (conv => whnf)
        all_goals (first | (exfalso; omega) | skip)
        refine lpX (X := Nat × List Bool × List Int) (fun y => [(0, iD n), (1, rowsD gens), (6, .nils), (7, .sl 0 0 n), (9, ptS 1 y.2.2), (18, iD n), (19, iD p), (29, .list false .leaf (howL hO)), (30, iD (howL hO).length), (31, iD y.1)]) (fun y => [.row .leaf (boolsL y.2.1)] ++ ptO y.2.2) (fun y => y.1 ≤ n ∧ y.2.1 = doneK hO done y.1 ∧ y.2.2 = lK hO y.1) (fun y => n - y.1)
          ⟨_, nx0 (0, done, []) (by repeat (first | exact trivial | refine se0 rfl ?_)) rfl (Nat.lt_succ_self _) ⟨Nat.zero_le _, rfl, rfl⟩⟩ ?_
        rintro ⟨i, dn, l⟩ ⟨hi, hdn, hl⟩
        dsimp only at hi hdn hl ⊢
        have hdnl : dn.length = n := by rw [hdn, doneK_len]; exact hdl
        have hdnl2 := boolsL_len dn
        have hll : l.length ≤ i := by rw [hl]; exact lK_len hO i
        have hll2 := intsL_len l
        rcases Nat.lt_or_ge i n with hin | hin
        · obtain ⟨w, hw⟩ : ∃ w, hO[i]? = some w := ⟨_, List.getElem?_eq_getElem (by omega)⟩
          have hw2 := toN hw
          have hwd := getD_of (d := none) hw
          rcases w with _ | w
          · have e1 : doneK hO done (i + 1) = dn := by rw [hdn]; show (if _ then _ else _) = _; rw [if_neg (by rw [hwd]; simp)]
            have e2 : lK hO (i + 1) = l := by rw [hl]; show (if _ then _ else _) = _; rw [if_neg (by rw [hwd]; simp)]
            rcases l with _ | ⟨a, t⟩
            all_goals
              repeat' (
               conv => whnf
               first
               | refine ifd (fun h => ?_) (fun h => ?_)
               | with_reducible refine ivW (by omega) (by omega) ?_
               | ((with_reducible refine exHk hw2 ?_))
               | ((with_reducible apply ob); ((first | rfl | assumption | omega | (unfold maxLen2; omega) | (dsimp only; omega) | (simp only [LN]; omega) | (simp; done) | (simp; omega)))))
              all_goals (conv => whnf)
              all_goals (first | (exfalso; omega) | skip)
            · exact nx0 (i + 1, dn, []) (by repeat (first | exact trivial | refine se0 rfl ?_)) rfl (by dsimp only; omega) ⟨by dsimp only; omega, e1.symm, e2.symm⟩
            · exact nx0 (i + 1, dn, a :: t) (by repeat (first | exact trivial | refine se0 rfl ?_)) rfl (by dsimp only; omega) ⟨by dsimp only; omega, e1.symm, e2.symm⟩
          · have e1 : doneK hO done (i + 1) = dn.set i true := by rw [hdn]; show (if _ then _ else _) = _; rw [if_pos (by rw [hwd]; rfl)]
            have e2 : lK hO (i + 1) = l ++ [(i : Int)] := by rw [hl]; show (if _ then _ else _) = _; rw [if_pos (by rw [hwd]; rfl)]
            have hne : intsL w ≠ [] := fun e => by
              have h1 := (hhp w (List.mem_of_getElem? hw)).1
              have := congrArg List.length e
              rw [intsL_len, h1, List.length_nil] at this
              omega
            rcases l with _ | ⟨a, t⟩
            all_goals
              simp only [List.length_cons, List.length_nil] at hll2 hll
              repeat' (
               conv => whnf
               first
               | refine ifd (fun h => ?_) (fun h => ?_)
               | with_reducible refine ivW (by omega) (by omega) ?_
               | ((with_reducible refine exHk hw2 ?_))
               | ((with_reducible apply ob); ((first | rfl | assumption | omega | (unfold maxLen2; omega) | (dsimp only; omega) | (simp only [LN]; omega) | (simp; done) | (simp; omega))))
               | ((with_reducible apply nilNe); ((first | rfl | assumption | omega | (unfold maxLen2; omega) | (dsimp only; omega) | (simp only [LN]; omega) | (simp; done) | (simp; omega)))))
              all_goals (conv => whnf)
              all_goals (first | (exfalso; omega) | skip)
            · exact nx (X := Nat × List Bool × List Int) (i + 1, dn.set i true, [] ++ [(i : Int)]) [0, 2] (by repeat (first | exact trivial | refine seC rfl rfl ?_ | refine seL (leRow rfl rfl) rfl ?_)) (by show SubH _ _ _ [Ob.row .leaf (boolsL (dn.set i true)), Ob.row .leaf (intsL [(i : Int)])] _; exact (shR rfl (by show (boolsL dn).set (0 + ((i : Nat) : Int).toNat) (.bool true) = _; rw [Nat.zero_add]; simp [boolsL, List.map_set]) (cl_bools _) (shR rfl rfl (cl_ints _) trivial))) rfl rfl (by dsimp only; omega) ⟨by dsimp only; omega, e1.symm, e2.symm⟩
            · exact nx (X := Nat × List Bool × List Int) (i + 1, dn.set i true, (a :: t) ++ [(i : Int)]) [0, 3] (by repeat (first | exact trivial | refine seC rfl rfl ?_ | refine seC (show D.sl 3 0 ((intsL (a :: t)).length + 1) = D.sl 3 0 (intsL ((a :: t) ++ [(i : Int)])).length from by simp [intsL]) rfl ?_)) (by show SubH _ _ _ [Ob.row .leaf (boolsL (dn.set i true)), Ob.row .leaf (intsL ((a :: t) ++ [(i : Int)]))] _; exact (shR rfl (by show (boolsL dn).set (0 + ((i : Nat) : Int).toNat) (.bool true) = _; rw [Nat.zero_add]; simp [boolsL, List.map_set]) (cl_bools _) (shR (ds := intsL ((a :: t) ++ [(i : Int)])) rfl (by simp [intsL, List.take_of_length_le]) (cl_ints _) trivial))) rfl rfl (by dsimp only; omega) ⟨by dsimp only; omega, e1.symm, e2.symm⟩
        · have hin2 : i = n := by omega
          subst hin2
          rcases l with _ | ⟨a, t⟩
          · exact absurd hl.symm hne0
          rw [← hl, ← hdn] at hstep
          repeat' (
           conv => whnf
           first
           | refine ifd (fun h => ?_) (fun h => ?_)
           | with_reducible refine ivW (by omega) (by omega) ?_
           | ((with_reducible apply ob); ((first | rfl | assumption | omega | (unfold maxLen2; omega) | (dsimp only; omega) | (simp only [LN]; omega) | (simp; done) | (simp; omega)))))
          all_goals (conv => whnf)
          all_goals (first | (exfalso; omega) | skip)
          refine nxF (p + 1) [0, 3] (.step 1 .leaf (intsL (a :: t)) rfl (cl_ints _) (frzRow 3 [.sl 1 0 (intsL (a :: t)).length] [intsD (a :: t)] rfl rfl (.cons _ _ _ _ (leRow (ds := intsL (a :: t)) rfl rfl) .nil) rfl rfl (.refl _))) ?_ ?_ rfl rfl ?_ ?_
          rotate_right
          · show p + 1 ≤ i; omega
          rotate_right
          · show i - (p + 1) < i - p; omega
          · show SubE _ (List.length ([Ob.row .leaf (boolsL (orbsK i gens (p + 1)).2)] ++ outO (orbsK i gens (p + 1)).1)) _ _ [(0, iD i), (1, rowsD gens), (6, outS (orbsK i gens (p + 1)).1), (7, .sl 0 0 i), (18, iD i), (19, iD (p + 1))]
            rw [hstep]
            repeat (first | exact trivial | refine seC rfl rfl ?_)
          · show SubH _ (List.length ([Ob.row .leaf (boolsL (orbsK i gens (p + 1)).2)] ++ outO (orbsK i gens (p + 1)).1)) _ ([Ob.row .leaf (boolsL (orbsK i gens (p + 1)).2)] ++ outO (orbsK i gens (p + 1)).1) _
            rw [hstep]
            show SubH _ _ _ [Ob.row .leaf (boolsL dn), Ob.row .leaf (rowsL ([] ++ [a :: t]))] _
            exact shR rfl rfl (cl_bools _) (shR (ds := rowsL ([] ++ [a :: t])) rfl (by simp [rowsL]) (cl_rows _) trivial)
      · repeat' (
         conv => whnf
         first
         | refine ifd (fun h => ?_) (fun h => ?_)
         | ((with_reducible refine exBo hb2 ?_))
         | ((with_reducible refine hcI ?_); refine Val.call horb (.refl _) (ler _ _) rfl ?_; rintro r rfl)
         | ((with_reducible apply ob); ((first | rfl | assumption | omega | (unfold maxLen2; omega) | (dsimp only; omega) | (simp only [LN]; omega) | (simp; done) | (simp; omega)))))
        all_goals (conv => whnf)
        all_goals (first | (exfalso; omega) | skip)
        refine lpX (X := Nat × List Bool × List Int) (fun y => [(0, iD n), (1, rowsD gens), (6, .sl 1 0 (rowsL (o :: os)).length), (7, .sl 0 0 n), (9, ptS 2 y.2.2), (18, iD n), (19, iD p), (29, .list false .leaf (howL hO)), (30, iD (howL hO).length), (31, iD y.1)]) (fun y => [.row .leaf (boolsL y.2.1), .row .leaf (rowsL (o :: os))] ++ ptO y.2.2) (fun y => y.1 ≤ n ∧ y.2.1 = doneK hO done y.1 ∧ y.2.2 = lK hO y.1) (fun y => n - y.1)
          ⟨_, nx0 (0, done, []) (by repeat (first | exact trivial | refine se0 rfl ?_)) rfl (Nat.lt_succ_self _) ⟨Nat.zero_le _, rfl, rfl⟩⟩ ?_
        have hol2 : (rowsL (o :: os)).length ≤ p := by rw [rowsL_len]; exact hol
        rintro ⟨i, dn, l⟩ ⟨hi, hdn, hl⟩
        dsimp only at hi hdn hl ⊢
        have hdnl : dn.length = n := by rw [hdn, doneK_len]; exact hdl
        have hdnl2 := boolsL_len dn
        have hll : l.length ≤ i := by rw [hl]; exact lK_len hO i
        have hll2 := intsL_len l
        rcases Nat.lt_or_ge i n with hin | hin
        · obtain ⟨w, hw⟩ : ∃ w, hO[i]? = some w := ⟨_, List.getElem?_eq_getElem (by omega)⟩
          have hw2 := toN hw
          have hwd := getD_of (d := none) hw
          rcases w with _ | w
          · have e1 : doneK hO done (i + 1) = dn := by rw [hdn]; show (if _ then _ else _) = _; rw [if_neg (by rw [hwd]; simp)]
            have e2 : lK hO (i + 1) = l := by rw [hl]; show (if _ then _ else _) = _; rw [if_neg (by rw [hwd]; simp)]
            rcases l with _ | ⟨a, t⟩
            all_goals
              repeat' (
               conv => whnf
               first
               | refine ifd (fun h => ?_) (fun h => ?_)
               | with_reducible refine ivW (by omega) (by omega) ?_
               | ((with_reducible refine exHk hw2 ?_))
               | ((with_reducible apply ob); ((first | rfl | assumption | omega | (unfold maxLen2; omega) | (dsimp only; omega) | (simp only [LN]; omega) | (simp; done) | (simp; omega)))))
              all_goals (conv => whnf)
              all_goals (first | (exfalso; omega) | skip)
            · exact nx0 (i + 1, dn, []) (by repeat (first | exact trivial | refine se0 rfl ?_)) rfl (by dsimp only; omega) ⟨by dsimp only; omega, e1.symm, e2.symm⟩
            · exact nx0 (i + 1, dn, a :: t) (by repeat (first | exact trivial | refine se0 rfl ?_)) rfl (by dsimp only; omega) ⟨by dsimp only; omega, e1.symm, e2.symm⟩
          · have e1 : doneK hO done (i + 1) = dn.set i true := by rw [hdn]; show (if _ then _ else _) = _; rw [if_pos (by rw [hwd]; rfl)]
            have e2 : lK hO (i + 1) = l ++ [(i : Int)] := by rw [hl]; show (if _ then _ else _) = _; rw [if_pos (by rw [hwd]; rfl)]
            have hne : intsL w ≠ [] := fun e => by
              have h1 := (hhp w (List.mem_of_getElem? hw)).1
              have := congrArg List.length e
              rw [intsL_len, h1, List.length_nil] at this
              omega
            rcases l with _ | ⟨a, t⟩
            all_goals
              simp only [List.length_cons, List.length_nil] at hll2 hll
              repeat' (
               conv => whnf
               first
               | refine ifd (fun h => ?_) (fun h => ?_)
               | with_reducible refine ivW (by omega) (by omega) ?_
               | ((with_reducible refine exHk hw2 ?_))
               | ((with_reducible apply ob); ((first | rfl | assumption | omega | (unfold maxLen2; omega) | (dsimp only; omega) | (simp only [LN]; omega) | (simp; done) | (simp; omega))))
               | ((with_reducible apply nilNe); ((first | rfl | assumption | omega | (unfold maxLen2; omega) | (dsimp only; omega) | (simp only [LN]; omega) | (simp; done) | (simp; omega)))))
              all_goals (conv => whnf)
              all_goals (first | (exfalso; omega) | skip)
            · exact nx (X := Nat × List Bool × List Int) (i + 1, dn.set i true, [] ++ [(i : Int)]) [0, 1, 3] (by repeat (first | exact trivial | refine seC rfl rfl ?_ | refine seL (leRow rfl rfl) rfl ?_)) (by show SubH _ _ _ [Ob.row .leaf (boolsL (dn.set i true)), .row .leaf (rowsL (o :: os)), Ob.row .leaf (intsL [(i : Int)])] _; exact (shR rfl (by show (boolsL dn).set (0 + ((i : Nat) : Int).toNat) (.bool true) = _; rw [Nat.zero_add]; simp [boolsL, List.map_set]) (cl_bools _) (shR rfl rfl (cl_rows _) (shR rfl rfl (cl_ints _) trivial)))) rfl rfl (by dsimp only; omega) ⟨by dsimp only; omega, e1.symm, e2.symm⟩
            · exact nx (X := Nat × List Bool × List Int) (i + 1, dn.set i true, (a :: t) ++ [(i : Int)]) [0, 1, 4] (by repeat (first | exact trivial | refine seC rfl rfl ?_ | refine seC (show D.sl 4 0 ((intsL (a :: t)).length + 1) = D.sl 4 0 (intsL ((a :: t) ++ [(i : Int)])).length from by simp [intsL]) rfl ?_)) (by show SubH _ _ _ [Ob.row .leaf (boolsL (dn.set i true)), .row .leaf (rowsL (o :: os)), Ob.row .leaf (intsL ((a :: t) ++ [(i : Int)]))] _; exact (shR rfl (by show (boolsL dn).set (0 + ((i : Nat) : Int).toNat) (.bool true) = _; rw [Nat.zero_add]; simp [boolsL, List.map_set]) (cl_bools _) (shR rfl rfl (cl_rows _) (shR (ds := intsL ((a :: t) ++ [(i : Int)])) rfl (by simp [intsL, List.take_of_length_le]) (cl_ints _) trivial)))) rfl rfl (by dsimp only; omega) ⟨by dsimp only; omega, e1.symm, e2.symm⟩
        · have hin2 : i = n := by omega
          subst hin2
          rcases l with _ | ⟨a, t⟩
          · exact absurd hl.symm hne0
          rw [← hl, ← hdn] at hstep
          repeat' (
           conv => whnf
           first
           | refine ifd (fun h => ?_) (fun h => ?_)
           | with_reducible refine ivW (by omega) (by omega) ?_
           | ((with_reducible apply ob); ((first | rfl | assumption | omega | (unfold maxLen2; omega) | (dsimp only; omega) | (simp only [LN]; omega) | (simp; done) | (simp; omega)))))
          all_goals (conv => whnf)
          all_goals (first | (exfalso; omega) | skip)
          refine nxF (p + 1) [0, 4] (.step 2 .leaf (intsL (a :: t)) rfl (cl_ints _) (frzRow 4 (rowsL (o :: os) ++ [.sl 2 0 (intsL (a :: t)).length]) (rowsL (o :: os) ++ [intsD (a :: t)]) rfl (by show List.take (rowsL (o :: os)).length (List.drop 0 (rowsL (o :: os))) ++ [D.sl 2 0 (intsL (a :: t)).length] = _; rw [List.drop_zero, List.take_length]) (leDs_app (ler _ _) (.cons _ _ _ _ (leRow (ds := intsL (a :: t)) rfl rfl) .nil)) (by rw [shapes_app, shapes_app]; rfl) (okDs_app (okDs_map (fun _ => rfl) _) rfl) (.refl _))) ?_ ?_ rfl rfl ?_ ?_
          rotate_right
          · show p + 1 ≤ i; omega
          rotate_right
          · show i - (p + 1) < i - p; omega
          · show SubE _ (List.length ([Ob.row .leaf (boolsL (orbsK i gens (p + 1)).2)] ++ outO (orbsK i gens (p + 1)).1)) _ _ [(0, iD i), (1, rowsD gens), (6, outS (orbsK i gens (p + 1)).1), (7, .sl 0 0 i), (18, iD i), (19, iD (p + 1))]
            rw [hstep]
            repeat (first | exact trivial | refine seC rfl rfl ?_ | refine seC (show D.sl 4 0 ((rowsL (o :: os)).length + 1) = D.sl 4 0 (rowsL ((o :: os) ++ [a :: t])).length from by simp) rfl ?_)
          · show SubH _ (List.length ([Ob.row .leaf (boolsL (orbsK i gens (p + 1)).2)] ++ outO (orbsK i gens (p + 1)).1)) _ ([Ob.row .leaf (boolsL (orbsK i gens (p + 1)).2)] ++ outO (orbsK i gens (p + 1)).1) _
            rw [hstep]
            show SubH _ _ _ [Ob.row .leaf (boolsL dn), Ob.row .leaf (rowsL ((o :: os) ++ [a :: t]))] _
            exact shR rfl rfl (cl_bools _) (shR (ds := rowsL ((o :: os) ++ [a :: t])) rfl (by simp [rowsL]) (cl_rows _) trivial)
  · have hpn2 : p = n := by omega
    subst hpn2
    have hM : orbsM p gens = out := by unfold orbsM; rw [hst]
    rcases out with _ | ⟨o, os⟩
    all_goals
      repeat' (
       conv => whnf
       first
       | refine ifd (fun h => ?_) (fun h => ?_)
       | ((with_reducible apply ob); ((first | rfl | assumption | omega | (unfold maxLen2; omega) | (dsimp only; omega) | (simp only [LN]; omega) | (simp; done) | (simp; omega)))))
      all_goals (conv => whnf)
      all_goals (first | (exfalso; omega) | skip)
    · exact fin_in ⟨_, .tuple [rowsD [], .int .i64 0], .refl _, .tuple _ _ (.cons _ _ _ _ (.nils _) (.cons _ _ _ _ (.refl _) .nil)), rfl, by rw [hM]⟩
    · exact fin_in ⟨_, .tuple [rowsD (o :: os), .int .i64 0], .step 1 .leaf (rowsL (o :: os)) rfl (cl_rows _) (.refl _), .tuple _ _ (.cons _ _ _ _ (leRow rfl rfl) (.cons _ _ _ _ (.refl _) .nil)), rfl, by rw [hM]⟩
theorem lvK_aut {x : Inc} (hx : x.V ≤ 7) (i : Nat) : ∀ k, i + k ≤ x.V → ∀ y ∈ (lvK x i k).1, Aut x y.2
  | 0, _, y, hy => by cases hy
  | k + 1, hk, y, hy => by
    rw [lvK_succ] at hy
    cases hm : mapN x x (preI i (i + k)) with
    | none => rw [hm] at hy; exact lvK_aut hx i k (by omega) y hy
    | some m =>
      rw [hm] at hy
      rcases List.mem_append.1 hy with h | h
      · exact lvK_aut hx i k (by omega) y h
      · rw [List.mem_singleton.1 h]
        have hd := pre_dif i (i + k) x.V (by omega) (by omega)
        have hl := pre_len i (i + k)
        unfold mapN at hm
        exact (look_aut x hx _ _ m (by omega) hd hm).1
def gensK (x : Inc) : Nat → List (List Int)
  | 0 => []
  | k + 1 => gensK x k ++ repI (lvK x k (x.V - k)).1
theorem gensK_pm {x : Inc} (hx : x.V ≤ 7) : ∀ k, k ≤ x.V → ∀ g ∈ gensK x k, Pm g x.V
  | 0, _, g, hg => by cases hg
  | k + 1, hk, g, hg => by
    rcases List.mem_append.1 hg with h | h
    · exact gensK_pm hx k (by omega) g h
    · obtain ⟨y, hy, rfl⟩ := List.mem_map.1 h
      exact (lvK_aut hx k (x.V - k) (by omega) y hy).1
theorem gensK_len {x : Inc} (hx : x.V ≤ 7) : ∀ k, k ≤ x.V → (gensK x k).length ≤ 7 * k
  | 0, _ => Nat.le_refl _
  | k + 1, hk => by
    have ih := gensK_len hx k (by omega)
    have h2 := lvK_len x k (x.V - k)
    simp only [gensK, repI, List.length_append, List.length_map]
    omega
def genS (x : Inc) : Nat → D
  | 0 => .nils
  | k + 1 => .sl 1 0 (rowsL (gensK x (k + 1))).length
def genO (x : Inc) : Nat → List Ob
  | 0 => []
  | k + 1 => [.row .leaf (rowsL (gensK x (k + 1)))]
theorem exSt {x : Inc} {n m : Nat} {k : D → Prop} (h : n < m) (hk : k (stgD (lvK x n (x.V - n)).1)) : ∃ d, (stgL x m)[((n : Nat) : Int).toNat]? = some d ∧ k d := ⟨_, by rw [Int.toNat_natCast]; unfold stgL; rw [List.getElem?_map, List.getElem?_range h]; rfl, hk⟩
theorem vGOrbits (x : Inc) (hx : x.Ok) (hx7 : x.V ≤ 7) : Val Tryd.prog 59 [x.D] (fun r => r = .tuple [rowsD (orbsM x.V (gensK x x.V)), .int .i64 0]) := by
  have hv := hx.v
  have hv1 := hx.v1
  have hch := vGChain x hx hx7
  refine Val.ofV ?_
  refine hc_ofS (okc Tryd.f59.ntmps 0) (fn := Tryd.f59) (cd := _) rfl rfl rfl rfl rfl rfl (fun hbd => ?_)
  repeat' (
   conv => whnf
   first
   | ((with_reducible refine hcI ?_); refine Val.call hch (.refl _) (ler _ _) rfl ?_; rintro r rfl))
  all_goals (conv => whnf)
  all_goals (first | (exfalso; omega) | skip)
  have hsl := stgL_len x x.V
  refine lpX (X := Nat) (fun k => [(1, .ptr 0 []), (6, genS x k), (18, .list false (.agg [.leaf, .leaf]) (stgL x x.V)), (19, iD (stgL x x.V).length), (20, iD k)]) (fun k => [.var x.D] ++ genO x k) (fun k => k ≤ x.V) (fun k => x.V - k)
    ⟨_, nx (ρ := [0]) 0 (by repeat (first | exact trivial | refine seC rfl rfl ?_ | refine seL (leRow rfl rfl) rfl ?_)) (by show SubH _ _ _ [Ob.var x.D] _; exact shC rfl rfl trivial) rfl rfl (Nat.lt_succ_self _) (Nat.zero_le _)⟩ ?_
  intro k hk
  have hgl := gensK_len hx7 k hk
  dsimp only
  rcases Nat.lt_or_ge k x.V with hlt | hge
  · have hll := lvK_len x k (x.V - k)
    have hrl : (rowsL (repI (lvK x k (x.V - k)).1)).length = (lvK x k (x.V - k)).1.length := by simp [rowsL, repI]
    have hex : k < x.V := hlt
    have hgl3 := rowsL_len (gensK x k)
    rcases k with _ | k
    all_goals
      repeat' (
       conv => whnf
       first
       | refine ifd (fun h => ?_) (fun h => ?_)
       | with_reducible refine ivW (by omega) (by omega) ?_
       | ((with_reducible refine exSt hex ?_))
       | ((with_reducible apply ob); ((first | rfl | assumption | omega | (unfold maxLen2; omega) | (dsimp only; omega) | (simp only [LN]; omega) | (simp; done) | (simp; omega)))))
      all_goals (conv => whnf)
      all_goals (first | (exfalso; omega) | skip)
    · refine nx (0 + 1) [0, 2] (by repeat (first | exact trivial | refine seC rfl rfl ?_ | refine seL (leRow rfl rfl) rfl ?_)) ?_ rfl rfl (by omega) (by omega)
      show SubH _ _ _ [Ob.var x.D, Ob.row .leaf (rowsL (gensK x (0 + 1)))] _
      exact shC rfl rfl (shR rfl rfl (cl_rows _) trivial)
    · refine nx (k + 1 + 1) [0, 3] (by repeat (first | exact trivial | refine seC rfl rfl ?_ | refine seC (show D.sl 3 0 ((rowsL (gensK x (k + 1))).length + (rowsL (repI (lvK x (k + 1) (x.V - (k + 1))).1)).length) = D.sl 3 0 (rowsL (gensK x (k + 1 + 1))).length from by simp [gensK, Nat.add_assoc]) rfl ?_)) ?_ rfl rfl (by omega) (by omega)
      show SubH _ _ _ [Ob.var x.D, Ob.row .leaf (rowsL (gensK x (k + 1 + 1)))] _
      exact shC rfl rfl (shR rfl (by show List.take (rowsL (gensK x (k + 1))).length (List.drop 0 (rowsL (gensK x (k + 1)))) ++ rowsL (repI (lvK x (k + 1) (x.V - (k + 1))).1) = _; rw [List.drop_zero, List.take_length]; simp only [rowsL, ← List.map_append]; rfl) (cl_rows _) trivial)
  · have hkn : k = x.V := by omega
    obtain ⟨j, hj⟩ : ∃ j, k = j + 1 := ⟨k - 1, by omega⟩
    have horb := vPOrbits x.V (gensK x x.V) (by omega) (by omega) (gensK_pm hx7 _ (Nat.le_refl _)) (by have := gensK_len hx7 x.V (Nat.le_refl _); omega)
    subst hj
    have eg : gensK x x.V = gensK x (j + 1) := by rw [hkn]
    rw [eg] at horb ⊢
    repeat' (
     conv => whnf
     first
     | refine ifd (fun h => ?_) (fun h => ?_)
     | ((with_reducible refine hcI ?_); refine Val.call horb (.step 1 .leaf (rowsL (gensK x (j + 1))) rfl (cl_rows _) (.refl _)) (.cons _ _ _ _ (.refl _) (.cons _ _ _ _ (leRow rfl rfl) .nil)) rfl ?_; rintro r rfl)
     | ((with_reducible apply ob); ((first | rfl | assumption | omega | (unfold maxLen2; omega) | (dsimp only; omega) | (simp only [LN]; omega) | (simp; done) | (simp; omega)))))
    all_goals (conv => whnf)
    all_goals (first | (exfalso; omega) | skip)
    exact fC rfl rfl
def orbX (x : Inc) : List (List Int) := orbsM x.V (gensK x x.V)
theorem vLawOrbits (x : Inc) (hx : x.Ok) (hx7 : x.V ≤ 7) : Val Tryd.prog 28 [x.D] (fun r => r = .agg [rowsD (orbX x), .int .i64 0]) := by
  have h := vGOrbits x hx hx7
  refine Val.ofV ?_
  refine hc_ofS (okc Tryd.f28.ntmps 0) (fn := Tryd.f28) (cd := _) rfl rfl rfl rfl rfl rfl (fun hbd => ?_)
  repeat' (
   conv => whnf
   first
   | ((with_reducible refine hcI ?_); refine Val.call h (.refl _) (ler _ _) rfl ?_; rintro r rfl))
  all_goals (conv => whnf)
  exact fC rfl rfl
end Go.Proofs.YthfcfdlbnfcboaaDoor.Pw



set_option linter.unusedVariables false
set_option linter.unusedSimpArgs false
set_option maxHeartbeats 1000000
set_option maxRecDepth 10000
namespace Go.Proofs.YthfcfdlbnfcboaaDoor.Pw
open Go
def plX : Inc := ⟨7, [11, 22, 44, 49, 69, 88, 98]⟩
theorem plX_eq : limX [3, 6] 7 = plX := by decide +kernel
theorem pl_0 : cntL plX 0 0 7 = 7 := by decide +kernel
theorem pl_1 : cntL plX 1 1 6 = 6 := by decide +kernel
theorem pl_2 : cntL plX 2 2 5 = 4 := by decide +kernel
theorem pl_3 : cntL plX 3 3 4 = 1 := by decide +kernel
theorem pl_4 : cntL plX 4 4 3 = 1 := by decide +kernel
theorem pl_5 : cntL plX 5 5 2 = 1 := by decide +kernel
theorem pl_6 : cntL plX 6 6 1 = 1 := by decide +kernel
theorem pl_ord : ordK plX 7 = 168 := by
  rw [ordK_succ, ordK_succ, ordK_succ, ordK_succ, ordK_succ, ordK_succ, ordK_succ]
  show 1 * cntL plX 0 0 7 * cntL plX 1 1 6 * cntL plX 2 2 5 * cntL plX 3 3 4 * cntL plX 4 4 3 * cntL plX 5 5 2 * cntL plX 6 6 1 = 168
  rw [pl_0, pl_1, pl_2, pl_3, pl_4, pl_5, pl_6]
def exA : Inc := ⟨3, [2, 3]⟩
def exBX : Inc := ⟨3, [3]⟩
theorem exA_ord : ordK exA 3 = 1 := by decide +kernel
theorem exB_ord : ordK exBX 3 = 2 := by decide +kernel
theorem exB_is1 : isG exBX [1, 0, 2] = true := by decide +kernel
theorem exB_is2 : isG exBX [0, 2, 1] = false := by decide +kernel
theorem exB_is3 : isG exBX [0, 1] = false := by decide +kernel
theorem plX_fam : plX.Fam := by rw [← plX_eq]; exact limX_fam _ (by omega) (by omega)
theorem exA_fam : exA.Fam := ⟨⟨by decide, by decide, by intro x hx; simp [exA] at hx; unfold W64; omega, by decide⟩, by decide, by simp [exA, Srt], by decide⟩
theorem exB_fam : exBX.Fam := ⟨⟨by decide, by decide, by intro x hx; simp [exBX] at hx; unfold W64; omega, by decide⟩, by decide, by simp [exBX, Srt], by decide⟩
end Go.Proofs.YthfcfdlbnfcboaaDoor.Pw



set_option linter.unusedVariables false
set_option linter.unusedSimpArgs false
set_option maxHeartbeats 4000000
set_option maxRecDepth 10000
namespace Go.Proofs.YthfcfdlbnfcboaaDoor.Pw
open Go
theorem exB_orb : orbX exBX = [[0, 1], [2]] := by decide +kernel
def bigI : Inc := ⟨8, []⟩
theorem vBigProve : Val Tryd.prog 39 [bigI.D] (fun r => r = .tuple [prfI [], .int .i64 2]) := by
  refine Val.ofV ?_
  refine hc_ofS (okc Tryd.f39.ntmps 0) (fn := Tryd.f39) (cd := _) rfl rfl rfl rfl rfl rfl (fun hbd => ?_)
  all_goals (conv => whnf)
  exact fin_in ⟨_, .tuple [prfI [], .int .i64 2], .refl _, .tuple _ _ (.cons _ _ _ _ (.agg _ _ (.cons _ _ _ _ (.nils _) .nil) rfl) (.cons _ _ _ _ (.refl _) .nil)), rfl, rfl⟩
theorem vBigProved : Val Tryd.prog 9 [bigI.D] (fun r => r = .agg [prfI [], .int .i64 2]) := by
  have h := vBigProve
  refine Val.ofV ?_
  refine hc_ofS (okc Tryd.f9.ntmps 0) (fn := Tryd.f9) (cd := _) rfl rfl rfl rfl rfl rfl (fun hbd => ?_)
  repeat' (
   conv => whnf
   first
   | ((with_reducible refine hcI ?_); refine Val.call h (.refl _) (ler _ _) rfl ?_; rintro r rfl))
  all_goals (conv => whnf)
  exact fC rfl rfl
theorem vBigOrderG : Val Tryd.prog 45 [bigI.D] (fun r => r = .tuple [iD 0, .int .i64 2]) := by
  refine Val.ofV ?_
  refine hc_ofS (okc Tryd.f45.ntmps 0) (fn := Tryd.f45) (cd := _) rfl rfl rfl rfl rfl rfl (fun hbd => ?_)
  all_goals (conv => whnf)
  exact fC rfl rfl
theorem vBigOrder : Val Tryd.prog 15 [bigI.D] (fun r => r = .agg [iD 0, .int .i64 2]) := by
  have h := vBigOrderG
  refine Val.ofV ?_
  refine hc_ofS (okc Tryd.f15.ntmps 0) (fn := Tryd.f15) (cd := _) rfl rfl rfl rfl rfl rfl (fun hbd => ?_)
  repeat' (
   conv => whnf
   first
   | ((with_reducible refine hcI ?_); refine Val.call h (.refl _) (ler _ _) rfl ?_; rintro r rfl))
  all_goals (conv => whnf)
  exact fC rfl rfl
theorem vPlane : Val Tryd.prog 33 [] (fun r => r = plX.D) := by
  have h := vMadeR [3, 6] (by decide)
  rw [plX_eq] at h
  refine Val.ofV ?_
  refine hc_ofS (okc Tryd.f33.ntmps 0) (fn := Tryd.f33) (cd := _) rfl rfl rfl rfl rfl rfl (fun hbd => ?_)
  repeat' (
   conv => whnf
   first
   | ((with_reducible refine hcI ?_); refine Val.call h (.step 1 .leaf (bytesL [3, 6]) rfl rfl (.refl _)) (.cons _ _ _ _ (.agg _ _ (.cons _ _ _ _ (leRow rfl rfl) .nil) rfl) .nil) rfl ?_; rintro r rfl))
  all_goals (conv => whnf)
  exact fC rfl rfl
theorem hcNorm {P : Program} {f : FuncId} {args : List D} {H : List Ob} (H2 : List Ob) {Q : D → List Ob → Prop} (h : H = H2) (hq : HC P f args H2 Q) : HC P f args H Q := by subst h; exact hq
theorem vExamples : Val Tryd.prog 7 [] (fun r => r = .bool true) := by
  have hpl := vProved plX plX_fam
  obtain ⟨PL, hPL⟩ : ∃ PL, (List.range plX.V).map (fun i => toI (lvK plX i (plX.V - i))) = PL := ⟨_, rfl⟩
  rw [hPL] at hpl
  have hPLl : PL.length = 7 := by rw [← hPL]; rfl
  have hPLl2 := lvlsL_len PL
  have hPb : ∀ l ∈ PL, l.1.length ≤ 1000000 ∧ l.2.length ≤ 1000000 := by
    intro l hl
    rw [← hPL] at hl
    obtain ⟨i, _, rfl⟩ := List.mem_map.1 hl
    have := lvK_len plX i (plX.V - i)
    have hv : plX.V = 7 := rfl
    simp only [toI, List.length_map]
    omega
  have hchk := vChecked plX plX_fam PL hPb
  have hN : chkN plX PL = 168 := by rw [← hPL, chkN_prf plX_fam]; exact pl_ord
  rw [hN] at hchk
  have hord := vLawOrder plX plX_fam.ok plX_fam.v7
  rw [show ordK plX plX.V = 168 from pl_ord] at hord
  obtain ⟨⟨y0, n0⟩, h0⟩ : ∃ l, l = toI (lvK plX 0 7) := ⟨_, rfl⟩
  obtain ⟨⟨y1, n1⟩, h1⟩ : ∃ l, l = toI (lvK plX 1 6) := ⟨_, rfl⟩
  obtain ⟨⟨y2, n2⟩, h2⟩ : ∃ l, l = toI (lvK plX 2 5) := ⟨_, rfl⟩
  have hy0 : (rchL y0).length = 7 := by
    have : y0 = (toI (lvK plX 0 7)).1 := by rw [← h0]
    rw [rchL_len, this]; simp only [toI, List.length_map]; rw [lvK_cnt]; exact pl_0
  have hy1 : (rchL y1).length = 6 := by
    have : y1 = (toI (lvK plX 1 6)).1 := by rw [← h1]
    rw [rchL_len, this]; simp only [toI, List.length_map]; rw [lvK_cnt]; exact pl_1
  have hy2 : (rchL y2).length = 4 := by
    have : y2 = (toI (lvK plX 2 5)).1 := by rw [← h2]
    rw [rchL_len, this]; simp only [toI, List.length_map]; rw [lvK_cnt]; exact pl_2
  have e0 : PL[Int.toNat 0]? = some (y0, n0) := by rw [← hPL, h0]; rfl
  have e1 : PL[Int.toNat 1]? = some (y1, n1) := by rw [← hPL, h1]; rfl
  have e2 : PL[Int.toNat 2]? = some (y2, n2) := by rw [← hPL, h2]; rfl
  have hoA := vLawOrder exA exA_fam.ok exA_fam.v7
  rw [show ordK exA exA.V = 1 from exA_ord] at hoA
  have hoB := vLawOrder exBX exB_fam.ok exB_fam.v7
  rw [show ordK exBX exBX.V = 2 from exB_ord] at hoB
  have hob := vLawOrbits exBX exB_fam.ok exB_fam.v7
  rw [exB_orb] at hob
  have hcA := vChecked exA exA_fam [] (by simp)
  rw [show chkN exA [] = 0 from rfl] at hcA
  have hal := vAlike [[0, 1], [2]] [[0, 1], [2]] (by decide) (by decide)
  rw [decide_eq_true rfl] at hal
  have hi1 := vIs exBX [1, 0, 2] (by decide) exB_fam.ok.b exB_fam.ok.n exB_fam.bits
  rw [exB_is1] at hi1
  have hi2 := vIs exBX [0, 2, 1] (by decide) exB_fam.ok.b exB_fam.ok.n exB_fam.bits
  rw [exB_is2] at hi2
  have hi3 := vIs exBX [0, 1] (by decide) exB_fam.ok.b exB_fam.ok.n exB_fam.bits
  rw [exB_is3] at hi3
  clear h0 h1 h2 hPL hPb hN
  refine Val.ofV ?_
  refine hc_ofS (okc Tryd.f7.ntmps 0) (fn := Tryd.f7) (cd := _) rfl rfl rfl rfl rfl rfl (fun hbd => ?_)
  repeat' (
   conv => whnf
   first
   | ((with_reducible refine hcI ?_); refine Val.call vPlane (.refl _) (ler _ _) rfl ?_; rintro r rfl)
   | ((with_reducible refine hcI ?_); refine Val.call hpl (.refl _) (ler _ _) rfl ?_; rintro r rfl)
   | ((with_reducible refine hcI ?_); refine Val.call hchk (.refl _) (ler _ _) rfl ?_; rintro r rfl)
   | ((with_reducible refine hcI ?_); refine Val.call hord (.refl _) (ler _ _) rfl ?_; rintro r rfl)
   | refine ifn (fun h => ?_) (fun h => ?_)
   | ((with_reducible refine exLv e0 ?_))
   | ((with_reducible refine exLv e1 ?_))
   | ((with_reducible refine exLv e2 ?_))
   | ((with_reducible apply ob); ((first | rfl | assumption | omega | (unfold maxLen2; omega) | (dsimp only; omega) | (simp only [LN]; omega) | (simp; done) | (simp; omega)))))
  all_goals (conv => whnf)
  all_goals (first | (exfalso; omega) | skip)
  refine hcNorm [.var plX.D, .var (.agg [prfI PL, .int .i64 0]), .row .leaf (setsL [2, 3]), .var (.agg [.int .i64 3, .sl 2 0 2]), .row .leaf (setsL [3]), .var (.agg [.int .i64 3, .sl 4 0 1]), .var (.agg [.int .i64 8, .nils])] rfl ?_
  refine Val.call hob (.step 4 .leaf (setsL [3]) rfl rfl (.refl _)) (.cons _ _ _ _ (show LeD _ exBX.D (.agg [.int .i64 3, .sl 4 0 1]) from .agg _ _ (.cons _ _ _ _ (.refl _) (.cons _ _ _ _ (leRow (ds := setsL [3]) rfl rfl) .nil)) rfl) .nil) rfl ?_
  rintro r rfl
  all_goals (conv => whnf)
  all_goals (first | (exfalso; omega) | skip)
  refine hcNorm [.var plX.D, .var (.agg [prfI PL, .int .i64 0]), .row .leaf (setsL [2, 3]), .var (.agg [.int .i64 3, .sl 2 0 2]), .frz .leaf (setsL [3]), .var (.agg [.int .i64 3, .sl 4 0 1]), .var (.agg [.int .i64 8, .nils]), .var (.agg [rowsD [[0, 1], [2]], .int .i64 0])] rfl ?_
  refine Val.call hoA (.step 2 .leaf (setsL [2, 3]) rfl rfl (.refl _)) (.cons _ _ _ _ (show LeD _ exA.D (.agg [.int .i64 3, .sl 2 0 2]) from .agg _ _ (.cons _ _ _ _ (.refl _) (.cons _ _ _ _ (leRow (ds := setsL [2, 3]) rfl rfl) .nil)) rfl) .nil) rfl ?_
  rintro r rfl
  all_goals (conv => whnf)
  all_goals (first | (exfalso; omega) | skip)
  refine hcNorm [.var plX.D, .var (.agg [prfI PL, .int .i64 0]), .frz .leaf (setsL [2, 3]), .var (.agg [.int .i64 3, .sl 2 0 2]), .frz .leaf (setsL [3]), .var (.agg [.int .i64 3, .sl 4 0 1]), .var (.agg [.int .i64 8, .nils]), .var (.agg [rowsD [[0, 1], [2]], .int .i64 0])] rfl ?_
  refine Val.call hoB (.refl _) (.cons _ _ _ _ (show LeD _ exBX.D (.agg [.int .i64 3, .sl 4 0 1]) from .agg _ _ (.cons _ _ _ _ (.refl _) (.cons _ _ _ _ (leRow (ds := setsL [3]) rfl rfl) .nil)) rfl) .nil) rfl ?_
  rintro r rfl
  all_goals (conv => whnf)
  all_goals (first | (exfalso; omega) | skip)
  refine hcNorm [.var plX.D, .var (.agg [prfI PL, .int .i64 0]), .frz .leaf (setsL [2, 3]), .var (.agg [.int .i64 3, .sl 2 0 2]), .frz .leaf (setsL [3]), .var (.agg [.int .i64 3, .sl 4 0 1]), .var (.agg [.int .i64 8, .nils]), .var (.agg [rowsD [[0, 1], [2]], .int .i64 0]), .row .leaf (intsL [0, 1]), .row .leaf (intsL [2]), .row .leaf [.sl 8 0 2, .sl 9 0 1]] rfl ?_
  refine Val.call hal (.step 8 .leaf (intsL [0, 1]) rfl rfl (.step 9 .leaf (intsL [2]) rfl rfl (frzRow 10 [.sl 8 0 2, .sl 9 0 1] (rowsL [[0, 1], [2]]) rfl rfl (.cons _ _ _ _ (leRow (ds := intsL [0, 1]) rfl rfl) (.cons _ _ _ _ (leRow (ds := intsL [2]) rfl rfl) .nil)) rfl rfl (.step 10 .leaf (rowsL [[0, 1], [2]]) rfl rfl (.refl _))))) (.cons _ _ _ _ (.refl _) (.cons _ _ _ _ (leRow (ds := rowsL [[0, 1], [2]]) rfl rfl) .nil)) rfl ?_
  rintro r rfl
  all_goals (conv => whnf)
  all_goals (first | (exfalso; omega) | skip)
  refine hcNorm [.var plX.D, .var (.agg [prfI PL, .int .i64 0]), .frz .leaf (setsL [2, 3]), .var (.agg [.int .i64 3, .sl 2 0 2]), .frz .leaf (setsL [3]), .var (.agg [.int .i64 3, .sl 4 0 1]), .var (.agg [.int .i64 8, .nils]), .var (.agg [rowsD [[0, 1], [2]], .int .i64 0]), .frz .leaf (intsL [0, 1]), .frz .leaf (intsL [2]), .frz .leaf (rowsL [[0, 1], [2]])] rfl ?_
  refine Val.call hcA (.refl _) (.cons _ _ _ _ (show LeD _ exA.D (.agg [.int .i64 3, .sl 2 0 2]) from .agg _ _ (.cons _ _ _ _ (.refl _) (.cons _ _ _ _ (leRow (ds := setsL [2, 3]) rfl rfl) .nil)) rfl) (.cons _ _ _ _ (.agg _ _ (.cons _ _ _ _ (.nils _) .nil) rfl) .nil)) rfl ?_
  rintro r rfl
  all_goals (conv => whnf)
  all_goals (first | (exfalso; omega) | skip)
  refine hcNorm [.var plX.D, .var (.agg [prfI PL, .int .i64 0]), .frz .leaf (setsL [2, 3]), .var (.agg [.int .i64 3, .sl 2 0 2]), .frz .leaf (setsL [3]), .var (.agg [.int .i64 3, .sl 4 0 1]), .var (.agg [.int .i64 8, .nils]), .var (.agg [rowsD [[0, 1], [2]], .int .i64 0]), .frz .leaf (intsL [0, 1]), .frz .leaf (intsL [2]), .frz .leaf (rowsL [[0, 1], [2]])] rfl ?_
  refine Val.call vBigProved (.refl _) (.cons _ _ _ _ (show LeD _ bigI.D (.agg [.int .i64 8, .nils]) from .agg _ _ (.cons _ _ _ _ (.refl _) (.cons _ _ _ _ (.nils _) .nil)) rfl) .nil) rfl ?_
  rintro r rfl
  all_goals (conv => whnf)
  all_goals (first | (exfalso; omega) | skip)
  refine hcNorm [.var plX.D, .var (.agg [prfI PL, .int .i64 0]), .frz .leaf (setsL [2, 3]), .var (.agg [.int .i64 3, .sl 2 0 2]), .frz .leaf (setsL [3]), .var (.agg [.int .i64 3, .sl 4 0 1]), .var (.agg [.int .i64 8, .nils]), .var (.agg [rowsD [[0, 1], [2]], .int .i64 0]), .frz .leaf (intsL [0, 1]), .frz .leaf (intsL [2]), .frz .leaf (rowsL [[0, 1], [2]])] rfl ?_
  refine Val.call vBigOrder (.refl _) (.cons _ _ _ _ (show LeD _ bigI.D (.agg [.int .i64 8, .nils]) from .agg _ _ (.cons _ _ _ _ (.refl _) (.cons _ _ _ _ (.nils _) .nil)) rfl) .nil) rfl ?_
  rintro r rfl
  all_goals (conv => whnf)
  all_goals (first | (exfalso; omega) | skip)
  refine hcNorm [.var plX.D, .var (.agg [prfI PL, .int .i64 0]), .frz .leaf (setsL [2, 3]), .var (.agg [.int .i64 3, .sl 2 0 2]), .frz .leaf (setsL [3]), .var (.agg [.int .i64 3, .sl 4 0 1]), .var (.agg [.int .i64 8, .nils]), .var (.agg [rowsD [[0, 1], [2]], .int .i64 0]), .frz .leaf (intsL [0, 1]), .frz .leaf (intsL [2]), .frz .leaf (rowsL [[0, 1], [2]]), .row .leaf (intsL [1, 0, 2])] rfl ?_
  refine Val.call hi1 (.step 11 .leaf (intsL [1, 0, 2]) rfl rfl (.refl _)) (.cons _ _ _ _ (show LeD _ exBX.D (.agg [.int .i64 3, .sl 4 0 1]) from .agg _ _ (.cons _ _ _ _ (.refl _) (.cons _ _ _ _ (leRow (ds := setsL [3]) rfl rfl) .nil)) rfl) (.cons _ _ _ _ (leRow (ds := intsL [1, 0, 2]) rfl rfl) .nil)) rfl ?_
  rintro r rfl
  all_goals (conv => whnf)
  all_goals (first | (exfalso; omega) | skip)
  refine hcNorm [.var plX.D, .var (.agg [prfI PL, .int .i64 0]), .frz .leaf (setsL [2, 3]), .var (.agg [.int .i64 3, .sl 2 0 2]), .frz .leaf (setsL [3]), .var (.agg [.int .i64 3, .sl 4 0 1]), .var (.agg [.int .i64 8, .nils]), .var (.agg [rowsD [[0, 1], [2]], .int .i64 0]), .frz .leaf (intsL [0, 1]), .frz .leaf (intsL [2]), .frz .leaf (rowsL [[0, 1], [2]]), .frz .leaf (intsL [1, 0, 2]), .row .leaf (intsL [0, 2, 1])] rfl ?_
  refine Val.call hi2 (.step 12 .leaf (intsL [0, 2, 1]) rfl rfl (.refl _)) (.cons _ _ _ _ (show LeD _ exBX.D (.agg [.int .i64 3, .sl 4 0 1]) from .agg _ _ (.cons _ _ _ _ (.refl _) (.cons _ _ _ _ (leRow (ds := setsL [3]) rfl rfl) .nil)) rfl) (.cons _ _ _ _ (leRow (ds := intsL [0, 2, 1]) rfl rfl) .nil)) rfl ?_
  rintro r rfl
  all_goals (conv => whnf)
  all_goals (first | (exfalso; omega) | skip)
  refine hcNorm [.var plX.D, .var (.agg [prfI PL, .int .i64 0]), .frz .leaf (setsL [2, 3]), .var (.agg [.int .i64 3, .sl 2 0 2]), .frz .leaf (setsL [3]), .var (.agg [.int .i64 3, .sl 4 0 1]), .var (.agg [.int .i64 8, .nils]), .var (.agg [rowsD [[0, 1], [2]], .int .i64 0]), .frz .leaf (intsL [0, 1]), .frz .leaf (intsL [2]), .frz .leaf (rowsL [[0, 1], [2]]), .frz .leaf (intsL [1, 0, 2]), .frz .leaf (intsL [0, 2, 1]), .row .leaf (intsL [0, 1])] rfl ?_
  refine Val.call hi3 (.step 13 .leaf (intsL [0, 1]) rfl rfl (.refl _)) (.cons _ _ _ _ (show LeD _ exBX.D (.agg [.int .i64 3, .sl 4 0 1]) from .agg _ _ (.cons _ _ _ _ (.refl _) (.cons _ _ _ _ (leRow (ds := setsL [3]) rfl rfl) .nil)) rfl) (.cons _ _ _ _ (leRow (ds := intsL [0, 1]) rfl rfl) .nil)) rfl ?_
  rintro r rfl
  all_goals (conv => whnf)
  all_goals (first | (exfalso; omega) | skip)
  exact fC rfl rfl
end Go.Proofs.YthfcfdlbnfcboaaDoor.Pw



set_option linter.unusedVariables false
set_option linter.unusedSimpArgs false
set_option maxHeartbeats 1000000
set_option maxRecDepth 10000
namespace Go.Proofs.YthfcfdlbnfcboaaDoor.Pw
open Go
end Go.Proofs.YthfcfdlbnfcboaaDoor.Pw



set_option linter.unusedVariables false
set_option linter.unusedSimpArgs false
set_option maxHeartbeats 4000000
set_option maxRecDepth 10000
namespace Go.Proofs.YthfcfdlbnfcboaaDoor.Pw
open Go
theorem tyU8 {n : Nat} {d : D} (h : TyD (cx 0 0) (n + 1) 5 d) : ∃ x : Nat, d = .int .u8 (x : Int) ∧ x < 256 := by
  obtain ⟨x, rfl, hx⟩ := h
  have hx : (decide (IntKind.u8.min ≤ x) && decide (x ≤ IntKind.u8.max)) = true := hx
  simp only [Bool.and_eq_true, decide_eq_true_eq] at hx
  have h1 : IntKind.u8.min = 0 := by decide
  have h2 : IntKind.u8.max = 255 := by decide
  exact ⟨x.toNat, by rw [Int.toNat_of_nonneg (by omega)], by omega⟩
theorem tyU8s {n : Nat} {d : D} (h : TyD (cx 0 0) (n + 2) 22 d) : ∃ l, d = bytesD l ∧ ∀ x ∈ l, x < 256 := by
  obtain ⟨ds, rfl, hds⟩ := h
  have : ∀ es : List D, (∀ x ∈ es, TyD (cx 0 0) (n + 1) 5 x) → ∃ l, es = bytesL l ∧ ∀ x ∈ l, x < 256 := by
    intro es
    induction es with
    | nil => intro _; exact ⟨[], rfl, by simp⟩
    | cons d es ih =>
      intro h
      obtain ⟨l, rfl, hl⟩ := ih (fun x hx => h x (by simp [hx]))
      obtain ⟨x, rfl, hx⟩ := tyU8 (h d (by simp))
      exact ⟨x :: l, rfl, by intro y hy; rcases List.mem_cons.1 hy with rfl | hy; exact hx; exact hl y hy⟩
  obtain ⟨l, rfl, hl⟩ := this ds hds
  exact ⟨l, rfl, hl⟩
theorem tyRaw {d : D} (h : TyD (cx 0 0) 6 24 d) : ∃ l, d = .agg [bytesD l] ∧ ∀ x ∈ l, x < 256 := by
  obtain ⟨ds, rfl, hl, hds⟩ := h
  match ds, hl with
  | [e], _ =>
    obtain ⟨l, rfl, hl⟩ := tyU8s (hds 0 22 e rfl rfl)
    exact ⟨l, rfl, hl⟩
end Go.Proofs.YthfcfdlbnfcboaaDoor.Pw



set_option linter.unusedVariables false
set_option linter.unusedSimpArgs false
set_option maxHeartbeats 1000000
set_option maxRecDepth 10000
namespace Go.Proofs.YthfcfdlbnfcboaaDoor.Pw
open Go
def allR : Nat → List Int → List (List Int)
  | 0, _ => [[]]
  | m + 1, rest => (List.range (m + 1)).flatMap fun i => (allR m (rest.take i ++ rest.drop (i + 1))).map (rest.getD i 0 :: ·)
theorem take_drop_perm {l : List Int} {i : Nat} {a : Int} (h : l[i]? = some a) : l.Perm (a :: (l.take i ++ l.drop (i + 1))) := by
  have hi : i < l.length := (List.getElem?_eq_some_iff.1 h).1
  have e : l = l.take i ++ a :: l.drop (i + 1) := by
    conv => lhs; rw [← List.take_append_drop i l]
    rw [List.drop_eq_getElem_cons hi]
    rw [List.getElem?_eq_getElem hi] at h
    rw [Option.some.inj h]
  conv => lhs; rw [e]
  exact List.perm_middle
theorem allR_mem : ∀ (m : Nat) (rest g : List Int), rest.length = m → (g ∈ allR m rest ↔ g.Perm rest)
  | 0, rest, g, h => by
    have : rest = [] := List.eq_nil_of_length_eq_zero h
    subst this
    simp [allR]
  | m + 1, rest, g, h => by
    unfold allR
    rw [List.mem_flatMap]
    constructor
    · rintro ⟨i, hi, hg⟩
      have hi := List.mem_range.1 hi
      obtain ⟨g', hg', rfl⟩ := List.mem_map.1 hg
      have ha : rest[i]? = some (rest.getD i 0) := by
        have : rest[i]? = some rest[i] := List.getElem?_eq_getElem (by omega)
        rw [this, getD_of this]
      have hp := take_drop_perm ha
      have := (allR_mem m _ g' (by simp; omega)).1 hg'
      exact (this.cons _).trans hp.symm
    · intro hp
      cases g with
      | nil => have := hp.length_eq; simp at this; omega
      | cons a g' =>
        have ha : a ∈ rest := hp.mem_iff.1 List.mem_cons_self
        obtain ⟨i, hi, e⟩ := List.getElem_of_mem ha
        have ha2 : rest[i]? = some a := by rw [List.getElem?_eq_getElem hi, e]
        refine ⟨i, List.mem_range.2 (by omega), List.mem_map.2 ⟨g', ?_, by rw [getD_of ha2]⟩⟩
        exact (allR_mem m _ g' (by simp; omega)).2 (List.Perm.cons_inv (hp.trans (take_drop_perm ha2)))
theorem allR_nodup : ∀ (m : Nat) (rest : List Int), rest.length = m → rest.Nodup → (allR m rest).Nodup
  | 0, _, _, _ => by simp [allR]
  | m + 1, rest, h, hn => by
    unfold allR List.Nodup
    rw [List.pairwise_flatMap]
    constructor
    · intro i hi
      have hi := List.mem_range.1 hi
      have ha : rest[i]? = some (rest.getD i 0) := by
        have : rest[i]? = some rest[i] := List.getElem?_eq_getElem (by omega)
        rw [this, getD_of this]
      have hn2 := (List.nodup_cons.1 ((take_drop_perm ha).nodup_iff.1 hn)).2
      exact List.Pairwise.map _ (fun a b (hab : a ≠ b) => by intro e; exact hab (List.cons.inj e).2) (allR_nodup m _ (by simp; omega) hn2)
    · refine List.Pairwise.imp_of_mem (fun {i j} hi hj hij => ?_) (List.nodup_range (n := m + 1))
      intro x hx y hy
      obtain ⟨x', _, rfl⟩ := List.mem_map.1 hx
      obtain ⟨y', _, rfl⟩ := List.mem_map.1 hy
      have hi := List.mem_range.1 hi
      have hj := List.mem_range.1 hj
      intro e
      have e1 := (List.cons.inj e).1
      rw [getD_of (List.getElem?_eq_getElem (by omega : i < rest.length)), getD_of (List.getElem?_eq_getElem (by omega : j < rest.length))] at e1
      exact hij ((List.getElem_inj hn).1 e1)
theorem pm_perm {g : List Int} {n : Nat} : Pm g n ↔ g.Perm (oneI n) := by
  have h1 := one_pm n
  constructor
  · intro hg
    refine (List.perm_ext_iff_of_nodup hg.2.2 h1.2.2).2 fun a => ⟨fun ha => ?_, fun ha => ?_⟩
    · have := hg.2.1 a ha
      simp only [oneI, natsI, List.mem_map, List.mem_range]
      exact ⟨a.toNat, by omega, by omega⟩
    · have hnd : (g.map Int.toNat).Nodup := (nd_map (fun a ha b hb e => by have := hg.2.1 a ha; have := hg.2.1 b hb; omega)).2 hg.2.2
      have h2 := (count_lt n (g.map Int.toNat) (fun x hx => by
        obtain ⟨y, hy, rfl⟩ := List.mem_map.1 hx
        have := hg.2.1 y hy; omega) (by rw [List.length_map]; exact hg.1)).2 hnd
      have h3 := h1.2.1 a ha
      obtain ⟨y, hy, e⟩ := List.mem_map.1 (h2 a.toNat (by omega))
      have := hg.2.1 y hy
      have : y = a := by omega
      rw [← this]; exact hy
  · intro hp
    exact ⟨by rw [hp.length_eq]; exact h1.1, fun a ha => h1.2.1 a (hp.mem_iff.1 ha), hp.nodup_iff.2 h1.2.2⟩
def permsA (n : Nat) : List (List Int) := allR n (oneI n)
theorem permsA_mem (n : Nat) (g : List Int) : g ∈ permsA n ↔ Pm g n := by
  unfold permsA; rw [allR_mem n _ g (one_len n), pm_perm]
theorem permsA_nodup (n : Nat) : (permsA n).Nodup := allR_nodup n _ (one_len n) (one_pm n).2.2
end Go.Proofs.YthfcfdlbnfcboaaDoor.Pw

