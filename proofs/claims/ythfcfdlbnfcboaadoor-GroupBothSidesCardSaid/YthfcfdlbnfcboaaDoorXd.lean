/- Parts of the proof, merged: YL YM YN. -/
import Derived.Test.YthfcfdlbnfcboaaDoorXc
/- R20.copied. -/
set_option linter.unusedVariables false
set_option linter.unusedSimpArgs false
set_option maxHeartbeats 4000000
set_option maxRecDepth 10000
namespace Go.Proofs.YthfcfdlbnfcboaaDoor.Pw
open Go

/-- The level that may still be written: its lists are rows of their own, if there is something in them. -/
def keepD : List (Int × List Int) → List (Int × Tree) → D
  | [], [] => .agg [.list true (.agg [.leaf, .leaf]) [], .list true (.agg [.leaf, .agg [.leaf]]) []]
  | [], n :: ns => .agg [.list true (.agg [.leaf, .leaf]) [], .sl 4 0 (0 + (unsL (n :: ns)).length)]
  | y :: ys, [] => .agg [.sl 4 0 (0 + (rchL (y :: ys)).length), .list true (.agg [.leaf, .agg [.leaf]]) []]
  | y :: ys, n :: ns => .agg [.sl 4 0 (0 + (rchL (y :: ys)).length), .sl 5 0 (0 + (unsL (n :: ns)).length)]
def keepR : List (Int × List Int) → List (Int × Tree) → List Ob
  | [], [] => []
  | [], n :: ns => [.row (.agg [.leaf, .agg [.leaf]]) (unsL (n :: ns))]
  | y :: ys, [] => [.row (.agg [.leaf, .leaf]) (rchL (y :: ys))]
  | y :: ys, n :: ns => [.row (.agg [.leaf, .leaf]) (rchL (y :: ys)), .row (.agg [.leaf, .agg [.leaf]]) (unsL (n :: ns))]
/-- The rows of levels while they are copied. -/
def cpL (L : List Lvl) (i k : Nat) (d : D) : List D := lvlsL (L.take i) ++ d :: lvlsL ((L.take k).drop (i + 1))
theorem cpL_len {L : List Lvl} {i k : Nat} {d : D} (hk : k ≤ L.length) (hi : i < k) : (cpL L i k d).length = k := by simp [cpL]; omega
theorem cpL_snoc {L : List Lvl} {i k : Nat} {d : D} {l : Lvl} (hl : L[k]? = some l) (hi : i < k) : cpL L i (k + 1) d = cpL L i k d ++ [lvlI l] := by
  have hk : k < L.length := (List.getElem?_eq_some_iff.1 hl).1
  unfold cpL
  rw [List.take_add_one, hl, List.drop_append_of_le_length (by simp; omega)]
  simp [lvlsL]
theorem cpL_at {L : List Lvl} {i : Nat} {d : D} : cpL L i (i + 1) d = lvlsL (L.take i) ++ [d] := by
  unfold cpL
  rw [List.drop_eq_nil_of_le (by simp; omega)]; rfl
theorem lvls_snoc {L : List Lvl} {k : Nat} {l : Lvl} (hl : L[k]? = some l) : lvlsL (L.take (k + 1)) = lvlsL (L.take k) ++ [lvlI l] := by
  rw [List.take_add_one, hl]; simp [lvlsL]
theorem renDs_app (ρ : List Nat) : ∀ (a b : List D), renDs ρ (a ++ b) = renDs ρ a ++ renDs ρ b
  | [], _ => rfl
  | d :: a, b => by simp only [List.cons_append, renDs, renDs_app ρ a b]
theorem inDs_app {n : Nat} : ∀ {a b : List D}, inDs n a = true → inDs n b = true → inDs n (a ++ b) = true
  | [], _, _, h => h
  | d :: a, b, h1, h2 => by
    cases hd : inD n d <;> simp [inDs, hd] at h1
    simp only [List.cons_append, inDs, hd, cond_true, inDs_app h1 h2]
theorem shK {ρ : List Nat} {n g i k : Nat} {H H2 : List Ob} {r : List Nat} {sh : Sh} {es : List D} {L : List Lvl} {d d' : D} (h : H.getD g .dead = .row sh es) (he : es = cpL L i k d') (hr : renD ρ d = d') (hi : inD n d = true) (h2 : SubH ρ n H H2 r) :
    SubH ρ n H (.row sh (cpL L i k d) :: H2) (g :: r) := by
  refine ⟨?_, ?_, h2⟩
  · rw [h, he]
    show _ = Ob.row sh (renDs ρ (cpL L i k d))
    unfold cpL
    rw [renDs_app, ren_cls ρ _ (cl_lvls _)]
    simp only [renDs]
    rw [ren_cls ρ _ (cl_lvls _), hr]
  · show inDs n (cpL L i k d) = true
    unfold cpL
    refine inDs_app (in_cls n _ (cl_lvls _)) ?_
    simp only [inDs, hi, cond_true]
    exact in_cls n _ (cl_lvls _)
theorem frzRow {H H' : List Ob} (g : Nat) {sh : Sh} {es0 : List D} (es ds : List D) (h : H.getD g .dead = .row sh es0) (he : es0 = es) (hle : LeDs H ds es) (hs : shapes ds = shapes es) (ho : okDs ds = true) (hn : Frz (H.set g (.row sh ds)) H') : Frz H H' := by
  subst he; exact .row g sh ds es0 h hle hs ho hn
theorem exLv {l : List Lvl} {n : Nat} {k : D → Prop} {cy : List (Int × List Int)} {cn : List (Int × Tree)} (h : l[n]? = some (cy, cn)) (hk : k (.agg [.list false (.agg [.leaf, .leaf]) (rchL cy), .list false (.agg [.leaf, .agg [.leaf]]) (unsL cn)])) : ∃ d, (lvlsL l)[n]? = some d ∧ k d :=
  ⟨_, by unfold lvlsL; rw [List.getElem?_map, h]; rfl, hk⟩
theorem toN {α : Type} {l : List α} {k : Nat} {a : α} (h : l[k]? = some a) : l[((k : Nat) : Int).toNat]? = some a := h
theorem leLvl {H : List Ob} {cy : List (Int × List Int)} {cn : List (Int × Tree)} {y n : D} (h1 : LeD H (.list false (.agg [.leaf, .leaf]) (rchL cy)) y) (h2 : LeD H (.list false (.agg [.leaf, .agg [.leaf]]) (unsL cn)) n) (hy : shape y = .leaf) (hn : shape n = .leaf) : LeD H (lvlI (cy, cn)) (.agg [y, n]) :=
  .agg _ _ (.cons _ _ _ _ h1 (.cons _ _ _ _ h2 .nil)) (by simp only [shapes, hy, hn]; rfl)
theorem ok_lvls (L : List Lvl) : okDs (lvlsL L) = true := okDs_map (fun _ => rfl) L

theorem hcCopied (L : List Lvl) (i : Nat) (ys : List (Int × List Int)) (ns : List (Int × Tree)) (hi : L[i]? = some (ys, ns)) (hb : ∀ l ∈ L, l.1.length ≤ 1000000 ∧ l.2.length ≤ 1000000) (hLb : L.length ≤ 1000000) :
    HC Tryd.prog 52 [prfI L] [] (fun r H' => Fin (r = .agg [.sl 3 0 L.length] ∧ H' = [.var (prfI L), .var (.agg [.sl 3 0 L.length]), .var (.agg [.sl 3 0 L.length]), .row (.agg [.leaf, .leaf]) (cpL L i L.length (keepD ys ns))] ++ keepR ys ns)) := by
  have hiL : i < L.length := (List.getElem?_eq_some_iff.1 hi).1
  have hL0 := lvlsL_len L
  have hyb := (hb _ (List.mem_of_getElem? hi)).1
  have hnb := (hb _ (List.mem_of_getElem? hi)).2
  dsimp only at hyb hnb
  refine hc_ofS (okc Tryd.f52.ntmps 0) (fn := Tryd.f52) (cd := _) rfl rfl rfl rfl rfl rfl (fun hbd => ?_)
  rcases ys with _ | ⟨y0, yt⟩ <;> rcases ns with _ | ⟨n0, nt⟩
  all_goals
    all_goals (conv => whnf)
  · refine lpX (X := Nat × List Ob) (fun y => [(1, .ptr 0 []), (2, .ptr 1 []), (3, .ptr 2 []), (4, iD y.1)]) (fun y => y.2) (fun y => (y.1 = 0 ∧ y.2 = [.var (prfI L), .var (.agg [.nils]), .var (.agg [.nils])]) ∨ (0 < y.1 ∧ y.1 ≤ i ∧ y.2 = [.var (prfI L), .var (.agg [.nils]), .var (.agg [.sl 3 0 y.1]), .row (.agg [.leaf, .leaf]) (lvlsL (L.take y.1))]) ∨ (i < y.1 ∧ y.1 ≤ L.length ∧ y.2 = [.var (prfI L), .var (.agg [.nils]), .var (.agg [.sl 3 0 y.1]), .row (.agg [.leaf, .leaf]) (cpL L i y.1 (keepD [] []))])) (fun y => L.length - y.1) ⟨_, nx0 (0, [.var (prfI L), .var (.agg [.nils]), .var (.agg [.nils])]) (by repeat (first | exact trivial | refine se0 rfl ?_)) rfl (Nat.lt_succ_self _) (.inl ⟨rfl, rfl⟩)⟩ ?_
    rintro ⟨k, H⟩ hP
    dsimp only at hP ⊢
    have hcase : (k = 0 ∧ H = [.var (prfI L), .var (.agg [.nils]), .var (.agg [.nils])]) ∨ (0 < k ∧ k ≤ i ∧ H = [.var (prfI L), .var (.agg [.nils]), .var (.agg [.sl 3 0 k]), .row (.agg [.leaf, .leaf]) (lvlsL (L.take k))]) ∨ (i < k ∧ k ≤ L.length ∧ H = [.var (prfI L), .var (.agg [.nils]), .var (.agg [.sl 3 0 k]), .row (.agg [.leaf, .leaf]) (cpL L i k (keepD [] []))]) := hP
    clear hP
    rcases Nat.lt_or_ge k L.length with hkL | hkL
    · obtain ⟨⟨cy, cn⟩, hl⟩ : ∃ l, L[k]? = some l := ⟨L[k], List.getElem?_eq_getElem hkL⟩
      have hlb := hb _ (List.mem_of_getElem? hl)
      dsimp only at hlb
      have hcl0 := rchL_len cy
      have hcl1 := unsL_len cn
      rcases hcase with ⟨hk, rfl⟩ | ⟨hk, hk2, rfl⟩ | ⟨hk, hk2, rfl⟩
      all_goals
        rcases cy with _ | ⟨c0, ct⟩ <;> rcases cn with _ | ⟨d0, dt⟩
        all_goals
          simp only [List.length_cons, List.length_nil] at hlb hcl0 hcl1
          have hl2 := toN hl
          try have hcp := cpL_len (d := keepD [] []) hk2 hk
          repeat' (
           conv => whnf
           first
           | refine ifd (fun h => ?_) (fun h => ?_)
           | with_reducible refine ivW (by omega) (by omega) ?_
           | ((with_reducible refine exLv hl2 ?_))
           | ((with_reducible apply drT 18); rfl)
           | ((with_reducible apply orR); ((first | rfl | assumption | omega | (unfold maxLen2; omega) | (dsimp only; omega) | (simp only [LN]; omega) | (simp; done) | (simp; omega))); ((first | rfl | assumption | omega | (unfold maxLen2; omega) | (dsimp only; omega) | (simp only [LN]; omega) | (simp; done) | (simp; omega))))
           | ((with_reducible apply orL); ((first | rfl | assumption | omega | (unfold maxLen2; omega) | (dsimp only; omega) | (simp only [LN]; omega) | (simp; done) | (simp; omega))))
           | ((with_reducible apply ob); ((first | rfl | assumption | omega | (unfold maxLen2; omega) | (dsimp only; omega) | (simp only [LN]; omega) | (simp; done) | (simp; omega)))))
          all_goals (conv => whnf)
          all_goals (first | (exfalso; omega) | skip)
      · subst hk
        by_cases hki : 0 = i
        · subst hki
          rw [hl] at hi
          cases hi
          exact nx (X := Nat × List Ob) (0 + 1, [.var (prfI L), .var (.agg [.nils]), .var (.agg [.sl 3 0 (0 + 1)]), .row (.agg [.leaf, .leaf]) (cpL L 0 (0 + 1) (keepD [] []))]) [0, 1, 2, 5] (by repeat (first | exact trivial | refine seC rfl rfl ?_ | refine seL (leRow rfl rfl) rfl ?_)) (shC rfl rfl (shC rfl rfl (shC rfl rfl (shK rfl (by rw [cpL_at]; rfl) rfl rfl trivial)))) rfl rfl (by dsimp only; omega) (.inr (.inr ⟨by dsimp only; omega, by dsimp only; omega, rfl⟩))
        · exact nxF (X := Nat × List Ob) (0 + 1, [.var (prfI L), .var (.agg [.nils]), .var (.agg [.sl 3 0 (0 + 1)]), .row (.agg [.leaf, .leaf]) (lvlsL (L.take (0 + 1)))]) [0, 1, 2, 5] (frzRow 5 (lvlsL (L.take 0) ++ [.agg [.list true (.agg [.leaf, .leaf]) [], .list true (.agg [.leaf, .agg [.leaf]]) []]]) (lvlsL (L.take 0) ++ [lvlI ([], [])]) rfl rfl (leDs_app (ler _ _) (.cons _ _ _ _ (leLvl (.full true _ _) (.full true _ _) rfl rfl) .nil)) (by rw [shapes_app, shapes_app]; rfl) (okDs_app (ok_lvls _) rfl) (.refl _)) (by repeat (first | exact trivial | refine seC rfl rfl ?_ | refine seL (leRow rfl rfl) rfl ?_)) (shC rfl rfl (shC rfl rfl (shC rfl rfl (shR rfl (lvls_snoc hl).symm (cl_lvls _) trivial)))) rfl rfl (by dsimp only; omega) (.inr (.inl ⟨by dsimp only; omega, by dsimp only; omega, rfl⟩))
      · subst hk
        by_cases hki : 0 = i
        · rw [hki, hi] at hl; cases hl
        · exact nxF (X := Nat × List Ob) (0 + 1, [.var (prfI L), .var (.agg [.nils]), .var (.agg [.sl 3 0 (0 + 1)]), .row (.agg [.leaf, .leaf]) (lvlsL (L.take (0 + 1)))]) [0, 1, 2, 6] (.step 3 (.agg [.leaf, .agg [.leaf]]) (unsL (d0 :: dt)) rfl (cl_uns _) (frzRow 6 (lvlsL (L.take 0) ++ [.agg [.list true (.agg [.leaf, .leaf]) [], .sl 3 0 (0 + (unsL (d0 :: dt)).length)]]) (lvlsL (L.take 0) ++ [lvlI ([], (d0 :: dt))]) rfl rfl (leDs_app (ler _ _) (.cons _ _ _ _ (leLvl (.full true _ _) (leRow (ds := unsL (d0 :: dt)) rfl (Nat.zero_add _).symm) rfl rfl) .nil)) (by rw [shapes_app, shapes_app]; rfl) (okDs_app (ok_lvls _) rfl) (.refl _))) (by repeat (first | exact trivial | refine seC rfl rfl ?_ | refine seL (leRow rfl rfl) rfl ?_)) (shC rfl rfl (shC rfl rfl (shC rfl rfl (shR rfl (lvls_snoc hl).symm (cl_lvls _) trivial)))) rfl rfl (by dsimp only; omega) (.inr (.inl ⟨by dsimp only; omega, by dsimp only; omega, rfl⟩))
      · subst hk
        by_cases hki : 0 = i
        · rw [hki, hi] at hl; cases hl
        · exact nxF (X := Nat × List Ob) (0 + 1, [.var (prfI L), .var (.agg [.nils]), .var (.agg [.sl 3 0 (0 + 1)]), .row (.agg [.leaf, .leaf]) (lvlsL (L.take (0 + 1)))]) [0, 1, 2, 6] (.step 3 (.agg [.leaf, .leaf]) (rchL (c0 :: ct)) rfl (cl_rch _) (frzRow 6 (lvlsL (L.take 0) ++ [.agg [.sl 3 0 (0 + (rchL (c0 :: ct)).length), .list true (.agg [.leaf, .agg [.leaf]]) []]]) (lvlsL (L.take 0) ++ [lvlI ((c0 :: ct), [])]) rfl rfl (leDs_app (ler _ _) (.cons _ _ _ _ (leLvl (leRow (ds := rchL (c0 :: ct)) rfl (Nat.zero_add _).symm) (.full true _ _) rfl rfl) .nil)) (by rw [shapes_app, shapes_app]; rfl) (okDs_app (ok_lvls _) rfl) (.refl _))) (by repeat (first | exact trivial | refine seC rfl rfl ?_ | refine seL (leRow rfl rfl) rfl ?_)) (shC rfl rfl (shC rfl rfl (shC rfl rfl (shR rfl (lvls_snoc hl).symm (cl_lvls _) trivial)))) rfl rfl (by dsimp only; omega) (.inr (.inl ⟨by dsimp only; omega, by dsimp only; omega, rfl⟩))
      · subst hk
        by_cases hki : 0 = i
        · rw [hki, hi] at hl; cases hl
        · exact nxF (X := Nat × List Ob) (0 + 1, [.var (prfI L), .var (.agg [.nils]), .var (.agg [.sl 3 0 (0 + 1)]), .row (.agg [.leaf, .leaf]) (lvlsL (L.take (0 + 1)))]) [0, 1, 2, 7] (.step 3 (.agg [.leaf, .leaf]) (rchL (c0 :: ct)) rfl (cl_rch _) (.step 4 (.agg [.leaf, .agg [.leaf]]) (unsL (d0 :: dt)) rfl (cl_uns _) (frzRow 7 (lvlsL (L.take 0) ++ [.agg [.sl 3 0 (0 + (rchL (c0 :: ct)).length), .sl 4 0 (0 + (unsL (d0 :: dt)).length)]]) (lvlsL (L.take 0) ++ [lvlI ((c0 :: ct), (d0 :: dt))]) rfl rfl (leDs_app (ler _ _) (.cons _ _ _ _ (leLvl (leRow (ds := rchL (c0 :: ct)) rfl (Nat.zero_add _).symm) (leRow (ds := unsL (d0 :: dt)) rfl (Nat.zero_add _).symm) rfl rfl) .nil)) (by rw [shapes_app, shapes_app]; rfl) (okDs_app (ok_lvls _) rfl) (.refl _)))) (by repeat (first | exact trivial | refine seC rfl rfl ?_ | refine seL (leRow rfl rfl) rfl ?_)) (shC rfl rfl (shC rfl rfl (shC rfl rfl (shR rfl (lvls_snoc hl).symm (cl_lvls _) trivial)))) rfl rfl (by dsimp only; omega) (.inr (.inl ⟨by dsimp only; omega, by dsimp only; omega, rfl⟩))
      · by_cases hki : k = i
        · subst hki
          rw [hl] at hi
          cases hi
          exact nx (X := Nat × List Ob) (k + 1, [.var (prfI L), .var (.agg [.nils]), .var (.agg [.sl 3 0 (k + 1)]), .row (.agg [.leaf, .leaf]) (cpL L k (k + 1) (keepD [] []))]) [0, 1, 2, 6] (by repeat (first | exact trivial | refine seC rfl rfl ?_ | refine seL (leRow rfl rfl) rfl ?_)) (shC rfl rfl (shC rfl rfl (shC rfl rfl (shK rfl (by rw [cpL_at]; show List.take k (List.drop 0 (lvlsL (L.take k))) ++ [_] = _ ++ [_]; rw [List.drop_zero, List.take_of_length_le (by simp; omega)]; rfl) rfl rfl trivial)))) rfl rfl (by dsimp only; omega) (.inr (.inr ⟨by dsimp only; omega, by dsimp only; omega, rfl⟩))
        · exact nxF (X := Nat × List Ob) (k + 1, [.var (prfI L), .var (.agg [.nils]), .var (.agg [.sl 3 0 (k + 1)]), .row (.agg [.leaf, .leaf]) (lvlsL (L.take (k + 1)))]) [0, 1, 2, 6] (frzRow 6 (lvlsL (L.take k) ++ [.agg [.list true (.agg [.leaf, .leaf]) [], .list true (.agg [.leaf, .agg [.leaf]]) []]]) (lvlsL (L.take k) ++ [lvlI ([], [])]) rfl (by show List.take k (List.drop 0 (lvlsL (L.take k))) ++ [_] = lvlsL (L.take k) ++ [_]; rw [List.drop_zero, List.take_of_length_le (by simp; omega)]; rfl) (leDs_app (ler _ _) (.cons _ _ _ _ (leLvl (.full true _ _) (.full true _ _) rfl rfl) .nil)) (by rw [shapes_app, shapes_app]; rfl) (okDs_app (ok_lvls _) rfl) (.refl _)) (by repeat (first | exact trivial | refine seC rfl rfl ?_ | refine seL (leRow rfl rfl) rfl ?_)) (shC rfl rfl (shC rfl rfl (shC rfl rfl (shR rfl (lvls_snoc hl).symm (cl_lvls _) trivial)))) rfl rfl (by dsimp only; omega) (.inr (.inl ⟨by dsimp only; omega, by dsimp only; omega, rfl⟩))
      · by_cases hki : k = i
        · rw [hki, hi] at hl; cases hl
        · exact nxF (X := Nat × List Ob) (k + 1, [.var (prfI L), .var (.agg [.nils]), .var (.agg [.sl 3 0 (k + 1)]), .row (.agg [.leaf, .leaf]) (lvlsL (L.take (k + 1)))]) [0, 1, 2, 7] (.step 4 (.agg [.leaf, .agg [.leaf]]) (unsL (d0 :: dt)) rfl (cl_uns _) (frzRow 7 (lvlsL (L.take k) ++ [.agg [.list true (.agg [.leaf, .leaf]) [], .sl 4 0 (0 + (unsL (d0 :: dt)).length)]]) (lvlsL (L.take k) ++ [lvlI ([], (d0 :: dt))]) rfl (by show List.take k (List.drop 0 (lvlsL (L.take k))) ++ [_] = lvlsL (L.take k) ++ [_]; rw [List.drop_zero, List.take_of_length_le (by simp; omega)]; rfl) (leDs_app (ler _ _) (.cons _ _ _ _ (leLvl (.full true _ _) (leRow (ds := unsL (d0 :: dt)) rfl (Nat.zero_add _).symm) rfl rfl) .nil)) (by rw [shapes_app, shapes_app]; rfl) (okDs_app (ok_lvls _) rfl) (.refl _))) (by repeat (first | exact trivial | refine seC rfl rfl ?_ | refine seL (leRow rfl rfl) rfl ?_)) (shC rfl rfl (shC rfl rfl (shC rfl rfl (shR rfl (lvls_snoc hl).symm (cl_lvls _) trivial)))) rfl rfl (by dsimp only; omega) (.inr (.inl ⟨by dsimp only; omega, by dsimp only; omega, rfl⟩))
      · by_cases hki : k = i
        · rw [hki, hi] at hl; cases hl
        · exact nxF (X := Nat × List Ob) (k + 1, [.var (prfI L), .var (.agg [.nils]), .var (.agg [.sl 3 0 (k + 1)]), .row (.agg [.leaf, .leaf]) (lvlsL (L.take (k + 1)))]) [0, 1, 2, 7] (.step 4 (.agg [.leaf, .leaf]) (rchL (c0 :: ct)) rfl (cl_rch _) (frzRow 7 (lvlsL (L.take k) ++ [.agg [.sl 4 0 (0 + (rchL (c0 :: ct)).length), .list true (.agg [.leaf, .agg [.leaf]]) []]]) (lvlsL (L.take k) ++ [lvlI ((c0 :: ct), [])]) rfl (by show List.take k (List.drop 0 (lvlsL (L.take k))) ++ [_] = lvlsL (L.take k) ++ [_]; rw [List.drop_zero, List.take_of_length_le (by simp; omega)]; rfl) (leDs_app (ler _ _) (.cons _ _ _ _ (leLvl (leRow (ds := rchL (c0 :: ct)) rfl (Nat.zero_add _).symm) (.full true _ _) rfl rfl) .nil)) (by rw [shapes_app, shapes_app]; rfl) (okDs_app (ok_lvls _) rfl) (.refl _))) (by repeat (first | exact trivial | refine seC rfl rfl ?_ | refine seL (leRow rfl rfl) rfl ?_)) (shC rfl rfl (shC rfl rfl (shC rfl rfl (shR rfl (lvls_snoc hl).symm (cl_lvls _) trivial)))) rfl rfl (by dsimp only; omega) (.inr (.inl ⟨by dsimp only; omega, by dsimp only; omega, rfl⟩))
      · by_cases hki : k = i
        · rw [hki, hi] at hl; cases hl
        · exact nxF (X := Nat × List Ob) (k + 1, [.var (prfI L), .var (.agg [.nils]), .var (.agg [.sl 3 0 (k + 1)]), .row (.agg [.leaf, .leaf]) (lvlsL (L.take (k + 1)))]) [0, 1, 2, 8] (.step 4 (.agg [.leaf, .leaf]) (rchL (c0 :: ct)) rfl (cl_rch _) (.step 5 (.agg [.leaf, .agg [.leaf]]) (unsL (d0 :: dt)) rfl (cl_uns _) (frzRow 8 (lvlsL (L.take k) ++ [.agg [.sl 4 0 (0 + (rchL (c0 :: ct)).length), .sl 5 0 (0 + (unsL (d0 :: dt)).length)]]) (lvlsL (L.take k) ++ [lvlI ((c0 :: ct), (d0 :: dt))]) rfl (by show List.take k (List.drop 0 (lvlsL (L.take k))) ++ [_] = lvlsL (L.take k) ++ [_]; rw [List.drop_zero, List.take_of_length_le (by simp; omega)]; rfl) (leDs_app (ler _ _) (.cons _ _ _ _ (leLvl (leRow (ds := rchL (c0 :: ct)) rfl (Nat.zero_add _).symm) (leRow (ds := unsL (d0 :: dt)) rfl (Nat.zero_add _).symm) rfl rfl) .nil)) (by rw [shapes_app, shapes_app]; rfl) (okDs_app (ok_lvls _) rfl) (.refl _)))) (by repeat (first | exact trivial | refine seC rfl rfl ?_ | refine seL (leRow rfl rfl) rfl ?_)) (shC rfl rfl (shC rfl rfl (shC rfl rfl (shR rfl (lvls_snoc hl).symm (cl_lvls _) trivial)))) rfl rfl (by dsimp only; omega) (.inr (.inl ⟨by dsimp only; omega, by dsimp only; omega, rfl⟩))
      · exact nxF (X := Nat × List Ob) (k + 1, [.var (prfI L), .var (.agg [.nils]), .var (.agg [.sl 3 0 (k + 1)]), .row (.agg [.leaf, .leaf]) (cpL L i (k + 1) (keepD [] []))]) [0, 1, 2, 6] (frzRow 6 (cpL L i k (keepD [] []) ++ [.agg [.list true (.agg [.leaf, .leaf]) [], .list true (.agg [.leaf, .agg [.leaf]]) []]]) (cpL L i k (keepD [] []) ++ [lvlI ([], [])]) rfl (by show List.take k (List.drop 0 (cpL L i k (keepD [] []))) ++ [_] = cpL L i k (keepD [] []) ++ [_]; rw [List.drop_zero, List.take_of_length_le (by omega)]; rfl) (leDs_app (ler _ _) (.cons _ _ _ _ (leLvl (.full true _ _) (.full true _ _) rfl rfl) .nil)) (by rw [shapes_app, shapes_app]; rfl) (okDs_app (okDs_app (ok_lvls _) (okDs_mk rfl (ok_lvls _))) rfl) (.refl _)) (by repeat (first | exact trivial | refine seC rfl rfl ?_ | refine seL (leRow rfl rfl) rfl ?_)) (shC rfl rfl (shC rfl rfl (shC rfl rfl (shK rfl (cpL_snoc hl hk).symm rfl rfl trivial)))) rfl rfl (by dsimp only; omega) (.inr (.inr ⟨by dsimp only; omega, by dsimp only; omega, rfl⟩))
      · exact nxF (X := Nat × List Ob) (k + 1, [.var (prfI L), .var (.agg [.nils]), .var (.agg [.sl 3 0 (k + 1)]), .row (.agg [.leaf, .leaf]) (cpL L i (k + 1) (keepD [] []))]) [0, 1, 2, 7] (.step 4 (.agg [.leaf, .agg [.leaf]]) (unsL (d0 :: dt)) rfl (cl_uns _) (frzRow 7 (cpL L i k (keepD [] []) ++ [.agg [.list true (.agg [.leaf, .leaf]) [], .sl 4 0 (0 + (unsL (d0 :: dt)).length)]]) (cpL L i k (keepD [] []) ++ [lvlI ([], (d0 :: dt))]) rfl (by show List.take k (List.drop 0 (cpL L i k (keepD [] []))) ++ [_] = cpL L i k (keepD [] []) ++ [_]; rw [List.drop_zero, List.take_of_length_le (by omega)]; rfl) (leDs_app (ler _ _) (.cons _ _ _ _ (leLvl (.full true _ _) (leRow (ds := unsL (d0 :: dt)) rfl (Nat.zero_add _).symm) rfl rfl) .nil)) (by rw [shapes_app, shapes_app]; rfl) (okDs_app (okDs_app (ok_lvls _) (okDs_mk rfl (ok_lvls _))) rfl) (.refl _))) (by repeat (first | exact trivial | refine seC rfl rfl ?_ | refine seL (leRow rfl rfl) rfl ?_)) (shC rfl rfl (shC rfl rfl (shC rfl rfl (shK rfl (cpL_snoc hl hk).symm rfl rfl trivial)))) rfl rfl (by dsimp only; omega) (.inr (.inr ⟨by dsimp only; omega, by dsimp only; omega, rfl⟩))
      · exact nxF (X := Nat × List Ob) (k + 1, [.var (prfI L), .var (.agg [.nils]), .var (.agg [.sl 3 0 (k + 1)]), .row (.agg [.leaf, .leaf]) (cpL L i (k + 1) (keepD [] []))]) [0, 1, 2, 7] (.step 4 (.agg [.leaf, .leaf]) (rchL (c0 :: ct)) rfl (cl_rch _) (frzRow 7 (cpL L i k (keepD [] []) ++ [.agg [.sl 4 0 (0 + (rchL (c0 :: ct)).length), .list true (.agg [.leaf, .agg [.leaf]]) []]]) (cpL L i k (keepD [] []) ++ [lvlI ((c0 :: ct), [])]) rfl (by show List.take k (List.drop 0 (cpL L i k (keepD [] []))) ++ [_] = cpL L i k (keepD [] []) ++ [_]; rw [List.drop_zero, List.take_of_length_le (by omega)]; rfl) (leDs_app (ler _ _) (.cons _ _ _ _ (leLvl (leRow (ds := rchL (c0 :: ct)) rfl (Nat.zero_add _).symm) (.full true _ _) rfl rfl) .nil)) (by rw [shapes_app, shapes_app]; rfl) (okDs_app (okDs_app (ok_lvls _) (okDs_mk rfl (ok_lvls _))) rfl) (.refl _))) (by repeat (first | exact trivial | refine seC rfl rfl ?_ | refine seL (leRow rfl rfl) rfl ?_)) (shC rfl rfl (shC rfl rfl (shC rfl rfl (shK rfl (cpL_snoc hl hk).symm rfl rfl trivial)))) rfl rfl (by dsimp only; omega) (.inr (.inr ⟨by dsimp only; omega, by dsimp only; omega, rfl⟩))
      · exact nxF (X := Nat × List Ob) (k + 1, [.var (prfI L), .var (.agg [.nils]), .var (.agg [.sl 3 0 (k + 1)]), .row (.agg [.leaf, .leaf]) (cpL L i (k + 1) (keepD [] []))]) [0, 1, 2, 8] (.step 4 (.agg [.leaf, .leaf]) (rchL (c0 :: ct)) rfl (cl_rch _) (.step 5 (.agg [.leaf, .agg [.leaf]]) (unsL (d0 :: dt)) rfl (cl_uns _) (frzRow 8 (cpL L i k (keepD [] []) ++ [.agg [.sl 4 0 (0 + (rchL (c0 :: ct)).length), .sl 5 0 (0 + (unsL (d0 :: dt)).length)]]) (cpL L i k (keepD [] []) ++ [lvlI ((c0 :: ct), (d0 :: dt))]) rfl (by show List.take k (List.drop 0 (cpL L i k (keepD [] []))) ++ [_] = cpL L i k (keepD [] []) ++ [_]; rw [List.drop_zero, List.take_of_length_le (by omega)]; rfl) (leDs_app (ler _ _) (.cons _ _ _ _ (leLvl (leRow (ds := rchL (c0 :: ct)) rfl (Nat.zero_add _).symm) (leRow (ds := unsL (d0 :: dt)) rfl (Nat.zero_add _).symm) rfl rfl) .nil)) (by rw [shapes_app, shapes_app]; rfl) (okDs_app (okDs_app (ok_lvls _) (okDs_mk rfl (ok_lvls _))) rfl) (.refl _)))) (by repeat (first | exact trivial | refine seC rfl rfl ?_ | refine seL (leRow rfl rfl) rfl ?_)) (shC rfl rfl (shC rfl rfl (shC rfl rfl (shK rfl (cpL_snoc hl hk).symm rfl rfl trivial)))) rfl rfl (by dsimp only; omega) (.inr (.inr ⟨by dsimp only; omega, by dsimp only; omega, rfl⟩))
    · rcases hcase with ⟨hk, rfl⟩ | ⟨hk, hk2, rfl⟩ | ⟨hk, hk2, rfl⟩
      · exfalso; omega
      · exfalso; omega
      · have hkn : k = L.length := by omega
        subst hkn
        repeat' (
         conv => whnf
         first
         | refine ifd (fun h => ?_) (fun h => ?_)
         | ((with_reducible apply drT 18); rfl)
         | ((with_reducible apply ob); ((first | rfl | assumption | omega | (unfold maxLen2; omega) | (dsimp only; omega) | (simp only [LN]; omega) | (simp; done) | (simp; omega)))))
        all_goals (conv => whnf)
        all_goals (first | (exfalso; omega) | skip)
        exact fin_in ⟨rfl, rfl⟩
  · refine lpX (X := Nat × List Ob) (fun y => [(1, .ptr 0 []), (2, .ptr 1 []), (3, .ptr 2 []), (4, iD y.1)]) (fun y => y.2) (fun y => (y.1 = 0 ∧ y.2 = [.var (prfI L), .var (.agg [.nils]), .var (.agg [.nils])]) ∨ (0 < y.1 ∧ y.1 ≤ i ∧ y.2 = [.var (prfI L), .var (.agg [.nils]), .var (.agg [.sl 3 0 y.1]), .row (.agg [.leaf, .leaf]) (lvlsL (L.take y.1))]) ∨ (i < y.1 ∧ y.1 ≤ L.length ∧ y.2 = [.var (prfI L), .var (.agg [.nils]), .var (.agg [.sl 3 0 y.1]), .row (.agg [.leaf, .leaf]) (cpL L i y.1 (keepD [] (n0 :: nt))), .row (.agg [.leaf, .agg [.leaf]]) (unsL (n0 :: nt))])) (fun y => L.length - y.1) ⟨_, nx0 (0, [.var (prfI L), .var (.agg [.nils]), .var (.agg [.nils])]) (by repeat (first | exact trivial | refine se0 rfl ?_)) rfl (Nat.lt_succ_self _) (.inl ⟨rfl, rfl⟩)⟩ ?_
    rintro ⟨k, H⟩ hP
    dsimp only at hP ⊢
    have hcase : (k = 0 ∧ H = [.var (prfI L), .var (.agg [.nils]), .var (.agg [.nils])]) ∨ (0 < k ∧ k ≤ i ∧ H = [.var (prfI L), .var (.agg [.nils]), .var (.agg [.sl 3 0 k]), .row (.agg [.leaf, .leaf]) (lvlsL (L.take k))]) ∨ (i < k ∧ k ≤ L.length ∧ H = [.var (prfI L), .var (.agg [.nils]), .var (.agg [.sl 3 0 k]), .row (.agg [.leaf, .leaf]) (cpL L i k (keepD [] (n0 :: nt))), .row (.agg [.leaf, .agg [.leaf]]) (unsL (n0 :: nt))]) := hP
    clear hP
    rcases Nat.lt_or_ge k L.length with hkL | hkL
    · obtain ⟨⟨cy, cn⟩, hl⟩ : ∃ l, L[k]? = some l := ⟨L[k], List.getElem?_eq_getElem hkL⟩
      have hlb := hb _ (List.mem_of_getElem? hl)
      dsimp only at hlb
      have hcl0 := rchL_len cy
      have hcl1 := unsL_len cn
      rcases hcase with ⟨hk, rfl⟩ | ⟨hk, hk2, rfl⟩ | ⟨hk, hk2, rfl⟩
      all_goals
        rcases cy with _ | ⟨c0, ct⟩ <;> rcases cn with _ | ⟨d0, dt⟩
        all_goals
          simp only [List.length_cons, List.length_nil] at hlb hcl0 hcl1
          have hl2 := toN hl
          try have hcp := cpL_len (d := keepD [] (n0 :: nt)) hk2 hk
          repeat' (
           conv => whnf
           first
           | refine ifd (fun h => ?_) (fun h => ?_)
           | with_reducible refine ivW (by omega) (by omega) ?_
           | ((with_reducible refine exLv hl2 ?_))
           | ((with_reducible apply drT 18); rfl)
           | ((with_reducible apply orR); ((first | rfl | assumption | omega | (unfold maxLen2; omega) | (dsimp only; omega) | (simp only [LN]; omega) | (simp; done) | (simp; omega))); ((first | rfl | assumption | omega | (unfold maxLen2; omega) | (dsimp only; omega) | (simp only [LN]; omega) | (simp; done) | (simp; omega))))
           | ((with_reducible apply orL); ((first | rfl | assumption | omega | (unfold maxLen2; omega) | (dsimp only; omega) | (simp only [LN]; omega) | (simp; done) | (simp; omega))))
           | ((with_reducible apply ob); ((first | rfl | assumption | omega | (unfold maxLen2; omega) | (dsimp only; omega) | (simp only [LN]; omega) | (simp; done) | (simp; omega)))))
          all_goals (conv => whnf)
          all_goals (first | (exfalso; omega) | skip)
      · subst hk
        by_cases hki : 0 = i
        · rw [hki, hi] at hl; cases hl
        · exact nxF (X := Nat × List Ob) (0 + 1, [.var (prfI L), .var (.agg [.nils]), .var (.agg [.sl 3 0 (0 + 1)]), .row (.agg [.leaf, .leaf]) (lvlsL (L.take (0 + 1)))]) [0, 1, 2, 5] (frzRow 5 (lvlsL (L.take 0) ++ [.agg [.list true (.agg [.leaf, .leaf]) [], .list true (.agg [.leaf, .agg [.leaf]]) []]]) (lvlsL (L.take 0) ++ [lvlI ([], [])]) rfl rfl (leDs_app (ler _ _) (.cons _ _ _ _ (leLvl (.full true _ _) (.full true _ _) rfl rfl) .nil)) (by rw [shapes_app, shapes_app]; rfl) (okDs_app (ok_lvls _) rfl) (.refl _)) (by repeat (first | exact trivial | refine seC rfl rfl ?_ | refine seL (leRow rfl rfl) rfl ?_)) (shC rfl rfl (shC rfl rfl (shC rfl rfl (shR rfl (lvls_snoc hl).symm (cl_lvls _) trivial)))) rfl rfl (by dsimp only; omega) (.inr (.inl ⟨by dsimp only; omega, by dsimp only; omega, rfl⟩))
      · subst hk
        by_cases hki : 0 = i
        · subst hki
          rw [hl] at hi
          cases hi
          exact nx (X := Nat × List Ob) (0 + 1, [.var (prfI L), .var (.agg [.nils]), .var (.agg [.sl 3 0 (0 + 1)]), .row (.agg [.leaf, .leaf]) (cpL L 0 (0 + 1) (keepD [] (n0 :: nt))), .row (.agg [.leaf, .agg [.leaf]]) (unsL (n0 :: nt))]) [0, 1, 2, 6, 3] (by repeat (first | exact trivial | refine seC rfl rfl ?_ | refine seL (leRow rfl rfl) rfl ?_)) (shC rfl rfl (shC rfl rfl (shC rfl rfl (shK rfl (by rw [cpL_at]; rfl) rfl rfl (shR rfl rfl (cl_uns _) trivial))))) rfl rfl (by dsimp only; omega) (.inr (.inr ⟨by dsimp only; omega, by dsimp only; omega, rfl⟩))
        · exact nxF (X := Nat × List Ob) (0 + 1, [.var (prfI L), .var (.agg [.nils]), .var (.agg [.sl 3 0 (0 + 1)]), .row (.agg [.leaf, .leaf]) (lvlsL (L.take (0 + 1)))]) [0, 1, 2, 6] (.step 3 (.agg [.leaf, .agg [.leaf]]) (unsL (d0 :: dt)) rfl (cl_uns _) (frzRow 6 (lvlsL (L.take 0) ++ [.agg [.list true (.agg [.leaf, .leaf]) [], .sl 3 0 (0 + (unsL (d0 :: dt)).length)]]) (lvlsL (L.take 0) ++ [lvlI ([], (d0 :: dt))]) rfl rfl (leDs_app (ler _ _) (.cons _ _ _ _ (leLvl (.full true _ _) (leRow (ds := unsL (d0 :: dt)) rfl (Nat.zero_add _).symm) rfl rfl) .nil)) (by rw [shapes_app, shapes_app]; rfl) (okDs_app (ok_lvls _) rfl) (.refl _))) (by repeat (first | exact trivial | refine seC rfl rfl ?_ | refine seL (leRow rfl rfl) rfl ?_)) (shC rfl rfl (shC rfl rfl (shC rfl rfl (shR rfl (lvls_snoc hl).symm (cl_lvls _) trivial)))) rfl rfl (by dsimp only; omega) (.inr (.inl ⟨by dsimp only; omega, by dsimp only; omega, rfl⟩))
      · subst hk
        by_cases hki : 0 = i
        · rw [hki, hi] at hl; cases hl
        · exact nxF (X := Nat × List Ob) (0 + 1, [.var (prfI L), .var (.agg [.nils]), .var (.agg [.sl 3 0 (0 + 1)]), .row (.agg [.leaf, .leaf]) (lvlsL (L.take (0 + 1)))]) [0, 1, 2, 6] (.step 3 (.agg [.leaf, .leaf]) (rchL (c0 :: ct)) rfl (cl_rch _) (frzRow 6 (lvlsL (L.take 0) ++ [.agg [.sl 3 0 (0 + (rchL (c0 :: ct)).length), .list true (.agg [.leaf, .agg [.leaf]]) []]]) (lvlsL (L.take 0) ++ [lvlI ((c0 :: ct), [])]) rfl rfl (leDs_app (ler _ _) (.cons _ _ _ _ (leLvl (leRow (ds := rchL (c0 :: ct)) rfl (Nat.zero_add _).symm) (.full true _ _) rfl rfl) .nil)) (by rw [shapes_app, shapes_app]; rfl) (okDs_app (ok_lvls _) rfl) (.refl _))) (by repeat (first | exact trivial | refine seC rfl rfl ?_ | refine seL (leRow rfl rfl) rfl ?_)) (shC rfl rfl (shC rfl rfl (shC rfl rfl (shR rfl (lvls_snoc hl).symm (cl_lvls _) trivial)))) rfl rfl (by dsimp only; omega) (.inr (.inl ⟨by dsimp only; omega, by dsimp only; omega, rfl⟩))
      · subst hk
        by_cases hki : 0 = i
        · rw [hki, hi] at hl; cases hl
        · exact nxF (X := Nat × List Ob) (0 + 1, [.var (prfI L), .var (.agg [.nils]), .var (.agg [.sl 3 0 (0 + 1)]), .row (.agg [.leaf, .leaf]) (lvlsL (L.take (0 + 1)))]) [0, 1, 2, 7] (.step 3 (.agg [.leaf, .leaf]) (rchL (c0 :: ct)) rfl (cl_rch _) (.step 4 (.agg [.leaf, .agg [.leaf]]) (unsL (d0 :: dt)) rfl (cl_uns _) (frzRow 7 (lvlsL (L.take 0) ++ [.agg [.sl 3 0 (0 + (rchL (c0 :: ct)).length), .sl 4 0 (0 + (unsL (d0 :: dt)).length)]]) (lvlsL (L.take 0) ++ [lvlI ((c0 :: ct), (d0 :: dt))]) rfl rfl (leDs_app (ler _ _) (.cons _ _ _ _ (leLvl (leRow (ds := rchL (c0 :: ct)) rfl (Nat.zero_add _).symm) (leRow (ds := unsL (d0 :: dt)) rfl (Nat.zero_add _).symm) rfl rfl) .nil)) (by rw [shapes_app, shapes_app]; rfl) (okDs_app (ok_lvls _) rfl) (.refl _)))) (by repeat (first | exact trivial | refine seC rfl rfl ?_ | refine seL (leRow rfl rfl) rfl ?_)) (shC rfl rfl (shC rfl rfl (shC rfl rfl (shR rfl (lvls_snoc hl).symm (cl_lvls _) trivial)))) rfl rfl (by dsimp only; omega) (.inr (.inl ⟨by dsimp only; omega, by dsimp only; omega, rfl⟩))
      · by_cases hki : k = i
        · rw [hki, hi] at hl; cases hl
        · exact nxF (X := Nat × List Ob) (k + 1, [.var (prfI L), .var (.agg [.nils]), .var (.agg [.sl 3 0 (k + 1)]), .row (.agg [.leaf, .leaf]) (lvlsL (L.take (k + 1)))]) [0, 1, 2, 6] (frzRow 6 (lvlsL (L.take k) ++ [.agg [.list true (.agg [.leaf, .leaf]) [], .list true (.agg [.leaf, .agg [.leaf]]) []]]) (lvlsL (L.take k) ++ [lvlI ([], [])]) rfl (by show List.take k (List.drop 0 (lvlsL (L.take k))) ++ [_] = lvlsL (L.take k) ++ [_]; rw [List.drop_zero, List.take_of_length_le (by simp; omega)]; rfl) (leDs_app (ler _ _) (.cons _ _ _ _ (leLvl (.full true _ _) (.full true _ _) rfl rfl) .nil)) (by rw [shapes_app, shapes_app]; rfl) (okDs_app (ok_lvls _) rfl) (.refl _)) (by repeat (first | exact trivial | refine seC rfl rfl ?_ | refine seL (leRow rfl rfl) rfl ?_)) (shC rfl rfl (shC rfl rfl (shC rfl rfl (shR rfl (lvls_snoc hl).symm (cl_lvls _) trivial)))) rfl rfl (by dsimp only; omega) (.inr (.inl ⟨by dsimp only; omega, by dsimp only; omega, rfl⟩))
      · by_cases hki : k = i
        · subst hki
          rw [hl] at hi
          cases hi
          exact nx (X := Nat × List Ob) (k + 1, [.var (prfI L), .var (.agg [.nils]), .var (.agg [.sl 3 0 (k + 1)]), .row (.agg [.leaf, .leaf]) (cpL L k (k + 1) (keepD [] (n0 :: nt))), .row (.agg [.leaf, .agg [.leaf]]) (unsL (n0 :: nt))]) [0, 1, 2, 7, 4] (by repeat (first | exact trivial | refine seC rfl rfl ?_ | refine seL (leRow rfl rfl) rfl ?_)) (shC rfl rfl (shC rfl rfl (shC rfl rfl (shK rfl (by rw [cpL_at]; show List.take k (List.drop 0 (lvlsL (L.take k))) ++ [_] = _ ++ [_]; rw [List.drop_zero, List.take_of_length_le (by simp; omega)]; rfl) rfl rfl (shR rfl rfl (cl_uns _) trivial))))) rfl rfl (by dsimp only; omega) (.inr (.inr ⟨by dsimp only; omega, by dsimp only; omega, rfl⟩))
        · exact nxF (X := Nat × List Ob) (k + 1, [.var (prfI L), .var (.agg [.nils]), .var (.agg [.sl 3 0 (k + 1)]), .row (.agg [.leaf, .leaf]) (lvlsL (L.take (k + 1)))]) [0, 1, 2, 7] (.step 4 (.agg [.leaf, .agg [.leaf]]) (unsL (d0 :: dt)) rfl (cl_uns _) (frzRow 7 (lvlsL (L.take k) ++ [.agg [.list true (.agg [.leaf, .leaf]) [], .sl 4 0 (0 + (unsL (d0 :: dt)).length)]]) (lvlsL (L.take k) ++ [lvlI ([], (d0 :: dt))]) rfl (by show List.take k (List.drop 0 (lvlsL (L.take k))) ++ [_] = lvlsL (L.take k) ++ [_]; rw [List.drop_zero, List.take_of_length_le (by simp; omega)]; rfl) (leDs_app (ler _ _) (.cons _ _ _ _ (leLvl (.full true _ _) (leRow (ds := unsL (d0 :: dt)) rfl (Nat.zero_add _).symm) rfl rfl) .nil)) (by rw [shapes_app, shapes_app]; rfl) (okDs_app (ok_lvls _) rfl) (.refl _))) (by repeat (first | exact trivial | refine seC rfl rfl ?_ | refine seL (leRow rfl rfl) rfl ?_)) (shC rfl rfl (shC rfl rfl (shC rfl rfl (shR rfl (lvls_snoc hl).symm (cl_lvls _) trivial)))) rfl rfl (by dsimp only; omega) (.inr (.inl ⟨by dsimp only; omega, by dsimp only; omega, rfl⟩))
      · by_cases hki : k = i
        · rw [hki, hi] at hl; cases hl
        · exact nxF (X := Nat × List Ob) (k + 1, [.var (prfI L), .var (.agg [.nils]), .var (.agg [.sl 3 0 (k + 1)]), .row (.agg [.leaf, .leaf]) (lvlsL (L.take (k + 1)))]) [0, 1, 2, 7] (.step 4 (.agg [.leaf, .leaf]) (rchL (c0 :: ct)) rfl (cl_rch _) (frzRow 7 (lvlsL (L.take k) ++ [.agg [.sl 4 0 (0 + (rchL (c0 :: ct)).length), .list true (.agg [.leaf, .agg [.leaf]]) []]]) (lvlsL (L.take k) ++ [lvlI ((c0 :: ct), [])]) rfl (by show List.take k (List.drop 0 (lvlsL (L.take k))) ++ [_] = lvlsL (L.take k) ++ [_]; rw [List.drop_zero, List.take_of_length_le (by simp; omega)]; rfl) (leDs_app (ler _ _) (.cons _ _ _ _ (leLvl (leRow (ds := rchL (c0 :: ct)) rfl (Nat.zero_add _).symm) (.full true _ _) rfl rfl) .nil)) (by rw [shapes_app, shapes_app]; rfl) (okDs_app (ok_lvls _) rfl) (.refl _))) (by repeat (first | exact trivial | refine seC rfl rfl ?_ | refine seL (leRow rfl rfl) rfl ?_)) (shC rfl rfl (shC rfl rfl (shC rfl rfl (shR rfl (lvls_snoc hl).symm (cl_lvls _) trivial)))) rfl rfl (by dsimp only; omega) (.inr (.inl ⟨by dsimp only; omega, by dsimp only; omega, rfl⟩))
      · by_cases hki : k = i
        · rw [hki, hi] at hl; cases hl
        · exact nxF (X := Nat × List Ob) (k + 1, [.var (prfI L), .var (.agg [.nils]), .var (.agg [.sl 3 0 (k + 1)]), .row (.agg [.leaf, .leaf]) (lvlsL (L.take (k + 1)))]) [0, 1, 2, 8] (.step 4 (.agg [.leaf, .leaf]) (rchL (c0 :: ct)) rfl (cl_rch _) (.step 5 (.agg [.leaf, .agg [.leaf]]) (unsL (d0 :: dt)) rfl (cl_uns _) (frzRow 8 (lvlsL (L.take k) ++ [.agg [.sl 4 0 (0 + (rchL (c0 :: ct)).length), .sl 5 0 (0 + (unsL (d0 :: dt)).length)]]) (lvlsL (L.take k) ++ [lvlI ((c0 :: ct), (d0 :: dt))]) rfl (by show List.take k (List.drop 0 (lvlsL (L.take k))) ++ [_] = lvlsL (L.take k) ++ [_]; rw [List.drop_zero, List.take_of_length_le (by simp; omega)]; rfl) (leDs_app (ler _ _) (.cons _ _ _ _ (leLvl (leRow (ds := rchL (c0 :: ct)) rfl (Nat.zero_add _).symm) (leRow (ds := unsL (d0 :: dt)) rfl (Nat.zero_add _).symm) rfl rfl) .nil)) (by rw [shapes_app, shapes_app]; rfl) (okDs_app (ok_lvls _) rfl) (.refl _)))) (by repeat (first | exact trivial | refine seC rfl rfl ?_ | refine seL (leRow rfl rfl) rfl ?_)) (shC rfl rfl (shC rfl rfl (shC rfl rfl (shR rfl (lvls_snoc hl).symm (cl_lvls _) trivial)))) rfl rfl (by dsimp only; omega) (.inr (.inl ⟨by dsimp only; omega, by dsimp only; omega, rfl⟩))
      · exact nxF (X := Nat × List Ob) (k + 1, [.var (prfI L), .var (.agg [.nils]), .var (.agg [.sl 3 0 (k + 1)]), .row (.agg [.leaf, .leaf]) (cpL L i (k + 1) (keepD [] (n0 :: nt))), .row (.agg [.leaf, .agg [.leaf]]) (unsL (n0 :: nt))]) [0, 1, 2, 7, 4] (frzRow 7 (cpL L i k (keepD [] (n0 :: nt)) ++ [.agg [.list true (.agg [.leaf, .leaf]) [], .list true (.agg [.leaf, .agg [.leaf]]) []]]) (cpL L i k (keepD [] (n0 :: nt)) ++ [lvlI ([], [])]) rfl (by show List.take k (List.drop 0 (cpL L i k (keepD [] (n0 :: nt)))) ++ [_] = cpL L i k (keepD [] (n0 :: nt)) ++ [_]; rw [List.drop_zero, List.take_of_length_le (by omega)]; rfl) (leDs_app (ler _ _) (.cons _ _ _ _ (leLvl (.full true _ _) (.full true _ _) rfl rfl) .nil)) (by rw [shapes_app, shapes_app]; rfl) (okDs_app (okDs_app (ok_lvls _) (okDs_mk rfl (ok_lvls _))) rfl) (.refl _)) (by repeat (first | exact trivial | refine seC rfl rfl ?_ | refine seL (leRow rfl rfl) rfl ?_)) (shC rfl rfl (shC rfl rfl (shC rfl rfl (shK rfl (cpL_snoc hl hk).symm rfl rfl (shR rfl rfl (cl_uns _) trivial))))) rfl rfl (by dsimp only; omega) (.inr (.inr ⟨by dsimp only; omega, by dsimp only; omega, rfl⟩))
      · exact nxF (X := Nat × List Ob) (k + 1, [.var (prfI L), .var (.agg [.nils]), .var (.agg [.sl 3 0 (k + 1)]), .row (.agg [.leaf, .leaf]) (cpL L i (k + 1) (keepD [] (n0 :: nt))), .row (.agg [.leaf, .agg [.leaf]]) (unsL (n0 :: nt))]) [0, 1, 2, 8, 4] (.step 5 (.agg [.leaf, .agg [.leaf]]) (unsL (d0 :: dt)) rfl (cl_uns _) (frzRow 8 (cpL L i k (keepD [] (n0 :: nt)) ++ [.agg [.list true (.agg [.leaf, .leaf]) [], .sl 5 0 (0 + (unsL (d0 :: dt)).length)]]) (cpL L i k (keepD [] (n0 :: nt)) ++ [lvlI ([], (d0 :: dt))]) rfl (by show List.take k (List.drop 0 (cpL L i k (keepD [] (n0 :: nt)))) ++ [_] = cpL L i k (keepD [] (n0 :: nt)) ++ [_]; rw [List.drop_zero, List.take_of_length_le (by omega)]; rfl) (leDs_app (ler _ _) (.cons _ _ _ _ (leLvl (.full true _ _) (leRow (ds := unsL (d0 :: dt)) rfl (Nat.zero_add _).symm) rfl rfl) .nil)) (by rw [shapes_app, shapes_app]; rfl) (okDs_app (okDs_app (ok_lvls _) (okDs_mk rfl (ok_lvls _))) rfl) (.refl _))) (by repeat (first | exact trivial | refine seC rfl rfl ?_ | refine seL (leRow rfl rfl) rfl ?_)) (shC rfl rfl (shC rfl rfl (shC rfl rfl (shK rfl (cpL_snoc hl hk).symm rfl rfl (shR rfl rfl (cl_uns _) trivial))))) rfl rfl (by dsimp only; omega) (.inr (.inr ⟨by dsimp only; omega, by dsimp only; omega, rfl⟩))
      · exact nxF (X := Nat × List Ob) (k + 1, [.var (prfI L), .var (.agg [.nils]), .var (.agg [.sl 3 0 (k + 1)]), .row (.agg [.leaf, .leaf]) (cpL L i (k + 1) (keepD [] (n0 :: nt))), .row (.agg [.leaf, .agg [.leaf]]) (unsL (n0 :: nt))]) [0, 1, 2, 8, 4] (.step 5 (.agg [.leaf, .leaf]) (rchL (c0 :: ct)) rfl (cl_rch _) (frzRow 8 (cpL L i k (keepD [] (n0 :: nt)) ++ [.agg [.sl 5 0 (0 + (rchL (c0 :: ct)).length), .list true (.agg [.leaf, .agg [.leaf]]) []]]) (cpL L i k (keepD [] (n0 :: nt)) ++ [lvlI ((c0 :: ct), [])]) rfl (by show List.take k (List.drop 0 (cpL L i k (keepD [] (n0 :: nt)))) ++ [_] = cpL L i k (keepD [] (n0 :: nt)) ++ [_]; rw [List.drop_zero, List.take_of_length_le (by omega)]; rfl) (leDs_app (ler _ _) (.cons _ _ _ _ (leLvl (leRow (ds := rchL (c0 :: ct)) rfl (Nat.zero_add _).symm) (.full true _ _) rfl rfl) .nil)) (by rw [shapes_app, shapes_app]; rfl) (okDs_app (okDs_app (ok_lvls _) (okDs_mk rfl (ok_lvls _))) rfl) (.refl _))) (by repeat (first | exact trivial | refine seC rfl rfl ?_ | refine seL (leRow rfl rfl) rfl ?_)) (shC rfl rfl (shC rfl rfl (shC rfl rfl (shK rfl (cpL_snoc hl hk).symm rfl rfl (shR rfl rfl (cl_uns _) trivial))))) rfl rfl (by dsimp only; omega) (.inr (.inr ⟨by dsimp only; omega, by dsimp only; omega, rfl⟩))
      · exact nxF (X := Nat × List Ob) (k + 1, [.var (prfI L), .var (.agg [.nils]), .var (.agg [.sl 3 0 (k + 1)]), .row (.agg [.leaf, .leaf]) (cpL L i (k + 1) (keepD [] (n0 :: nt))), .row (.agg [.leaf, .agg [.leaf]]) (unsL (n0 :: nt))]) [0, 1, 2, 9, 4] (.step 5 (.agg [.leaf, .leaf]) (rchL (c0 :: ct)) rfl (cl_rch _) (.step 6 (.agg [.leaf, .agg [.leaf]]) (unsL (d0 :: dt)) rfl (cl_uns _) (frzRow 9 (cpL L i k (keepD [] (n0 :: nt)) ++ [.agg [.sl 5 0 (0 + (rchL (c0 :: ct)).length), .sl 6 0 (0 + (unsL (d0 :: dt)).length)]]) (cpL L i k (keepD [] (n0 :: nt)) ++ [lvlI ((c0 :: ct), (d0 :: dt))]) rfl (by show List.take k (List.drop 0 (cpL L i k (keepD [] (n0 :: nt)))) ++ [_] = cpL L i k (keepD [] (n0 :: nt)) ++ [_]; rw [List.drop_zero, List.take_of_length_le (by omega)]; rfl) (leDs_app (ler _ _) (.cons _ _ _ _ (leLvl (leRow (ds := rchL (c0 :: ct)) rfl (Nat.zero_add _).symm) (leRow (ds := unsL (d0 :: dt)) rfl (Nat.zero_add _).symm) rfl rfl) .nil)) (by rw [shapes_app, shapes_app]; rfl) (okDs_app (okDs_app (ok_lvls _) (okDs_mk rfl (ok_lvls _))) rfl) (.refl _)))) (by repeat (first | exact trivial | refine seC rfl rfl ?_ | refine seL (leRow rfl rfl) rfl ?_)) (shC rfl rfl (shC rfl rfl (shC rfl rfl (shK rfl (cpL_snoc hl hk).symm rfl rfl (shR rfl rfl (cl_uns _) trivial))))) rfl rfl (by dsimp only; omega) (.inr (.inr ⟨by dsimp only; omega, by dsimp only; omega, rfl⟩))
    · rcases hcase with ⟨hk, rfl⟩ | ⟨hk, hk2, rfl⟩ | ⟨hk, hk2, rfl⟩
      · exfalso; omega
      · exfalso; omega
      · have hkn : k = L.length := by omega
        subst hkn
        repeat' (
         conv => whnf
         first
         | refine ifd (fun h => ?_) (fun h => ?_)
         | ((with_reducible apply drT 18); rfl)
         | ((with_reducible apply ob); ((first | rfl | assumption | omega | (unfold maxLen2; omega) | (dsimp only; omega) | (simp only [LN]; omega) | (simp; done) | (simp; omega)))))
        all_goals (conv => whnf)
        all_goals (first | (exfalso; omega) | skip)
        exact fin_in ⟨rfl, rfl⟩
  · refine lpX (X := Nat × List Ob) (fun y => [(1, .ptr 0 []), (2, .ptr 1 []), (3, .ptr 2 []), (4, iD y.1)]) (fun y => y.2) (fun y => (y.1 = 0 ∧ y.2 = [.var (prfI L), .var (.agg [.nils]), .var (.agg [.nils])]) ∨ (0 < y.1 ∧ y.1 ≤ i ∧ y.2 = [.var (prfI L), .var (.agg [.nils]), .var (.agg [.sl 3 0 y.1]), .row (.agg [.leaf, .leaf]) (lvlsL (L.take y.1))]) ∨ (i < y.1 ∧ y.1 ≤ L.length ∧ y.2 = [.var (prfI L), .var (.agg [.nils]), .var (.agg [.sl 3 0 y.1]), .row (.agg [.leaf, .leaf]) (cpL L i y.1 (keepD (y0 :: yt) [])), .row (.agg [.leaf, .leaf]) (rchL (y0 :: yt))])) (fun y => L.length - y.1) ⟨_, nx0 (0, [.var (prfI L), .var (.agg [.nils]), .var (.agg [.nils])]) (by repeat (first | exact trivial | refine se0 rfl ?_)) rfl (Nat.lt_succ_self _) (.inl ⟨rfl, rfl⟩)⟩ ?_
    rintro ⟨k, H⟩ hP
    dsimp only at hP ⊢
    have hcase : (k = 0 ∧ H = [.var (prfI L), .var (.agg [.nils]), .var (.agg [.nils])]) ∨ (0 < k ∧ k ≤ i ∧ H = [.var (prfI L), .var (.agg [.nils]), .var (.agg [.sl 3 0 k]), .row (.agg [.leaf, .leaf]) (lvlsL (L.take k))]) ∨ (i < k ∧ k ≤ L.length ∧ H = [.var (prfI L), .var (.agg [.nils]), .var (.agg [.sl 3 0 k]), .row (.agg [.leaf, .leaf]) (cpL L i k (keepD (y0 :: yt) [])), .row (.agg [.leaf, .leaf]) (rchL (y0 :: yt))]) := hP
    clear hP
    rcases Nat.lt_or_ge k L.length with hkL | hkL
    · obtain ⟨⟨cy, cn⟩, hl⟩ : ∃ l, L[k]? = some l := ⟨L[k], List.getElem?_eq_getElem hkL⟩
      have hlb := hb _ (List.mem_of_getElem? hl)
      dsimp only at hlb
      have hcl0 := rchL_len cy
      have hcl1 := unsL_len cn
      rcases hcase with ⟨hk, rfl⟩ | ⟨hk, hk2, rfl⟩ | ⟨hk, hk2, rfl⟩
      all_goals
        rcases cy with _ | ⟨c0, ct⟩ <;> rcases cn with _ | ⟨d0, dt⟩
        all_goals
          simp only [List.length_cons, List.length_nil] at hlb hcl0 hcl1
          have hl2 := toN hl
          try have hcp := cpL_len (d := keepD (y0 :: yt) []) hk2 hk
          repeat' (
           conv => whnf
           first
           | refine ifd (fun h => ?_) (fun h => ?_)
           | with_reducible refine ivW (by omega) (by omega) ?_
           | ((with_reducible refine exLv hl2 ?_))
           | ((with_reducible apply drT 18); rfl)
           | ((with_reducible apply orR); ((first | rfl | assumption | omega | (unfold maxLen2; omega) | (dsimp only; omega) | (simp only [LN]; omega) | (simp; done) | (simp; omega))); ((first | rfl | assumption | omega | (unfold maxLen2; omega) | (dsimp only; omega) | (simp only [LN]; omega) | (simp; done) | (simp; omega))))
           | ((with_reducible apply orL); ((first | rfl | assumption | omega | (unfold maxLen2; omega) | (dsimp only; omega) | (simp only [LN]; omega) | (simp; done) | (simp; omega))))
           | ((with_reducible apply ob); ((first | rfl | assumption | omega | (unfold maxLen2; omega) | (dsimp only; omega) | (simp only [LN]; omega) | (simp; done) | (simp; omega)))))
          all_goals (conv => whnf)
          all_goals (first | (exfalso; omega) | skip)
      · subst hk
        by_cases hki : 0 = i
        · rw [hki, hi] at hl; cases hl
        · exact nxF (X := Nat × List Ob) (0 + 1, [.var (prfI L), .var (.agg [.nils]), .var (.agg [.sl 3 0 (0 + 1)]), .row (.agg [.leaf, .leaf]) (lvlsL (L.take (0 + 1)))]) [0, 1, 2, 5] (frzRow 5 (lvlsL (L.take 0) ++ [.agg [.list true (.agg [.leaf, .leaf]) [], .list true (.agg [.leaf, .agg [.leaf]]) []]]) (lvlsL (L.take 0) ++ [lvlI ([], [])]) rfl rfl (leDs_app (ler _ _) (.cons _ _ _ _ (leLvl (.full true _ _) (.full true _ _) rfl rfl) .nil)) (by rw [shapes_app, shapes_app]; rfl) (okDs_app (ok_lvls _) rfl) (.refl _)) (by repeat (first | exact trivial | refine seC rfl rfl ?_ | refine seL (leRow rfl rfl) rfl ?_)) (shC rfl rfl (shC rfl rfl (shC rfl rfl (shR rfl (lvls_snoc hl).symm (cl_lvls _) trivial)))) rfl rfl (by dsimp only; omega) (.inr (.inl ⟨by dsimp only; omega, by dsimp only; omega, rfl⟩))
      · subst hk
        by_cases hki : 0 = i
        · rw [hki, hi] at hl; cases hl
        · exact nxF (X := Nat × List Ob) (0 + 1, [.var (prfI L), .var (.agg [.nils]), .var (.agg [.sl 3 0 (0 + 1)]), .row (.agg [.leaf, .leaf]) (lvlsL (L.take (0 + 1)))]) [0, 1, 2, 6] (.step 3 (.agg [.leaf, .agg [.leaf]]) (unsL (d0 :: dt)) rfl (cl_uns _) (frzRow 6 (lvlsL (L.take 0) ++ [.agg [.list true (.agg [.leaf, .leaf]) [], .sl 3 0 (0 + (unsL (d0 :: dt)).length)]]) (lvlsL (L.take 0) ++ [lvlI ([], (d0 :: dt))]) rfl rfl (leDs_app (ler _ _) (.cons _ _ _ _ (leLvl (.full true _ _) (leRow (ds := unsL (d0 :: dt)) rfl (Nat.zero_add _).symm) rfl rfl) .nil)) (by rw [shapes_app, shapes_app]; rfl) (okDs_app (ok_lvls _) rfl) (.refl _))) (by repeat (first | exact trivial | refine seC rfl rfl ?_ | refine seL (leRow rfl rfl) rfl ?_)) (shC rfl rfl (shC rfl rfl (shC rfl rfl (shR rfl (lvls_snoc hl).symm (cl_lvls _) trivial)))) rfl rfl (by dsimp only; omega) (.inr (.inl ⟨by dsimp only; omega, by dsimp only; omega, rfl⟩))
      · subst hk
        by_cases hki : 0 = i
        · subst hki
          rw [hl] at hi
          cases hi
          exact nx (X := Nat × List Ob) (0 + 1, [.var (prfI L), .var (.agg [.nils]), .var (.agg [.sl 3 0 (0 + 1)]), .row (.agg [.leaf, .leaf]) (cpL L 0 (0 + 1) (keepD (y0 :: yt) [])), .row (.agg [.leaf, .leaf]) (rchL (y0 :: yt))]) [0, 1, 2, 6, 3] (by repeat (first | exact trivial | refine seC rfl rfl ?_ | refine seL (leRow rfl rfl) rfl ?_)) (shC rfl rfl (shC rfl rfl (shC rfl rfl (shK rfl (by rw [cpL_at]; rfl) rfl rfl (shR rfl rfl (cl_rch _) trivial))))) rfl rfl (by dsimp only; omega) (.inr (.inr ⟨by dsimp only; omega, by dsimp only; omega, rfl⟩))
        · exact nxF (X := Nat × List Ob) (0 + 1, [.var (prfI L), .var (.agg [.nils]), .var (.agg [.sl 3 0 (0 + 1)]), .row (.agg [.leaf, .leaf]) (lvlsL (L.take (0 + 1)))]) [0, 1, 2, 6] (.step 3 (.agg [.leaf, .leaf]) (rchL (c0 :: ct)) rfl (cl_rch _) (frzRow 6 (lvlsL (L.take 0) ++ [.agg [.sl 3 0 (0 + (rchL (c0 :: ct)).length), .list true (.agg [.leaf, .agg [.leaf]]) []]]) (lvlsL (L.take 0) ++ [lvlI ((c0 :: ct), [])]) rfl rfl (leDs_app (ler _ _) (.cons _ _ _ _ (leLvl (leRow (ds := rchL (c0 :: ct)) rfl (Nat.zero_add _).symm) (.full true _ _) rfl rfl) .nil)) (by rw [shapes_app, shapes_app]; rfl) (okDs_app (ok_lvls _) rfl) (.refl _))) (by repeat (first | exact trivial | refine seC rfl rfl ?_ | refine seL (leRow rfl rfl) rfl ?_)) (shC rfl rfl (shC rfl rfl (shC rfl rfl (shR rfl (lvls_snoc hl).symm (cl_lvls _) trivial)))) rfl rfl (by dsimp only; omega) (.inr (.inl ⟨by dsimp only; omega, by dsimp only; omega, rfl⟩))
      · subst hk
        by_cases hki : 0 = i
        · rw [hki, hi] at hl; cases hl
        · exact nxF (X := Nat × List Ob) (0 + 1, [.var (prfI L), .var (.agg [.nils]), .var (.agg [.sl 3 0 (0 + 1)]), .row (.agg [.leaf, .leaf]) (lvlsL (L.take (0 + 1)))]) [0, 1, 2, 7] (.step 3 (.agg [.leaf, .leaf]) (rchL (c0 :: ct)) rfl (cl_rch _) (.step 4 (.agg [.leaf, .agg [.leaf]]) (unsL (d0 :: dt)) rfl (cl_uns _) (frzRow 7 (lvlsL (L.take 0) ++ [.agg [.sl 3 0 (0 + (rchL (c0 :: ct)).length), .sl 4 0 (0 + (unsL (d0 :: dt)).length)]]) (lvlsL (L.take 0) ++ [lvlI ((c0 :: ct), (d0 :: dt))]) rfl rfl (leDs_app (ler _ _) (.cons _ _ _ _ (leLvl (leRow (ds := rchL (c0 :: ct)) rfl (Nat.zero_add _).symm) (leRow (ds := unsL (d0 :: dt)) rfl (Nat.zero_add _).symm) rfl rfl) .nil)) (by rw [shapes_app, shapes_app]; rfl) (okDs_app (ok_lvls _) rfl) (.refl _)))) (by repeat (first | exact trivial | refine seC rfl rfl ?_ | refine seL (leRow rfl rfl) rfl ?_)) (shC rfl rfl (shC rfl rfl (shC rfl rfl (shR rfl (lvls_snoc hl).symm (cl_lvls _) trivial)))) rfl rfl (by dsimp only; omega) (.inr (.inl ⟨by dsimp only; omega, by dsimp only; omega, rfl⟩))
      · by_cases hki : k = i
        · rw [hki, hi] at hl; cases hl
        · exact nxF (X := Nat × List Ob) (k + 1, [.var (prfI L), .var (.agg [.nils]), .var (.agg [.sl 3 0 (k + 1)]), .row (.agg [.leaf, .leaf]) (lvlsL (L.take (k + 1)))]) [0, 1, 2, 6] (frzRow 6 (lvlsL (L.take k) ++ [.agg [.list true (.agg [.leaf, .leaf]) [], .list true (.agg [.leaf, .agg [.leaf]]) []]]) (lvlsL (L.take k) ++ [lvlI ([], [])]) rfl (by show List.take k (List.drop 0 (lvlsL (L.take k))) ++ [_] = lvlsL (L.take k) ++ [_]; rw [List.drop_zero, List.take_of_length_le (by simp; omega)]; rfl) (leDs_app (ler _ _) (.cons _ _ _ _ (leLvl (.full true _ _) (.full true _ _) rfl rfl) .nil)) (by rw [shapes_app, shapes_app]; rfl) (okDs_app (ok_lvls _) rfl) (.refl _)) (by repeat (first | exact trivial | refine seC rfl rfl ?_ | refine seL (leRow rfl rfl) rfl ?_)) (shC rfl rfl (shC rfl rfl (shC rfl rfl (shR rfl (lvls_snoc hl).symm (cl_lvls _) trivial)))) rfl rfl (by dsimp only; omega) (.inr (.inl ⟨by dsimp only; omega, by dsimp only; omega, rfl⟩))
      · by_cases hki : k = i
        · rw [hki, hi] at hl; cases hl
        · exact nxF (X := Nat × List Ob) (k + 1, [.var (prfI L), .var (.agg [.nils]), .var (.agg [.sl 3 0 (k + 1)]), .row (.agg [.leaf, .leaf]) (lvlsL (L.take (k + 1)))]) [0, 1, 2, 7] (.step 4 (.agg [.leaf, .agg [.leaf]]) (unsL (d0 :: dt)) rfl (cl_uns _) (frzRow 7 (lvlsL (L.take k) ++ [.agg [.list true (.agg [.leaf, .leaf]) [], .sl 4 0 (0 + (unsL (d0 :: dt)).length)]]) (lvlsL (L.take k) ++ [lvlI ([], (d0 :: dt))]) rfl (by show List.take k (List.drop 0 (lvlsL (L.take k))) ++ [_] = lvlsL (L.take k) ++ [_]; rw [List.drop_zero, List.take_of_length_le (by simp; omega)]; rfl) (leDs_app (ler _ _) (.cons _ _ _ _ (leLvl (.full true _ _) (leRow (ds := unsL (d0 :: dt)) rfl (Nat.zero_add _).symm) rfl rfl) .nil)) (by rw [shapes_app, shapes_app]; rfl) (okDs_app (ok_lvls _) rfl) (.refl _))) (by repeat (first | exact trivial | refine seC rfl rfl ?_ | refine seL (leRow rfl rfl) rfl ?_)) (shC rfl rfl (shC rfl rfl (shC rfl rfl (shR rfl (lvls_snoc hl).symm (cl_lvls _) trivial)))) rfl rfl (by dsimp only; omega) (.inr (.inl ⟨by dsimp only; omega, by dsimp only; omega, rfl⟩))
      · by_cases hki : k = i
        · subst hki
          rw [hl] at hi
          cases hi
          exact nx (X := Nat × List Ob) (k + 1, [.var (prfI L), .var (.agg [.nils]), .var (.agg [.sl 3 0 (k + 1)]), .row (.agg [.leaf, .leaf]) (cpL L k (k + 1) (keepD (y0 :: yt) [])), .row (.agg [.leaf, .leaf]) (rchL (y0 :: yt))]) [0, 1, 2, 7, 4] (by repeat (first | exact trivial | refine seC rfl rfl ?_ | refine seL (leRow rfl rfl) rfl ?_)) (shC rfl rfl (shC rfl rfl (shC rfl rfl (shK rfl (by rw [cpL_at]; show List.take k (List.drop 0 (lvlsL (L.take k))) ++ [_] = _ ++ [_]; rw [List.drop_zero, List.take_of_length_le (by simp; omega)]; rfl) rfl rfl (shR rfl rfl (cl_rch _) trivial))))) rfl rfl (by dsimp only; omega) (.inr (.inr ⟨by dsimp only; omega, by dsimp only; omega, rfl⟩))
        · exact nxF (X := Nat × List Ob) (k + 1, [.var (prfI L), .var (.agg [.nils]), .var (.agg [.sl 3 0 (k + 1)]), .row (.agg [.leaf, .leaf]) (lvlsL (L.take (k + 1)))]) [0, 1, 2, 7] (.step 4 (.agg [.leaf, .leaf]) (rchL (c0 :: ct)) rfl (cl_rch _) (frzRow 7 (lvlsL (L.take k) ++ [.agg [.sl 4 0 (0 + (rchL (c0 :: ct)).length), .list true (.agg [.leaf, .agg [.leaf]]) []]]) (lvlsL (L.take k) ++ [lvlI ((c0 :: ct), [])]) rfl (by show List.take k (List.drop 0 (lvlsL (L.take k))) ++ [_] = lvlsL (L.take k) ++ [_]; rw [List.drop_zero, List.take_of_length_le (by simp; omega)]; rfl) (leDs_app (ler _ _) (.cons _ _ _ _ (leLvl (leRow (ds := rchL (c0 :: ct)) rfl (Nat.zero_add _).symm) (.full true _ _) rfl rfl) .nil)) (by rw [shapes_app, shapes_app]; rfl) (okDs_app (ok_lvls _) rfl) (.refl _))) (by repeat (first | exact trivial | refine seC rfl rfl ?_ | refine seL (leRow rfl rfl) rfl ?_)) (shC rfl rfl (shC rfl rfl (shC rfl rfl (shR rfl (lvls_snoc hl).symm (cl_lvls _) trivial)))) rfl rfl (by dsimp only; omega) (.inr (.inl ⟨by dsimp only; omega, by dsimp only; omega, rfl⟩))
      · by_cases hki : k = i
        · rw [hki, hi] at hl; cases hl
        · exact nxF (X := Nat × List Ob) (k + 1, [.var (prfI L), .var (.agg [.nils]), .var (.agg [.sl 3 0 (k + 1)]), .row (.agg [.leaf, .leaf]) (lvlsL (L.take (k + 1)))]) [0, 1, 2, 8] (.step 4 (.agg [.leaf, .leaf]) (rchL (c0 :: ct)) rfl (cl_rch _) (.step 5 (.agg [.leaf, .agg [.leaf]]) (unsL (d0 :: dt)) rfl (cl_uns _) (frzRow 8 (lvlsL (L.take k) ++ [.agg [.sl 4 0 (0 + (rchL (c0 :: ct)).length), .sl 5 0 (0 + (unsL (d0 :: dt)).length)]]) (lvlsL (L.take k) ++ [lvlI ((c0 :: ct), (d0 :: dt))]) rfl (by show List.take k (List.drop 0 (lvlsL (L.take k))) ++ [_] = lvlsL (L.take k) ++ [_]; rw [List.drop_zero, List.take_of_length_le (by simp; omega)]; rfl) (leDs_app (ler _ _) (.cons _ _ _ _ (leLvl (leRow (ds := rchL (c0 :: ct)) rfl (Nat.zero_add _).symm) (leRow (ds := unsL (d0 :: dt)) rfl (Nat.zero_add _).symm) rfl rfl) .nil)) (by rw [shapes_app, shapes_app]; rfl) (okDs_app (ok_lvls _) rfl) (.refl _)))) (by repeat (first | exact trivial | refine seC rfl rfl ?_ | refine seL (leRow rfl rfl) rfl ?_)) (shC rfl rfl (shC rfl rfl (shC rfl rfl (shR rfl (lvls_snoc hl).symm (cl_lvls _) trivial)))) rfl rfl (by dsimp only; omega) (.inr (.inl ⟨by dsimp only; omega, by dsimp only; omega, rfl⟩))
      · exact nxF (X := Nat × List Ob) (k + 1, [.var (prfI L), .var (.agg [.nils]), .var (.agg [.sl 3 0 (k + 1)]), .row (.agg [.leaf, .leaf]) (cpL L i (k + 1) (keepD (y0 :: yt) [])), .row (.agg [.leaf, .leaf]) (rchL (y0 :: yt))]) [0, 1, 2, 7, 4] (frzRow 7 (cpL L i k (keepD (y0 :: yt) []) ++ [.agg [.list true (.agg [.leaf, .leaf]) [], .list true (.agg [.leaf, .agg [.leaf]]) []]]) (cpL L i k (keepD (y0 :: yt) []) ++ [lvlI ([], [])]) rfl (by show List.take k (List.drop 0 (cpL L i k (keepD (y0 :: yt) []))) ++ [_] = cpL L i k (keepD (y0 :: yt) []) ++ [_]; rw [List.drop_zero, List.take_of_length_le (by omega)]; rfl) (leDs_app (ler _ _) (.cons _ _ _ _ (leLvl (.full true _ _) (.full true _ _) rfl rfl) .nil)) (by rw [shapes_app, shapes_app]; rfl) (okDs_app (okDs_app (ok_lvls _) (okDs_mk rfl (ok_lvls _))) rfl) (.refl _)) (by repeat (first | exact trivial | refine seC rfl rfl ?_ | refine seL (leRow rfl rfl) rfl ?_)) (shC rfl rfl (shC rfl rfl (shC rfl rfl (shK rfl (cpL_snoc hl hk).symm rfl rfl (shR rfl rfl (cl_rch _) trivial))))) rfl rfl (by dsimp only; omega) (.inr (.inr ⟨by dsimp only; omega, by dsimp only; omega, rfl⟩))
      · exact nxF (X := Nat × List Ob) (k + 1, [.var (prfI L), .var (.agg [.nils]), .var (.agg [.sl 3 0 (k + 1)]), .row (.agg [.leaf, .leaf]) (cpL L i (k + 1) (keepD (y0 :: yt) [])), .row (.agg [.leaf, .leaf]) (rchL (y0 :: yt))]) [0, 1, 2, 8, 4] (.step 5 (.agg [.leaf, .agg [.leaf]]) (unsL (d0 :: dt)) rfl (cl_uns _) (frzRow 8 (cpL L i k (keepD (y0 :: yt) []) ++ [.agg [.list true (.agg [.leaf, .leaf]) [], .sl 5 0 (0 + (unsL (d0 :: dt)).length)]]) (cpL L i k (keepD (y0 :: yt) []) ++ [lvlI ([], (d0 :: dt))]) rfl (by show List.take k (List.drop 0 (cpL L i k (keepD (y0 :: yt) []))) ++ [_] = cpL L i k (keepD (y0 :: yt) []) ++ [_]; rw [List.drop_zero, List.take_of_length_le (by omega)]; rfl) (leDs_app (ler _ _) (.cons _ _ _ _ (leLvl (.full true _ _) (leRow (ds := unsL (d0 :: dt)) rfl (Nat.zero_add _).symm) rfl rfl) .nil)) (by rw [shapes_app, shapes_app]; rfl) (okDs_app (okDs_app (ok_lvls _) (okDs_mk rfl (ok_lvls _))) rfl) (.refl _))) (by repeat (first | exact trivial | refine seC rfl rfl ?_ | refine seL (leRow rfl rfl) rfl ?_)) (shC rfl rfl (shC rfl rfl (shC rfl rfl (shK rfl (cpL_snoc hl hk).symm rfl rfl (shR rfl rfl (cl_rch _) trivial))))) rfl rfl (by dsimp only; omega) (.inr (.inr ⟨by dsimp only; omega, by dsimp only; omega, rfl⟩))
      · exact nxF (X := Nat × List Ob) (k + 1, [.var (prfI L), .var (.agg [.nils]), .var (.agg [.sl 3 0 (k + 1)]), .row (.agg [.leaf, .leaf]) (cpL L i (k + 1) (keepD (y0 :: yt) [])), .row (.agg [.leaf, .leaf]) (rchL (y0 :: yt))]) [0, 1, 2, 8, 4] (.step 5 (.agg [.leaf, .leaf]) (rchL (c0 :: ct)) rfl (cl_rch _) (frzRow 8 (cpL L i k (keepD (y0 :: yt) []) ++ [.agg [.sl 5 0 (0 + (rchL (c0 :: ct)).length), .list true (.agg [.leaf, .agg [.leaf]]) []]]) (cpL L i k (keepD (y0 :: yt) []) ++ [lvlI ((c0 :: ct), [])]) rfl (by show List.take k (List.drop 0 (cpL L i k (keepD (y0 :: yt) []))) ++ [_] = cpL L i k (keepD (y0 :: yt) []) ++ [_]; rw [List.drop_zero, List.take_of_length_le (by omega)]; rfl) (leDs_app (ler _ _) (.cons _ _ _ _ (leLvl (leRow (ds := rchL (c0 :: ct)) rfl (Nat.zero_add _).symm) (.full true _ _) rfl rfl) .nil)) (by rw [shapes_app, shapes_app]; rfl) (okDs_app (okDs_app (ok_lvls _) (okDs_mk rfl (ok_lvls _))) rfl) (.refl _))) (by repeat (first | exact trivial | refine seC rfl rfl ?_ | refine seL (leRow rfl rfl) rfl ?_)) (shC rfl rfl (shC rfl rfl (shC rfl rfl (shK rfl (cpL_snoc hl hk).symm rfl rfl (shR rfl rfl (cl_rch _) trivial))))) rfl rfl (by dsimp only; omega) (.inr (.inr ⟨by dsimp only; omega, by dsimp only; omega, rfl⟩))
      · exact nxF (X := Nat × List Ob) (k + 1, [.var (prfI L), .var (.agg [.nils]), .var (.agg [.sl 3 0 (k + 1)]), .row (.agg [.leaf, .leaf]) (cpL L i (k + 1) (keepD (y0 :: yt) [])), .row (.agg [.leaf, .leaf]) (rchL (y0 :: yt))]) [0, 1, 2, 9, 4] (.step 5 (.agg [.leaf, .leaf]) (rchL (c0 :: ct)) rfl (cl_rch _) (.step 6 (.agg [.leaf, .agg [.leaf]]) (unsL (d0 :: dt)) rfl (cl_uns _) (frzRow 9 (cpL L i k (keepD (y0 :: yt) []) ++ [.agg [.sl 5 0 (0 + (rchL (c0 :: ct)).length), .sl 6 0 (0 + (unsL (d0 :: dt)).length)]]) (cpL L i k (keepD (y0 :: yt) []) ++ [lvlI ((c0 :: ct), (d0 :: dt))]) rfl (by show List.take k (List.drop 0 (cpL L i k (keepD (y0 :: yt) []))) ++ [_] = cpL L i k (keepD (y0 :: yt) []) ++ [_]; rw [List.drop_zero, List.take_of_length_le (by omega)]; rfl) (leDs_app (ler _ _) (.cons _ _ _ _ (leLvl (leRow (ds := rchL (c0 :: ct)) rfl (Nat.zero_add _).symm) (leRow (ds := unsL (d0 :: dt)) rfl (Nat.zero_add _).symm) rfl rfl) .nil)) (by rw [shapes_app, shapes_app]; rfl) (okDs_app (okDs_app (ok_lvls _) (okDs_mk rfl (ok_lvls _))) rfl) (.refl _)))) (by repeat (first | exact trivial | refine seC rfl rfl ?_ | refine seL (leRow rfl rfl) rfl ?_)) (shC rfl rfl (shC rfl rfl (shC rfl rfl (shK rfl (cpL_snoc hl hk).symm rfl rfl (shR rfl rfl (cl_rch _) trivial))))) rfl rfl (by dsimp only; omega) (.inr (.inr ⟨by dsimp only; omega, by dsimp only; omega, rfl⟩))
    · rcases hcase with ⟨hk, rfl⟩ | ⟨hk, hk2, rfl⟩ | ⟨hk, hk2, rfl⟩
      · exfalso; omega
      · exfalso; omega
      · have hkn : k = L.length := by omega
        subst hkn
        repeat' (
         conv => whnf
         first
         | refine ifd (fun h => ?_) (fun h => ?_)
         | ((with_reducible apply drT 18); rfl)
         | ((with_reducible apply ob); ((first | rfl | assumption | omega | (unfold maxLen2; omega) | (dsimp only; omega) | (simp only [LN]; omega) | (simp; done) | (simp; omega)))))
        all_goals (conv => whnf)
        all_goals (first | (exfalso; omega) | skip)
        exact fin_in ⟨rfl, rfl⟩
  · refine lpX (X := Nat × List Ob) (fun y => [(1, .ptr 0 []), (2, .ptr 1 []), (3, .ptr 2 []), (4, iD y.1)]) (fun y => y.2) (fun y => (y.1 = 0 ∧ y.2 = [.var (prfI L), .var (.agg [.nils]), .var (.agg [.nils])]) ∨ (0 < y.1 ∧ y.1 ≤ i ∧ y.2 = [.var (prfI L), .var (.agg [.nils]), .var (.agg [.sl 3 0 y.1]), .row (.agg [.leaf, .leaf]) (lvlsL (L.take y.1))]) ∨ (i < y.1 ∧ y.1 ≤ L.length ∧ y.2 = [.var (prfI L), .var (.agg [.nils]), .var (.agg [.sl 3 0 y.1]), .row (.agg [.leaf, .leaf]) (cpL L i y.1 (keepD (y0 :: yt) (n0 :: nt))), .row (.agg [.leaf, .leaf]) (rchL (y0 :: yt)), .row (.agg [.leaf, .agg [.leaf]]) (unsL (n0 :: nt))])) (fun y => L.length - y.1) ⟨_, nx0 (0, [.var (prfI L), .var (.agg [.nils]), .var (.agg [.nils])]) (by repeat (first | exact trivial | refine se0 rfl ?_)) rfl (Nat.lt_succ_self _) (.inl ⟨rfl, rfl⟩)⟩ ?_
    rintro ⟨k, H⟩ hP
    dsimp only at hP ⊢
    have hcase : (k = 0 ∧ H = [.var (prfI L), .var (.agg [.nils]), .var (.agg [.nils])]) ∨ (0 < k ∧ k ≤ i ∧ H = [.var (prfI L), .var (.agg [.nils]), .var (.agg [.sl 3 0 k]), .row (.agg [.leaf, .leaf]) (lvlsL (L.take k))]) ∨ (i < k ∧ k ≤ L.length ∧ H = [.var (prfI L), .var (.agg [.nils]), .var (.agg [.sl 3 0 k]), .row (.agg [.leaf, .leaf]) (cpL L i k (keepD (y0 :: yt) (n0 :: nt))), .row (.agg [.leaf, .leaf]) (rchL (y0 :: yt)), .row (.agg [.leaf, .agg [.leaf]]) (unsL (n0 :: nt))]) := hP
    clear hP
    rcases Nat.lt_or_ge k L.length with hkL | hkL
    · obtain ⟨⟨cy, cn⟩, hl⟩ : ∃ l, L[k]? = some l := ⟨L[k], List.getElem?_eq_getElem hkL⟩
      have hlb := hb _ (List.mem_of_getElem? hl)
      dsimp only at hlb
      have hcl0 := rchL_len cy
      have hcl1 := unsL_len cn
      rcases hcase with ⟨hk, rfl⟩ | ⟨hk, hk2, rfl⟩ | ⟨hk, hk2, rfl⟩
      all_goals
        rcases cy with _ | ⟨c0, ct⟩ <;> rcases cn with _ | ⟨d0, dt⟩
        all_goals
          simp only [List.length_cons, List.length_nil] at hlb hcl0 hcl1
          have hl2 := toN hl
          try have hcp := cpL_len (d := keepD (y0 :: yt) (n0 :: nt)) hk2 hk
          repeat' (
           conv => whnf
           first
           | refine ifd (fun h => ?_) (fun h => ?_)
           | with_reducible refine ivW (by omega) (by omega) ?_
           | ((with_reducible refine exLv hl2 ?_))
           | ((with_reducible apply drT 18); rfl)
           | ((with_reducible apply orR); ((first | rfl | assumption | omega | (unfold maxLen2; omega) | (dsimp only; omega) | (simp only [LN]; omega) | (simp; done) | (simp; omega))); ((first | rfl | assumption | omega | (unfold maxLen2; omega) | (dsimp only; omega) | (simp only [LN]; omega) | (simp; done) | (simp; omega))))
           | ((with_reducible apply orL); ((first | rfl | assumption | omega | (unfold maxLen2; omega) | (dsimp only; omega) | (simp only [LN]; omega) | (simp; done) | (simp; omega))))
           | ((with_reducible apply ob); ((first | rfl | assumption | omega | (unfold maxLen2; omega) | (dsimp only; omega) | (simp only [LN]; omega) | (simp; done) | (simp; omega)))))
          all_goals (conv => whnf)
          all_goals (first | (exfalso; omega) | skip)
      · subst hk
        by_cases hki : 0 = i
        · rw [hki, hi] at hl; cases hl
        · exact nxF (X := Nat × List Ob) (0 + 1, [.var (prfI L), .var (.agg [.nils]), .var (.agg [.sl 3 0 (0 + 1)]), .row (.agg [.leaf, .leaf]) (lvlsL (L.take (0 + 1)))]) [0, 1, 2, 5] (frzRow 5 (lvlsL (L.take 0) ++ [.agg [.list true (.agg [.leaf, .leaf]) [], .list true (.agg [.leaf, .agg [.leaf]]) []]]) (lvlsL (L.take 0) ++ [lvlI ([], [])]) rfl rfl (leDs_app (ler _ _) (.cons _ _ _ _ (leLvl (.full true _ _) (.full true _ _) rfl rfl) .nil)) (by rw [shapes_app, shapes_app]; rfl) (okDs_app (ok_lvls _) rfl) (.refl _)) (by repeat (first | exact trivial | refine seC rfl rfl ?_ | refine seL (leRow rfl rfl) rfl ?_)) (shC rfl rfl (shC rfl rfl (shC rfl rfl (shR rfl (lvls_snoc hl).symm (cl_lvls _) trivial)))) rfl rfl (by dsimp only; omega) (.inr (.inl ⟨by dsimp only; omega, by dsimp only; omega, rfl⟩))
      · subst hk
        by_cases hki : 0 = i
        · rw [hki, hi] at hl; cases hl
        · exact nxF (X := Nat × List Ob) (0 + 1, [.var (prfI L), .var (.agg [.nils]), .var (.agg [.sl 3 0 (0 + 1)]), .row (.agg [.leaf, .leaf]) (lvlsL (L.take (0 + 1)))]) [0, 1, 2, 6] (.step 3 (.agg [.leaf, .agg [.leaf]]) (unsL (d0 :: dt)) rfl (cl_uns _) (frzRow 6 (lvlsL (L.take 0) ++ [.agg [.list true (.agg [.leaf, .leaf]) [], .sl 3 0 (0 + (unsL (d0 :: dt)).length)]]) (lvlsL (L.take 0) ++ [lvlI ([], (d0 :: dt))]) rfl rfl (leDs_app (ler _ _) (.cons _ _ _ _ (leLvl (.full true _ _) (leRow (ds := unsL (d0 :: dt)) rfl (Nat.zero_add _).symm) rfl rfl) .nil)) (by rw [shapes_app, shapes_app]; rfl) (okDs_app (ok_lvls _) rfl) (.refl _))) (by repeat (first | exact trivial | refine seC rfl rfl ?_ | refine seL (leRow rfl rfl) rfl ?_)) (shC rfl rfl (shC rfl rfl (shC rfl rfl (shR rfl (lvls_snoc hl).symm (cl_lvls _) trivial)))) rfl rfl (by dsimp only; omega) (.inr (.inl ⟨by dsimp only; omega, by dsimp only; omega, rfl⟩))
      · subst hk
        by_cases hki : 0 = i
        · rw [hki, hi] at hl; cases hl
        · exact nxF (X := Nat × List Ob) (0 + 1, [.var (prfI L), .var (.agg [.nils]), .var (.agg [.sl 3 0 (0 + 1)]), .row (.agg [.leaf, .leaf]) (lvlsL (L.take (0 + 1)))]) [0, 1, 2, 6] (.step 3 (.agg [.leaf, .leaf]) (rchL (c0 :: ct)) rfl (cl_rch _) (frzRow 6 (lvlsL (L.take 0) ++ [.agg [.sl 3 0 (0 + (rchL (c0 :: ct)).length), .list true (.agg [.leaf, .agg [.leaf]]) []]]) (lvlsL (L.take 0) ++ [lvlI ((c0 :: ct), [])]) rfl rfl (leDs_app (ler _ _) (.cons _ _ _ _ (leLvl (leRow (ds := rchL (c0 :: ct)) rfl (Nat.zero_add _).symm) (.full true _ _) rfl rfl) .nil)) (by rw [shapes_app, shapes_app]; rfl) (okDs_app (ok_lvls _) rfl) (.refl _))) (by repeat (first | exact trivial | refine seC rfl rfl ?_ | refine seL (leRow rfl rfl) rfl ?_)) (shC rfl rfl (shC rfl rfl (shC rfl rfl (shR rfl (lvls_snoc hl).symm (cl_lvls _) trivial)))) rfl rfl (by dsimp only; omega) (.inr (.inl ⟨by dsimp only; omega, by dsimp only; omega, rfl⟩))
      · subst hk
        by_cases hki : 0 = i
        · subst hki
          rw [hl] at hi
          cases hi
          exact nx (X := Nat × List Ob) (0 + 1, [.var (prfI L), .var (.agg [.nils]), .var (.agg [.sl 3 0 (0 + 1)]), .row (.agg [.leaf, .leaf]) (cpL L 0 (0 + 1) (keepD (y0 :: yt) (n0 :: nt))), .row (.agg [.leaf, .leaf]) (rchL (y0 :: yt)), .row (.agg [.leaf, .agg [.leaf]]) (unsL (n0 :: nt))]) [0, 1, 2, 7, 3, 4] (by repeat (first | exact trivial | refine seC rfl rfl ?_ | refine seL (leRow rfl rfl) rfl ?_)) (shC rfl rfl (shC rfl rfl (shC rfl rfl (shK rfl (by rw [cpL_at]; rfl) rfl rfl (shR rfl rfl (cl_rch _) (shR rfl rfl (cl_uns _) trivial)))))) rfl rfl (by dsimp only; omega) (.inr (.inr ⟨by dsimp only; omega, by dsimp only; omega, rfl⟩))
        · exact nxF (X := Nat × List Ob) (0 + 1, [.var (prfI L), .var (.agg [.nils]), .var (.agg [.sl 3 0 (0 + 1)]), .row (.agg [.leaf, .leaf]) (lvlsL (L.take (0 + 1)))]) [0, 1, 2, 7] (.step 3 (.agg [.leaf, .leaf]) (rchL (c0 :: ct)) rfl (cl_rch _) (.step 4 (.agg [.leaf, .agg [.leaf]]) (unsL (d0 :: dt)) rfl (cl_uns _) (frzRow 7 (lvlsL (L.take 0) ++ [.agg [.sl 3 0 (0 + (rchL (c0 :: ct)).length), .sl 4 0 (0 + (unsL (d0 :: dt)).length)]]) (lvlsL (L.take 0) ++ [lvlI ((c0 :: ct), (d0 :: dt))]) rfl rfl (leDs_app (ler _ _) (.cons _ _ _ _ (leLvl (leRow (ds := rchL (c0 :: ct)) rfl (Nat.zero_add _).symm) (leRow (ds := unsL (d0 :: dt)) rfl (Nat.zero_add _).symm) rfl rfl) .nil)) (by rw [shapes_app, shapes_app]; rfl) (okDs_app (ok_lvls _) rfl) (.refl _)))) (by repeat (first | exact trivial | refine seC rfl rfl ?_ | refine seL (leRow rfl rfl) rfl ?_)) (shC rfl rfl (shC rfl rfl (shC rfl rfl (shR rfl (lvls_snoc hl).symm (cl_lvls _) trivial)))) rfl rfl (by dsimp only; omega) (.inr (.inl ⟨by dsimp only; omega, by dsimp only; omega, rfl⟩))
      · by_cases hki : k = i
        · rw [hki, hi] at hl; cases hl
        · exact nxF (X := Nat × List Ob) (k + 1, [.var (prfI L), .var (.agg [.nils]), .var (.agg [.sl 3 0 (k + 1)]), .row (.agg [.leaf, .leaf]) (lvlsL (L.take (k + 1)))]) [0, 1, 2, 6] (frzRow 6 (lvlsL (L.take k) ++ [.agg [.list true (.agg [.leaf, .leaf]) [], .list true (.agg [.leaf, .agg [.leaf]]) []]]) (lvlsL (L.take k) ++ [lvlI ([], [])]) rfl (by show List.take k (List.drop 0 (lvlsL (L.take k))) ++ [_] = lvlsL (L.take k) ++ [_]; rw [List.drop_zero, List.take_of_length_le (by simp; omega)]; rfl) (leDs_app (ler _ _) (.cons _ _ _ _ (leLvl (.full true _ _) (.full true _ _) rfl rfl) .nil)) (by rw [shapes_app, shapes_app]; rfl) (okDs_app (ok_lvls _) rfl) (.refl _)) (by repeat (first | exact trivial | refine seC rfl rfl ?_ | refine seL (leRow rfl rfl) rfl ?_)) (shC rfl rfl (shC rfl rfl (shC rfl rfl (shR rfl (lvls_snoc hl).symm (cl_lvls _) trivial)))) rfl rfl (by dsimp only; omega) (.inr (.inl ⟨by dsimp only; omega, by dsimp only; omega, rfl⟩))
      · by_cases hki : k = i
        · rw [hki, hi] at hl; cases hl
        · exact nxF (X := Nat × List Ob) (k + 1, [.var (prfI L), .var (.agg [.nils]), .var (.agg [.sl 3 0 (k + 1)]), .row (.agg [.leaf, .leaf]) (lvlsL (L.take (k + 1)))]) [0, 1, 2, 7] (.step 4 (.agg [.leaf, .agg [.leaf]]) (unsL (d0 :: dt)) rfl (cl_uns _) (frzRow 7 (lvlsL (L.take k) ++ [.agg [.list true (.agg [.leaf, .leaf]) [], .sl 4 0 (0 + (unsL (d0 :: dt)).length)]]) (lvlsL (L.take k) ++ [lvlI ([], (d0 :: dt))]) rfl (by show List.take k (List.drop 0 (lvlsL (L.take k))) ++ [_] = lvlsL (L.take k) ++ [_]; rw [List.drop_zero, List.take_of_length_le (by simp; omega)]; rfl) (leDs_app (ler _ _) (.cons _ _ _ _ (leLvl (.full true _ _) (leRow (ds := unsL (d0 :: dt)) rfl (Nat.zero_add _).symm) rfl rfl) .nil)) (by rw [shapes_app, shapes_app]; rfl) (okDs_app (ok_lvls _) rfl) (.refl _))) (by repeat (first | exact trivial | refine seC rfl rfl ?_ | refine seL (leRow rfl rfl) rfl ?_)) (shC rfl rfl (shC rfl rfl (shC rfl rfl (shR rfl (lvls_snoc hl).symm (cl_lvls _) trivial)))) rfl rfl (by dsimp only; omega) (.inr (.inl ⟨by dsimp only; omega, by dsimp only; omega, rfl⟩))
      · by_cases hki : k = i
        · rw [hki, hi] at hl; cases hl
        · exact nxF (X := Nat × List Ob) (k + 1, [.var (prfI L), .var (.agg [.nils]), .var (.agg [.sl 3 0 (k + 1)]), .row (.agg [.leaf, .leaf]) (lvlsL (L.take (k + 1)))]) [0, 1, 2, 7] (.step 4 (.agg [.leaf, .leaf]) (rchL (c0 :: ct)) rfl (cl_rch _) (frzRow 7 (lvlsL (L.take k) ++ [.agg [.sl 4 0 (0 + (rchL (c0 :: ct)).length), .list true (.agg [.leaf, .agg [.leaf]]) []]]) (lvlsL (L.take k) ++ [lvlI ((c0 :: ct), [])]) rfl (by show List.take k (List.drop 0 (lvlsL (L.take k))) ++ [_] = lvlsL (L.take k) ++ [_]; rw [List.drop_zero, List.take_of_length_le (by simp; omega)]; rfl) (leDs_app (ler _ _) (.cons _ _ _ _ (leLvl (leRow (ds := rchL (c0 :: ct)) rfl (Nat.zero_add _).symm) (.full true _ _) rfl rfl) .nil)) (by rw [shapes_app, shapes_app]; rfl) (okDs_app (ok_lvls _) rfl) (.refl _))) (by repeat (first | exact trivial | refine seC rfl rfl ?_ | refine seL (leRow rfl rfl) rfl ?_)) (shC rfl rfl (shC rfl rfl (shC rfl rfl (shR rfl (lvls_snoc hl).symm (cl_lvls _) trivial)))) rfl rfl (by dsimp only; omega) (.inr (.inl ⟨by dsimp only; omega, by dsimp only; omega, rfl⟩))
      · by_cases hki : k = i
        · subst hki
          rw [hl] at hi
          cases hi
          exact nx (X := Nat × List Ob) (k + 1, [.var (prfI L), .var (.agg [.nils]), .var (.agg [.sl 3 0 (k + 1)]), .row (.agg [.leaf, .leaf]) (cpL L k (k + 1) (keepD (y0 :: yt) (n0 :: nt))), .row (.agg [.leaf, .leaf]) (rchL (y0 :: yt)), .row (.agg [.leaf, .agg [.leaf]]) (unsL (n0 :: nt))]) [0, 1, 2, 8, 4, 5] (by repeat (first | exact trivial | refine seC rfl rfl ?_ | refine seL (leRow rfl rfl) rfl ?_)) (shC rfl rfl (shC rfl rfl (shC rfl rfl (shK rfl (by rw [cpL_at]; show List.take k (List.drop 0 (lvlsL (L.take k))) ++ [_] = _ ++ [_]; rw [List.drop_zero, List.take_of_length_le (by simp; omega)]; rfl) rfl rfl (shR rfl rfl (cl_rch _) (shR rfl rfl (cl_uns _) trivial)))))) rfl rfl (by dsimp only; omega) (.inr (.inr ⟨by dsimp only; omega, by dsimp only; omega, rfl⟩))
        · exact nxF (X := Nat × List Ob) (k + 1, [.var (prfI L), .var (.agg [.nils]), .var (.agg [.sl 3 0 (k + 1)]), .row (.agg [.leaf, .leaf]) (lvlsL (L.take (k + 1)))]) [0, 1, 2, 8] (.step 4 (.agg [.leaf, .leaf]) (rchL (c0 :: ct)) rfl (cl_rch _) (.step 5 (.agg [.leaf, .agg [.leaf]]) (unsL (d0 :: dt)) rfl (cl_uns _) (frzRow 8 (lvlsL (L.take k) ++ [.agg [.sl 4 0 (0 + (rchL (c0 :: ct)).length), .sl 5 0 (0 + (unsL (d0 :: dt)).length)]]) (lvlsL (L.take k) ++ [lvlI ((c0 :: ct), (d0 :: dt))]) rfl (by show List.take k (List.drop 0 (lvlsL (L.take k))) ++ [_] = lvlsL (L.take k) ++ [_]; rw [List.drop_zero, List.take_of_length_le (by simp; omega)]; rfl) (leDs_app (ler _ _) (.cons _ _ _ _ (leLvl (leRow (ds := rchL (c0 :: ct)) rfl (Nat.zero_add _).symm) (leRow (ds := unsL (d0 :: dt)) rfl (Nat.zero_add _).symm) rfl rfl) .nil)) (by rw [shapes_app, shapes_app]; rfl) (okDs_app (ok_lvls _) rfl) (.refl _)))) (by repeat (first | exact trivial | refine seC rfl rfl ?_ | refine seL (leRow rfl rfl) rfl ?_)) (shC rfl rfl (shC rfl rfl (shC rfl rfl (shR rfl (lvls_snoc hl).symm (cl_lvls _) trivial)))) rfl rfl (by dsimp only; omega) (.inr (.inl ⟨by dsimp only; omega, by dsimp only; omega, rfl⟩))
      · exact nxF (X := Nat × List Ob) (k + 1, [.var (prfI L), .var (.agg [.nils]), .var (.agg [.sl 3 0 (k + 1)]), .row (.agg [.leaf, .leaf]) (cpL L i (k + 1) (keepD (y0 :: yt) (n0 :: nt))), .row (.agg [.leaf, .leaf]) (rchL (y0 :: yt)), .row (.agg [.leaf, .agg [.leaf]]) (unsL (n0 :: nt))]) [0, 1, 2, 8, 4, 5] (frzRow 8 (cpL L i k (keepD (y0 :: yt) (n0 :: nt)) ++ [.agg [.list true (.agg [.leaf, .leaf]) [], .list true (.agg [.leaf, .agg [.leaf]]) []]]) (cpL L i k (keepD (y0 :: yt) (n0 :: nt)) ++ [lvlI ([], [])]) rfl (by show List.take k (List.drop 0 (cpL L i k (keepD (y0 :: yt) (n0 :: nt)))) ++ [_] = cpL L i k (keepD (y0 :: yt) (n0 :: nt)) ++ [_]; rw [List.drop_zero, List.take_of_length_le (by omega)]; rfl) (leDs_app (ler _ _) (.cons _ _ _ _ (leLvl (.full true _ _) (.full true _ _) rfl rfl) .nil)) (by rw [shapes_app, shapes_app]; rfl) (okDs_app (okDs_app (ok_lvls _) (okDs_mk rfl (ok_lvls _))) rfl) (.refl _)) (by repeat (first | exact trivial | refine seC rfl rfl ?_ | refine seL (leRow rfl rfl) rfl ?_)) (shC rfl rfl (shC rfl rfl (shC rfl rfl (shK rfl (cpL_snoc hl hk).symm rfl rfl (shR rfl rfl (cl_rch _) (shR rfl rfl (cl_uns _) trivial)))))) rfl rfl (by dsimp only; omega) (.inr (.inr ⟨by dsimp only; omega, by dsimp only; omega, rfl⟩))
      · exact nxF (X := Nat × List Ob) (k + 1, [.var (prfI L), .var (.agg [.nils]), .var (.agg [.sl 3 0 (k + 1)]), .row (.agg [.leaf, .leaf]) (cpL L i (k + 1) (keepD (y0 :: yt) (n0 :: nt))), .row (.agg [.leaf, .leaf]) (rchL (y0 :: yt)), .row (.agg [.leaf, .agg [.leaf]]) (unsL (n0 :: nt))]) [0, 1, 2, 9, 4, 5] (.step 6 (.agg [.leaf, .agg [.leaf]]) (unsL (d0 :: dt)) rfl (cl_uns _) (frzRow 9 (cpL L i k (keepD (y0 :: yt) (n0 :: nt)) ++ [.agg [.list true (.agg [.leaf, .leaf]) [], .sl 6 0 (0 + (unsL (d0 :: dt)).length)]]) (cpL L i k (keepD (y0 :: yt) (n0 :: nt)) ++ [lvlI ([], (d0 :: dt))]) rfl (by show List.take k (List.drop 0 (cpL L i k (keepD (y0 :: yt) (n0 :: nt)))) ++ [_] = cpL L i k (keepD (y0 :: yt) (n0 :: nt)) ++ [_]; rw [List.drop_zero, List.take_of_length_le (by omega)]; rfl) (leDs_app (ler _ _) (.cons _ _ _ _ (leLvl (.full true _ _) (leRow (ds := unsL (d0 :: dt)) rfl (Nat.zero_add _).symm) rfl rfl) .nil)) (by rw [shapes_app, shapes_app]; rfl) (okDs_app (okDs_app (ok_lvls _) (okDs_mk rfl (ok_lvls _))) rfl) (.refl _))) (by repeat (first | exact trivial | refine seC rfl rfl ?_ | refine seL (leRow rfl rfl) rfl ?_)) (shC rfl rfl (shC rfl rfl (shC rfl rfl (shK rfl (cpL_snoc hl hk).symm rfl rfl (shR rfl rfl (cl_rch _) (shR rfl rfl (cl_uns _) trivial)))))) rfl rfl (by dsimp only; omega) (.inr (.inr ⟨by dsimp only; omega, by dsimp only; omega, rfl⟩))
      · exact nxF (X := Nat × List Ob) (k + 1, [.var (prfI L), .var (.agg [.nils]), .var (.agg [.sl 3 0 (k + 1)]), .row (.agg [.leaf, .leaf]) (cpL L i (k + 1) (keepD (y0 :: yt) (n0 :: nt))), .row (.agg [.leaf, .leaf]) (rchL (y0 :: yt)), .row (.agg [.leaf, .agg [.leaf]]) (unsL (n0 :: nt))]) [0, 1, 2, 9, 4, 5] (.step 6 (.agg [.leaf, .leaf]) (rchL (c0 :: ct)) rfl (cl_rch _) (frzRow 9 (cpL L i k (keepD (y0 :: yt) (n0 :: nt)) ++ [.agg [.sl 6 0 (0 + (rchL (c0 :: ct)).length), .list true (.agg [.leaf, .agg [.leaf]]) []]]) (cpL L i k (keepD (y0 :: yt) (n0 :: nt)) ++ [lvlI ((c0 :: ct), [])]) rfl (by show List.take k (List.drop 0 (cpL L i k (keepD (y0 :: yt) (n0 :: nt)))) ++ [_] = cpL L i k (keepD (y0 :: yt) (n0 :: nt)) ++ [_]; rw [List.drop_zero, List.take_of_length_le (by omega)]; rfl) (leDs_app (ler _ _) (.cons _ _ _ _ (leLvl (leRow (ds := rchL (c0 :: ct)) rfl (Nat.zero_add _).symm) (.full true _ _) rfl rfl) .nil)) (by rw [shapes_app, shapes_app]; rfl) (okDs_app (okDs_app (ok_lvls _) (okDs_mk rfl (ok_lvls _))) rfl) (.refl _))) (by repeat (first | exact trivial | refine seC rfl rfl ?_ | refine seL (leRow rfl rfl) rfl ?_)) (shC rfl rfl (shC rfl rfl (shC rfl rfl (shK rfl (cpL_snoc hl hk).symm rfl rfl (shR rfl rfl (cl_rch _) (shR rfl rfl (cl_uns _) trivial)))))) rfl rfl (by dsimp only; omega) (.inr (.inr ⟨by dsimp only; omega, by dsimp only; omega, rfl⟩))
      · exact nxF (X := Nat × List Ob) (k + 1, [.var (prfI L), .var (.agg [.nils]), .var (.agg [.sl 3 0 (k + 1)]), .row (.agg [.leaf, .leaf]) (cpL L i (k + 1) (keepD (y0 :: yt) (n0 :: nt))), .row (.agg [.leaf, .leaf]) (rchL (y0 :: yt)), .row (.agg [.leaf, .agg [.leaf]]) (unsL (n0 :: nt))]) [0, 1, 2, 10, 4, 5] (.step 6 (.agg [.leaf, .leaf]) (rchL (c0 :: ct)) rfl (cl_rch _) (.step 7 (.agg [.leaf, .agg [.leaf]]) (unsL (d0 :: dt)) rfl (cl_uns _) (frzRow 10 (cpL L i k (keepD (y0 :: yt) (n0 :: nt)) ++ [.agg [.sl 6 0 (0 + (rchL (c0 :: ct)).length), .sl 7 0 (0 + (unsL (d0 :: dt)).length)]]) (cpL L i k (keepD (y0 :: yt) (n0 :: nt)) ++ [lvlI ((c0 :: ct), (d0 :: dt))]) rfl (by show List.take k (List.drop 0 (cpL L i k (keepD (y0 :: yt) (n0 :: nt)))) ++ [_] = cpL L i k (keepD (y0 :: yt) (n0 :: nt)) ++ [_]; rw [List.drop_zero, List.take_of_length_le (by omega)]; rfl) (leDs_app (ler _ _) (.cons _ _ _ _ (leLvl (leRow (ds := rchL (c0 :: ct)) rfl (Nat.zero_add _).symm) (leRow (ds := unsL (d0 :: dt)) rfl (Nat.zero_add _).symm) rfl rfl) .nil)) (by rw [shapes_app, shapes_app]; rfl) (okDs_app (okDs_app (ok_lvls _) (okDs_mk rfl (ok_lvls _))) rfl) (.refl _)))) (by repeat (first | exact trivial | refine seC rfl rfl ?_ | refine seL (leRow rfl rfl) rfl ?_)) (shC rfl rfl (shC rfl rfl (shC rfl rfl (shK rfl (cpL_snoc hl hk).symm rfl rfl (shR rfl rfl (cl_rch _) (shR rfl rfl (cl_uns _) trivial)))))) rfl rfl (by dsimp only; omega) (.inr (.inr ⟨by dsimp only; omega, by dsimp only; omega, rfl⟩))
    · rcases hcase with ⟨hk, rfl⟩ | ⟨hk, hk2, rfl⟩ | ⟨hk, hk2, rfl⟩
      · exfalso; omega
      · exfalso; omega
      · have hkn : k = L.length := by omega
        subst hkn
        repeat' (
         conv => whnf
         first
         | refine ifd (fun h => ?_) (fun h => ?_)
         | ((with_reducible apply drT 18); rfl)
         | ((with_reducible apply ob); ((first | rfl | assumption | omega | (unfold maxLen2; omega) | (dsimp only; omega) | (simp only [LN]; omega) | (simp; done) | (simp; omega)))))
        all_goals (conv => whnf)
        all_goals (first | (exfalso; omega) | skip)
        exact fin_in ⟨rfl, rfl⟩

end Go.Proofs.YthfcfdlbnfcboaaDoor.Pw

/- R20.Changed. -/
set_option linter.unusedVariables false
set_option linter.unusedSimpArgs false
set_option maxHeartbeats 4000000
set_option maxRecDepth 10000
namespace Go.Proofs.YthfcfdlbnfcboaaDoor.Pw
open Go

/-- What Changed makes of a level. -/
def chgV (l : Lvl) (z0 z2 z3 : Nat) (g : List Int) : Lvl :=
  let y := z2 % (l.1.length + 1)
  let n := z2 % (l.2.length + 1)
  if z0 % 8 = 0 then (match l.1[y]? with | some r => (l.1.take y ++ l.1.drop (y + 1), withI l.2 (r.1, .node [])) | none => l) else
  if z0 % 8 = 1 then (match l.2[n]? with | some u => (reachI l.1 (u.1, g), l.2.take n ++ l.2.drop (n + 1)) | none => l) else
  if z0 % 8 = 2 then (match l.1[y]? with | some r => (l.1.set y (r.1, g), l.2) | none => l) else
  if z0 % 8 = 3 then (match l.2[n]? with | some u => (l.1, l.2.set n (u.1, chgT [z3, z2] u.2 (z3 / 16))) | none => l) else
  if z0 % 8 = 4 then (match l.1[y]? with | some r => (l.1.take y ++ l.1.drop (y + 1), l.2) | none => l) else
  if z0 % 8 = 5 then (match l.1[y]? with | some r => (l.1 ++ [r], l.2) | none => l) else
  (match l.2[n]? with | some u => (l.1, l.2.set n (((z3 % 9 : Nat) : Int), u.2)) | none => l)
def chgL (L : List Lvl) (z0 z1 z2 z3 : Nat) (g : List Int) : List Lvl :=
  match L[z1 % L.length]? with
  | none => L
  | some l => if z0 % 8 = 6 then L.take (z1 % L.length) else L.set (z1 % L.length) (chgV l z0 z2 z3 g)
theorem ren_cpL (ρ : List Nat) (L : List Lvl) (i k : Nat) (d : D) : renDs ρ (cpL L i k d) = cpL L i k (renD ρ d) := by
  unfold cpL
  rw [renDs_app, ren_cls ρ _ (cl_lvls _)]
  simp only [renDs]
  rw [ren_cls ρ _ (cl_lvls _)]
theorem cpL_get {L : List Lvl} {i : Nat} {d : D} (hi : i < L.length) : (cpL L i L.length d)[i]? = some d := by
  unfold cpL
  rw [List.getElem?_append_right (by simp; omega)]
  have : i - (lvlsL (L.take i)).length = 0 := by simp; omega
  rw [this]; rfl
theorem cpL_set {L : List Lvl} {i : Nat} {d x : D} (hi : i < L.length) : (cpL L i L.length d).set i x = cpL L i L.length x := by
  unfold cpL
  rw [List.set_append_right (h := by simp; omega)]
  have : i - (lvlsL (L.take i)).length = 0 := by simp; omega
  rw [this]; rfl
theorem cpL_lvl {L : List Lvl} {i : Nat} {l : Lvl} (hi : i < L.length) : cpL L i L.length (lvlI l) = lvlsL (L.set i l) := by
  unfold cpL
  rw [List.take_length, List.set_eq_take_append_cons_drop, if_pos hi]
  simp [lvlsL]
theorem ivModQ {a b p : Nat} {x : Int} {k : Int → Prop} (hx : x = (b : Int)) (h : a % b = p) (hk : k (p : Int)) : ∃ r, ((a : Int).tmod x) = r ∧ k r := ⟨_, by rw [hx, ← Int.ofNat_tmod, h], hk⟩
theorem iv01 {k : Int → Prop} (hk : k 1) : ∃ r, IntKind.i64.wrap ((([] : List D).length : Int) + 1) = r ∧ k r := ⟨1, by decide, hk⟩
theorem ivMod1 {a : Nat} {k : Int → Prop} (hk : k 0) : ∃ r, ((a : Int).tmod 1) = r ∧ k r := ⟨0, by rw [show (1 : Int) = ((1 : Nat) : Int) from rfl, ← Int.ofNat_tmod, Nat.mod_one]; rfl, hk⟩
theorem exC2 {l : List (Int × List Int)} {n : Nat} {R : D → D → Prop} (h : n < l.length) (hk : ∀ aj am, l[n]? = some (aj, am) → ∃ x, R (.agg [.int .i64 aj, intsD am]) x) : ∃ d x, (rchL l)[n]? = some d ∧ R d x := by
  obtain ⟨x, hx⟩ := hk l[n].1 l[n].2 (List.getElem?_eq_getElem h)
  exact ⟨rchD l[n], x, by simp [rchL, h], hx⟩
theorem exW2 {l : List (Int × Tree)} {n : Nat} {R : D → D → Prop} (h : n < l.length) (hk : ∀ aj am, l[n]? = some (aj, am) → ∃ x, R (.agg [.int .i64 aj, treeD am]) x) : ∃ d x, (unsL l)[n]? = some d ∧ R d x := by
  obtain ⟨x, hx⟩ := hk l[n].1 l[n].2 (List.getElem?_eq_getElem h)
  exact ⟨unsD l[n], x, by simp [unsL, h], hx⟩
theorem exWh {l : List (Int × Tree)} {n : Nat} {aj : Int} {am : Tree} {R : D → D → Prop} (h : l[n]? = some (aj, am)) (hk : ∃ x, R (.agg [.int .i64 aj, treeD am]) x) : ∃ d x, (unsL l)[0 + (n : Int).toNat]? = some d ∧ R d x := by
  obtain ⟨x, hx⟩ := hk
  exact ⟨unsD (aj, am), x, by rw [Nat.zero_add, Int.toNat_natCast]; simp [unsL, h], hx⟩
theorem exSub {d y : D} {p : List Nat} {k : D → Prop} (h : subD d p = some y) (hk : k y) : ∃ x, subD d p = some x ∧ k x := ⟨y, h, hk⟩
theorem frStep {H H' : List Ob} (g : Nat) {sh : Sh} {ds0 : List D} (ds : List D) (h : H.getD g .dead = .row sh ds0) (he : ds0 = ds) (hc : clDs ds = true) (hn : Frz (H.set g (.frz sh ds)) H') : Frz H H' := by
  subst he; exact .step g sh ds0 h hc hn
theorem leCp {H : List Ob} {L : List Lvl} {i k : Nat} {a b : D} (h : LeD H a b) : LeDs H (cpL L i k a) (cpL L i k b) := leDs_app (ler _ _) (.cons _ _ _ _ h (ler _ _))
theorem shCp {L : List Lvl} {i k : Nat} {a b : D} (h : shape a = shape b) : shapes (cpL L i k a) = shapes (cpL L i k b) := by
  unfold cpL; rw [shapes_app, shapes_app]; simp only [shapes, h]
theorem okCp {L : List Lvl} {i k : Nat} (l : Lvl) : okDs (cpL L i k (lvlI l)) = true := okDs_app (ok_lvls _) (okDs_mk rfl (ok_lvls _))
theorem ivDiv8 {a : Nat} {k : Int → Prop} (h : a < 256) (hk : k ((a / 16 : Nat) : Int)) : ∃ r, IntKind.u8.wrap ((a : Int).tdiv 16) = r ∧ k r := by
  refine ⟨_, ?_, hk⟩
  rw [show (16 : Int) = ((16 : Nat) : Int) from rfl, ← Int.ofNat_tdiv]
  have h2 : a / 16 < 256 := by omega
  generalize a / 16 = b at h2
  revert b; decide
theorem chgV_y {ys : List (Int × List Int)} {ns : List (Int × Tree)} {z0 z2 z3 : Nat} {g : List Int} (h : z0 % 8 = 0 ∨ z0 % 8 = 2 ∨ z0 % 8 = 4 ∨ z0 % 8 = 5) (hr : ys[z2 % (ys.length + 1)]? = none) : chgV (ys, ns) z0 z2 z3 g = (ys, ns) := by
  unfold chgV; simp only [hr]
  rcases h with h | h | h | h <;> simp [h]
theorem chgV_n {ys : List (Int × List Int)} {ns : List (Int × Tree)} {z0 z2 z3 : Nat} {g : List Int} (h : z0 % 8 = 1 ∨ z0 % 8 = 3 ∨ z0 % 8 = 7) (hr : ns[z2 % (ns.length + 1)]? = none) : chgV (ys, ns) z0 z2 z3 g = (ys, ns) := by
  unfold chgV; simp only [hr]
  rcases h with h | h | h <;> simp [h]
theorem chgV0 {ys : List (Int × List Int)} {ns : List (Int × Tree)} {z0 z2 z3 : Nat} {g : List Int} {r : Int × List Int} (h : z0 % 8 = 0) (hr : ys[z2 % (ys.length + 1)]? = some r) : chgV (ys, ns) z0 z2 z3 g = (ys.take (z2 % (ys.length + 1)) ++ ys.drop (z2 % (ys.length + 1) + 1), withI ns (r.1, .node [])) := by
  unfold chgV; simp [hr, h]
theorem chgV1 {ys : List (Int × List Int)} {ns : List (Int × Tree)} {z0 z2 z3 : Nat} {g : List Int} {u : Int × Tree} (h : z0 % 8 = 1) (hr : ns[z2 % (ns.length + 1)]? = some u) : chgV (ys, ns) z0 z2 z3 g = (reachI ys (u.1, g), ns.take (z2 % (ns.length + 1)) ++ ns.drop (z2 % (ns.length + 1) + 1)) := by
  unfold chgV; simp [hr, h]
theorem chgV2 {ys : List (Int × List Int)} {ns : List (Int × Tree)} {z0 z2 z3 : Nat} {g : List Int} {r : Int × List Int} (h : z0 % 8 = 2) (hr : ys[z2 % (ys.length + 1)]? = some r) : chgV (ys, ns) z0 z2 z3 g = (ys.set (z2 % (ys.length + 1)) (r.1, g), ns) := by
  unfold chgV; simp [hr, h]
theorem chgV3 {ys : List (Int × List Int)} {ns : List (Int × Tree)} {z0 z2 z3 : Nat} {g : List Int} {u : Int × Tree} (h : z0 % 8 = 3) (hr : ns[z2 % (ns.length + 1)]? = some u) : chgV (ys, ns) z0 z2 z3 g = (ys, ns.set (z2 % (ns.length + 1)) (u.1, chgT [z3, z2] u.2 (z3 / 16))) := by
  unfold chgV; simp [hr, h]
theorem chgV4 {ys : List (Int × List Int)} {ns : List (Int × Tree)} {z0 z2 z3 : Nat} {g : List Int} {r : Int × List Int} (h : z0 % 8 = 4) (hr : ys[z2 % (ys.length + 1)]? = some r) : chgV (ys, ns) z0 z2 z3 g = (ys.take (z2 % (ys.length + 1)) ++ ys.drop (z2 % (ys.length + 1) + 1), ns) := by
  unfold chgV; simp [hr, h]
theorem chgV5 {ys : List (Int × List Int)} {ns : List (Int × Tree)} {z0 z2 z3 : Nat} {g : List Int} {r : Int × List Int} (h : z0 % 8 = 5) (hr : ys[z2 % (ys.length + 1)]? = some r) : chgV (ys, ns) z0 z2 z3 g = (ys ++ [r], ns) := by
  unfold chgV; simp [hr, h]
theorem chgV7 {ys : List (Int × List Int)} {ns : List (Int × Tree)} {z0 z2 z3 : Nat} {g : List Int} {u : Int × Tree} (h : z0 % 8 = 7) (hr : ns[z2 % (ns.length + 1)]? = some u) : chgV (ys, ns) z0 z2 z3 g = (ys, ns.set (z2 % (ns.length + 1)) (((z3 % 9 : Nat) : Int), u.2)) := by
  unfold chgV; simp [hr, h]
theorem exK {L : List Lvl} {i : Nat} {d : D} {k : D → Prop} (hi : i < L.length) (hk : k d) : ∃ x, (cpL L i L.length d)[0 + (i : Int).toNat]? = some x ∧ k x :=
  ⟨_, by rw [Nat.zero_add]; exact cpL_get hi, hk⟩

/-- The same, with other numbers. -/
def keepE : List (Int × List Int) → List (Int × Tree) → D
  | [], [] => .agg [.list true (.agg [.leaf, .leaf]) [], .list true (.agg [.leaf, .agg [.leaf]]) []]
  | [], n :: ns => .agg [.list true (.agg [.leaf, .leaf]) [], .sl 7 0 (0 + (unsL (n :: ns)).length)]
  | y :: ys, [] => .agg [.sl 7 0 (0 + (rchL (y :: ys)).length), .list true (.agg [.leaf, .agg [.leaf]]) []]
  | y :: ys, n :: ns => .agg [.sl 7 0 (0 + (rchL (y :: ys)).length), .sl 8 0 (0 + (unsL (n :: ns)).length)]
theorem copiedAt (L : List Lvl) (i : Nat) (ys : List (Int × List Int)) (ns : List (Int × Tree)) (hi : L[i]? = some (ys, ns)) (hb : ∀ l ∈ L, l.1.length ≤ 1000000 ∧ l.2.length ≤ 1000000) (hLb : L.length ≤ 1000000) {o0 o1 o2 : Ob} {Q : D → List Ob → Prop}
    (h : Q (.agg [.sl 6 0 L.length]) ([o0, o1, o2, .var (prfI L), .var (.agg [.sl 6 0 L.length]), .var (.agg [.sl 6 0 L.length]), .row (.agg [.leaf, .leaf]) (cpL L i L.length (keepE ys ns))] ++ keepR ys ns)) :
    HC Tryd.prog 52 [prfI L] [o0, o1, o2] Q := by
  refine HC.frame [] (hcCopied L i ys ns hi hb hLb) (.refl _) trivial rfl (by simp) (ler _ _) rfl ?_
  rintro r H0' hq hlen
  obtain ⟨rfl, rfl⟩ := fin_out hq
  have e1 : ∀ ρ, renDs ρ (rchL ys) = rchL ys := fun ρ => ren_cls ρ _ (cl_rch _)
  have e2 : ∀ ρ, renDs ρ (unsL ns) = unsL ns := fun ρ => ren_cls ρ _ (cl_uns _)
  rcases ys with _ | ⟨y0, yt⟩ <;> rcases ns with _ | ⟨n0, nt⟩
  · have e : ([o0, o1, o2, .var (prfI L), .var (.agg [.sl 6 0 L.length]), .var (.agg [.sl 6 0 L.length]), .row (.agg [.leaf, .leaf]) (renDs [3, 4, 5, 6] (cpL L i L.length (keepD [] [])))] : List Ob) = [o0, o1, o2, .var (prfI L), .var (.agg [.sl 6 0 L.length]), .var (.agg [.sl 6 0 L.length]), .row (.agg [.leaf, .leaf]) (cpL L i L.length (keepE [] []))] ++ keepR [] [] := by rw [ren_cpL]; rfl
    rw [← e] at h; exact h
  · have e : ([o0, o1, o2, .var (prfI L), .var (.agg [.sl 6 0 L.length]), .var (.agg [.sl 6 0 L.length]), .row (.agg [.leaf, .leaf]) (renDs [3, 4, 5, 6, 7] (cpL L i L.length (keepD [] (n0 :: nt)))), .row (.agg [.leaf, .agg [.leaf]]) (renDs [3, 4, 5, 6, 7] (unsL (n0 :: nt)))] : List Ob) = [o0, o1, o2, .var (prfI L), .var (.agg [.sl 6 0 L.length]), .var (.agg [.sl 6 0 L.length]), .row (.agg [.leaf, .leaf]) (cpL L i L.length (keepE [] (n0 :: nt)))] ++ keepR [] (n0 :: nt) := by rw [ren_cpL, e2]; rfl
    rw [← e] at h; exact h
  · have e : ([o0, o1, o2, .var (prfI L), .var (.agg [.sl 6 0 L.length]), .var (.agg [.sl 6 0 L.length]), .row (.agg [.leaf, .leaf]) (renDs [3, 4, 5, 6, 7] (cpL L i L.length (keepD (y0 :: yt) []))), .row (.agg [.leaf, .leaf]) (renDs [3, 4, 5, 6, 7] (rchL (y0 :: yt)))] : List Ob) = [o0, o1, o2, .var (prfI L), .var (.agg [.sl 6 0 L.length]), .var (.agg [.sl 6 0 L.length]), .row (.agg [.leaf, .leaf]) (cpL L i L.length (keepE (y0 :: yt) []))] ++ keepR (y0 :: yt) [] := by rw [ren_cpL, e1]; rfl
    rw [← e] at h; exact h
  · have e : ([o0, o1, o2, .var (prfI L), .var (.agg [.sl 6 0 L.length]), .var (.agg [.sl 6 0 L.length]), .row (.agg [.leaf, .leaf]) (renDs [3, 4, 5, 6, 7, 8] (cpL L i L.length (keepD (y0 :: yt) (n0 :: nt)))), .row (.agg [.leaf, .leaf]) (renDs [3, 4, 5, 6, 7, 8] (rchL (y0 :: yt))), .row (.agg [.leaf, .agg [.leaf]]) (renDs [3, 4, 5, 6, 7, 8] (unsL (n0 :: nt)))] : List Ob) = [o0, o1, o2, .var (prfI L), .var (.agg [.sl 6 0 L.length]), .var (.agg [.sl 6 0 L.length]), .row (.agg [.leaf, .leaf]) (cpL L i L.length (keepE (y0 :: yt) (n0 :: nt)))] ++ keepR (y0 :: yt) (n0 :: nt) := by rw [ren_cpL, e1, e2]; rfl
    rw [← e] at h; exact h

theorem vRChg00 (L : List Lvl) (z0 z1 z2 z3 : Nat) (g : List Int) (hL1 : 1 ≤ L.length) (hLb : L.length ≤ 1000000) (hb : ∀ l ∈ L, l.1.length ≤ 1000000 ∧ l.2.length ≤ 1000000) (ht : ∀ l ∈ L, ∀ u ∈ l.2, tbT 3 u.2) (hz0 : z0 < 256) (hz1 : z1 < 256) (hz2 : z2 < 256) (hz3 : z3 < 256) (i : Nat) (hi : z1 % L.length = i) (hiL : i < L.length) (hl : L[i]? = some ([], [])) (hbi : ([] : List (Int × List Int)).length ≤ 1000000 ∧ ([] : List (Int × Tree)).length ≤ 1000000) (hti : ∀ u ∈ ([] : List (Int × Tree)), tbT 3 u.2) (hchg : chgL L z0 z1 z2 z3 g = if z0 % 8 = 6 then L.take i else L.set i (chgV ([], []) z0 z2 z3 g)) :
    Val Tryd.prog 23 [prfI L, .agg [.int .u8 (z0 : Int), .int .u8 (z1 : Int), .int .u8 (z2 : Int), .int .u8 (z3 : Int)], intsD g] (fun r => r = prfI (chgL L z0 z1 z2 z3 g)) := by
  refine Val.ofV ?_
  refine hc_ofS (okc Tryd.f23.ntmps 0) (fn := Tryd.f23) (cd := _) rfl rfl rfl rfl rfl rfl (fun hbd => ?_)
  all_goals (conv => whnf)
  · refine copiedAt L i _ _ hl hb hLb ?_
    simp only [List.length_cons, List.length_nil] at hbi
    have hcl : (cpL L i L.length (keepE [] [])).length = L.length := cpL_len (Nat.le_refl _) hiL
    repeat' (
     conv => whnf
     first
     | refine ifd (fun h => ?_) (fun h => ?_)
     | with_reducible refine ivW (by omega) (by omega) ?_
     | (refine ivModE (a := z1) (b := L.length) hi ?_)
     | ((with_reducible refine exK hiL ?_))
     | (refine ivMod (a := z0) (b := 8) ?_)
     | ((with_reducible refine iv01 ?_))
     | ((with_reducible refine ivMod1 ?_))
     | ((with_reducible apply ob); ((first | rfl | assumption | omega | (unfold maxLen2; omega) | (dsimp only; omega) | (simp only [LN]; omega) | (simp; done) | (simp; omega)))))
    all_goals (conv => whnf)
    all_goals (first | (exfalso; omega) | skip)
    · exact fin_in ⟨_, prfI (L.set i ([], [])), (frzRow 6 (cpL L i L.length (.agg [.list true (.agg [.leaf, .leaf]) [], .list true (.agg [.leaf, .agg [.leaf]]) []])) (cpL L i L.length (lvlI ([], []))) rfl (by rw [Nat.zero_add]; exact cpL_set hiL) (leCp (leLvl (.full true _ _) (.full true _ _) rfl rfl)) (shCp rfl) (okCp _) (frStep 6 (lvlsL (L.set i ([], []))) rfl (cpL_lvl hiL) (cl_lvls _) (.refl _))), .agg _ _ (.cons _ _ _ _ (leRow (ds := lvlsL (L.set i ([], []))) rfl (by simp)) .nil) rfl, rfl, by rw [hchg, if_neg (by omega), chgV_y (by omega) rfl]⟩
    · exact fin_in ⟨_, prfI (L.set i ([], [])), (frzRow 6 (cpL L i L.length (.agg [.list true (.agg [.leaf, .leaf]) [], .list true (.agg [.leaf, .agg [.leaf]]) []])) (cpL L i L.length (lvlI ([], []))) rfl (by rw [Nat.zero_add]; exact cpL_set hiL) (leCp (leLvl (.full true _ _) (.full true _ _) rfl rfl)) (shCp rfl) (okCp _) (frStep 6 (lvlsL (L.set i ([], []))) rfl (cpL_lvl hiL) (cl_lvls _) (.refl _))), .agg _ _ (.cons _ _ _ _ (leRow (ds := lvlsL (L.set i ([], []))) rfl (by simp)) .nil) rfl, rfl, by rw [hchg, if_neg (by omega), chgV_n (by omega) rfl]⟩
    · exact fin_in ⟨_, prfI (L.set i ([], [])), (frzRow 6 (cpL L i L.length (.agg [.list true (.agg [.leaf, .leaf]) [], .list true (.agg [.leaf, .agg [.leaf]]) []])) (cpL L i L.length (lvlI ([], []))) rfl (by rw [Nat.zero_add]; exact cpL_set hiL) (leCp (leLvl (.full true _ _) (.full true _ _) rfl rfl)) (shCp rfl) (okCp _) (frStep 6 (lvlsL (L.set i ([], []))) rfl (cpL_lvl hiL) (cl_lvls _) (.refl _))), .agg _ _ (.cons _ _ _ _ (leRow (ds := lvlsL (L.set i ([], []))) rfl (by simp)) .nil) rfl, rfl, by rw [hchg, if_neg (by omega), chgV_y (by omega) rfl]⟩
    · exact fin_in ⟨_, prfI (L.set i ([], [])), (frzRow 6 (cpL L i L.length (.agg [.list true (.agg [.leaf, .leaf]) [], .list true (.agg [.leaf, .agg [.leaf]]) []])) (cpL L i L.length (lvlI ([], []))) rfl (by rw [Nat.zero_add]; exact cpL_set hiL) (leCp (leLvl (.full true _ _) (.full true _ _) rfl rfl)) (shCp rfl) (okCp _) (frStep 6 (lvlsL (L.set i ([], []))) rfl (cpL_lvl hiL) (cl_lvls _) (.refl _))), .agg _ _ (.cons _ _ _ _ (leRow (ds := lvlsL (L.set i ([], []))) rfl (by simp)) .nil) rfl, rfl, by rw [hchg, if_neg (by omega), chgV_n (by omega) rfl]⟩
    · exact fin_in ⟨_, prfI (L.set i ([], [])), (frzRow 6 (cpL L i L.length (.agg [.list true (.agg [.leaf, .leaf]) [], .list true (.agg [.leaf, .agg [.leaf]]) []])) (cpL L i L.length (lvlI ([], []))) rfl (by rw [Nat.zero_add]; exact cpL_set hiL) (leCp (leLvl (.full true _ _) (.full true _ _) rfl rfl)) (shCp rfl) (okCp _) (frStep 6 (lvlsL (L.set i ([], []))) rfl (cpL_lvl hiL) (cl_lvls _) (.refl _))), .agg _ _ (.cons _ _ _ _ (leRow (ds := lvlsL (L.set i ([], []))) rfl (by simp)) .nil) rfl, rfl, by rw [hchg, if_neg (by omega), chgV_y (by omega) rfl]⟩
    · exact fin_in ⟨_, prfI (L.set i ([], [])), (frzRow 6 (cpL L i L.length (.agg [.list true (.agg [.leaf, .leaf]) [], .list true (.agg [.leaf, .agg [.leaf]]) []])) (cpL L i L.length (lvlI ([], []))) rfl (by rw [Nat.zero_add]; exact cpL_set hiL) (leCp (leLvl (.full true _ _) (.full true _ _) rfl rfl)) (shCp rfl) (okCp _) (frStep 6 (lvlsL (L.set i ([], []))) rfl (cpL_lvl hiL) (cl_lvls _) (.refl _))), .agg _ _ (.cons _ _ _ _ (leRow (ds := lvlsL (L.set i ([], []))) rfl (by simp)) .nil) rfl, rfl, by rw [hchg, if_neg (by omega), chgV_y (by omega) rfl]⟩
    · exact fin_in ⟨_, prfI ((L.set i ([], [])).take i), (frzRow 6 (cpL L i L.length (.agg [.list true (.agg [.leaf, .leaf]) [], .list true (.agg [.leaf, .agg [.leaf]]) []])) (cpL L i L.length (lvlI ([], []))) rfl rfl (leCp (leLvl (.full true _ _) (.full true _ _) rfl rfl)) (shCp rfl) (okCp _) (frStep 6 (lvlsL (L.set i ([], []))) rfl (cpL_lvl hiL) (cl_lvls _) (.refl _))), .agg _ _ (.cons _ _ _ _ (leCut (ds := lvlsL (L.set i ([], []))) rfl (by simp; omega) (by simp [lvlsL])) .nil) rfl, rfl, by rw [hchg, if_pos (by omega), List.take_set_of_le (Nat.le_refl _)]⟩
    · exact fin_in ⟨_, prfI (L.set i ([], [])), (frzRow 6 (cpL L i L.length (.agg [.list true (.agg [.leaf, .leaf]) [], .list true (.agg [.leaf, .agg [.leaf]]) []])) (cpL L i L.length (lvlI ([], []))) rfl (by rw [Nat.zero_add]; exact cpL_set hiL) (leCp (leLvl (.full true _ _) (.full true _ _) rfl rfl)) (shCp rfl) (okCp _) (frStep 6 (lvlsL (L.set i ([], []))) rfl (cpL_lvl hiL) (cl_lvls _) (.refl _))), .agg _ _ (.cons _ _ _ _ (leRow (ds := lvlsL (L.set i ([], []))) rfl (by simp)) .nil) rfl, rfl, by rw [hchg, if_neg (by omega), chgV_n (by omega) rfl]⟩
theorem vRChg01 (L : List Lvl) (z0 z1 z2 z3 : Nat) (g : List Int) (hL1 : 1 ≤ L.length) (hLb : L.length ≤ 1000000) (hb : ∀ l ∈ L, l.1.length ≤ 1000000 ∧ l.2.length ≤ 1000000) (ht : ∀ l ∈ L, ∀ u ∈ l.2, tbT 3 u.2) (hz0 : z0 < 256) (hz1 : z1 < 256) (hz2 : z2 < 256) (hz3 : z3 < 256) (i : Nat) (hi : z1 % L.length = i) (hiL : i < L.length) (n0 : Int × Tree) (nt : List (Int × Tree)) (hl : L[i]? = some ([], (n0 :: nt))) (hbi : ([] : List (Int × List Int)).length ≤ 1000000 ∧ (n0 :: nt).length ≤ 1000000) (hti : ∀ u ∈ (n0 :: nt), tbT 3 u.2) (hchg : chgL L z0 z1 z2 z3 g = if z0 % 8 = 6 then L.take i else L.set i (chgV ([], (n0 :: nt)) z0 z2 z3 g)) :
    Val Tryd.prog 23 [prfI L, .agg [.int .u8 (z0 : Int), .int .u8 (z1 : Int), .int .u8 (z2 : Int), .int .u8 (z3 : Int)], intsD g] (fun r => r = prfI (chgL L z0 z1 z2 z3 g)) := by
  refine Val.ofV ?_
  refine hc_ofS (okc Tryd.f23.ntmps 0) (fn := Tryd.f23) (cd := _) rfl rfl rfl rfl rfl rfl (fun hbd => ?_)
  all_goals (conv => whnf)
  · refine copiedAt L i _ _ hl hb hLb ?_
    obtain ⟨n, hnp⟩ : ∃ n, z2 % (nt.length + 2) = n := ⟨_, rfl⟩
    have hnb : n < nt.length + 2 := by rw [← hnp]; exact Nat.mod_lt _ (by omega)
    have hnl : (unsL (n0 :: nt)).length = nt.length + 1 := by simp
    have hnl2 : (n0 :: nt).length = nt.length + 1 := rfl
    have hne : ((0 + (unsL (n0 :: nt)).length : Nat) : Int) + 1 = ((nt.length + 2 : Nat) : Int) := by rw [hnl]; omega
    simp only [List.length_cons, List.length_nil] at hbi
    have hcl : (cpL L i L.length (keepE [] (n0 :: nt))).length = L.length := cpL_len (Nat.le_refl _) hiL
    repeat' (
     conv => whnf
     first
     | refine ifd (fun h => ?_) (fun h => ?_)
     | with_reducible refine ivW (by omega) (by omega) ?_
     | (refine ivModE (a := z1) (b := L.length) hi ?_)
     | ((with_reducible refine exK hiL ?_))
     | (refine ivMod (a := z0) (b := 8) ?_)
     | (refine ivDiv8 hz3 ?_)
     | (refine ivMod (a := z3) (b := 9) ?_)
     | ((with_reducible apply drR 17); rfl)
     | ((with_reducible refine iv01 ?_))
     | ((with_reducible refine ivMod1 ?_))
     | (refine ivModQ hne hnp ?_)
     | ((with_reducible refine exW2 (by omega) ?_); rintro nj ⟨nk⟩ hn; simp only [Int.toNat_natCast, Nat.zero_add] at hn)
     | ((with_reducible apply exSub); (rfl))
     | ((with_reducible apply drT 10); rfl)
     | ((with_reducible apply ob); ((first | rfl | assumption | omega | (unfold maxLen2; omega) | (dsimp only; omega) | (simp only [LN]; omega) | (simp; done) | (simp; omega)))))
    all_goals (conv => whnf)
    all_goals (first | (exfalso; omega) | skip)
    · exact fin_in ⟨_, prfI (L.set i ([], (n0 :: nt))), (frStep 7 (unsL (n0 :: nt)) rfl rfl (cl_uns _) (frzRow 6 (cpL L i L.length (.agg [.list true (.agg [.leaf, .leaf]) [], .sl 7 0 (0 + (unsL (n0 :: nt)).length)])) (cpL L i L.length (lvlI ([], (n0 :: nt)))) rfl (by rw [Nat.zero_add]; exact cpL_set hiL) (leCp (leLvl (.full true _ _) (leRow (ds := unsL (n0 :: nt)) rfl (Nat.zero_add _).symm) rfl rfl)) (shCp rfl) (okCp _) (frStep 6 (lvlsL (L.set i ([], (n0 :: nt)))) rfl (cpL_lvl hiL) (cl_lvls _) (.refl _)))), .agg _ _ (.cons _ _ _ _ (leRow (ds := lvlsL (L.set i ([], (n0 :: nt)))) rfl (by simp)) .nil) rfl, rfl, by rw [hchg, if_neg (by omega), chgV_y (by omega) rfl]⟩
    · refine Val.call (vReach [] (nj, g) hbi.1) (.refl _) (.cons _ _ _ _ (.full true _ _) (.cons _ _ _ _ (.refl _) .nil)) rfl ?_
      rintro r rfl
      repeat' (
       conv => whnf
       first
       | with_reducible refine ivW (by omega) (by omega) ?_
       | ((with_reducible apply drT 9); rfl)
       | ((with_reducible apply ob); ((first | rfl | assumption | omega | (unfold maxLen2; omega) | (dsimp only; omega) | (simp only [LN]; omega) | (simp; done) | (simp; omega)))))
      all_goals (conv => whnf)
      all_goals (first | (exfalso; omega) | skip)
      exact fin_in ⟨_, prfI (L.set i (reachI [] (nj, g), ((n0 :: nt).take n ++ (n0 :: nt).drop (n + 1)))), (frStep 10 (unsL ((n0 :: nt).take n ++ (n0 :: nt).drop (n + 1))) rfl (by simp [unsL, List.map_take, List.map_drop]; try (first | omega | exact List.take_of_length_le (by simp))) (cl_uns _) (frzRow 6 (cpL L i L.length (.agg [.list false (.agg [.leaf, .leaf]) (rchL (reachI [] (nj, g))), .sl 10 0 _])) (cpL L i L.length (lvlI (reachI [] (nj, g), ((n0 :: nt).take n ++ (n0 :: nt).drop (n + 1))))) rfl (by rw [Nat.zero_add]; exact cpL_set hiL) (leCp (leLvl (.refl _) (leRow (ds := unsL ((n0 :: nt).take n ++ (n0 :: nt).drop (n + 1))) rfl (by simp [unsL]; try omega)) rfl rfl)) (shCp rfl) (okCp _) (frStep 6 (lvlsL (L.set i (reachI [] (nj, g), ((n0 :: nt).take n ++ (n0 :: nt).drop (n + 1))))) rfl (cpL_lvl hiL) (cl_lvls _) (.refl _)))), .agg _ _ (.cons _ _ _ _ (leRow (ds := lvlsL (L.set i (reachI [] (nj, g), ((n0 :: nt).take n ++ (n0 :: nt).drop (n + 1))))) rfl (by simp)) .nil) rfl, rfl, by rw [hchg, if_neg (by omega), chgV1 (u := (nj, .node nk)) (by omega) (by rw [show z2 % ((n0 :: nt).length + 1) = n from hnp]; exact hn), show z2 % ((n0 :: nt).length + 1) = n from hnp]⟩
    · exact fin_in ⟨_, prfI (L.set i ([], (n0 :: nt))), (frStep 7 (unsL (n0 :: nt)) rfl rfl (cl_uns _) (frzRow 6 (cpL L i L.length (.agg [.list true (.agg [.leaf, .leaf]) [], .sl 7 0 (0 + (unsL (n0 :: nt)).length)])) (cpL L i L.length (lvlI ([], (n0 :: nt)))) rfl (by rw [Nat.zero_add]; exact cpL_set hiL) (leCp (leLvl (.full true _ _) (leRow (ds := unsL (n0 :: nt)) rfl (Nat.zero_add _).symm) rfl rfl)) (shCp rfl) (okCp _) (frStep 6 (lvlsL (L.set i ([], (n0 :: nt)))) rfl (cpL_lvl hiL) (cl_lvls _) (.refl _)))), .agg _ _ (.cons _ _ _ _ (leRow (ds := lvlsL (L.set i ([], (n0 :: nt)))) rfl (by simp)) .nil) rfl, rfl, by rw [hchg, if_neg (by omega), chgV_n (by omega) (List.getElem?_eq_none (by rw [show z2 % ((n0 :: nt).length + 1) = n from hnp]; omega))]⟩
    · exact fin_in ⟨_, prfI (L.set i ([], (n0 :: nt))), (frStep 7 (unsL (n0 :: nt)) rfl rfl (cl_uns _) (frzRow 6 (cpL L i L.length (.agg [.list true (.agg [.leaf, .leaf]) [], .sl 7 0 (0 + (unsL (n0 :: nt)).length)])) (cpL L i L.length (lvlI ([], (n0 :: nt)))) rfl (by rw [Nat.zero_add]; exact cpL_set hiL) (leCp (leLvl (.full true _ _) (leRow (ds := unsL (n0 :: nt)) rfl (Nat.zero_add _).symm) rfl rfl)) (shCp rfl) (okCp _) (frStep 6 (lvlsL (L.set i ([], (n0 :: nt)))) rfl (cpL_lvl hiL) (cl_lvls _) (.refl _)))), .agg _ _ (.cons _ _ _ _ (leRow (ds := lvlsL (L.set i ([], (n0 :: nt)))) rfl (by simp)) .nil) rfl, rfl, by rw [hchg, if_neg (by omega), chgV_y (by omega) rfl]⟩
    · obtain ⟨w, hw⟩ : ∃ w, chgT [z3, z2] (.node nk) (z3 / 16) = .node w := ⟨(chgT [z3, z2] (.node nk) (z3 / 16)).kids, by cases chgT [z3, z2] (.node nk) (z3 / 16); rfl⟩
      have hvt := vChgT [z3, z2] (.node nk) (z3 / 16) (hti _ (List.mem_of_getElem? hn)) (by simp) (by intro x hx; simp at hx; omega) (by omega)
      rw [hw] at hvt
      refine Val.call hvt (.step 10 .leaf (bytesL [z3, z2]) rfl rfl (.refl _)) (.cons _ _ _ _ (.refl _) (.cons _ _ _ _ (leRow rfl rfl) (.cons _ _ _ _ (.refl _) .nil))) rfl ?_
      rintro r rfl
      repeat' (
       conv => whnf
       first
       | ((with_reducible refine exWh hn ?_))
       | ((with_reducible apply exSub); (rfl))
       | with_reducible refine rcI ?_ ?_
       | with_reducible refine rpI ?_ ?_
       | ((with_reducible apply ob); ((first | rfl | assumption | omega | (unfold maxLen2; omega) | (dsimp only; omega) | (simp only [LN]; omega) | (simp; done) | (simp; omega))))
       | exact trivial)
      all_goals (conv => whnf)
      all_goals (first | (exfalso; omega) | skip)
      exact fin_in ⟨_, prfI (L.set i ([], ((n0 :: nt).set n (nj, chgT [z3, z2] (.node nk) (z3 / 16))))), (frStep 7 (unsL ((n0 :: nt).set n (nj, chgT [z3, z2] (.node nk) (z3 / 16)))) rfl (by rw [Nat.zero_add, Int.toNat_natCast, hw]; unfold unsL; rw [List.map_set]; rfl) (cl_uns _) (frzRow 6 (cpL L i L.length (.agg [.list true (.agg [.leaf, .leaf]) [], .sl 7 0 (0 + (unsL (n0 :: nt)).length)])) (cpL L i L.length (lvlI ([], ((n0 :: nt).set n (nj, chgT [z3, z2] (.node nk) (z3 / 16)))))) rfl (by rw [Nat.zero_add]; exact cpL_set hiL) (leCp (leLvl (.full true _ _) (leRow (ds := unsL ((n0 :: nt).set n (nj, chgT [z3, z2] (.node nk) (z3 / 16)))) rfl (by simp [unsL])) rfl rfl)) (shCp rfl) (okCp _) (frStep 6 (lvlsL (L.set i ([], ((n0 :: nt).set n (nj, chgT [z3, z2] (.node nk) (z3 / 16)))))) rfl (cpL_lvl hiL) (cl_lvls _) (.refl _)))), .agg _ _ (.cons _ _ _ _ (leRow (ds := lvlsL (L.set i ([], ((n0 :: nt).set n (nj, chgT [z3, z2] (.node nk) (z3 / 16)))))) rfl (by simp)) .nil) rfl, rfl, by rw [hchg, if_neg (by omega), chgV3 (u := (nj, .node nk)) (by omega) (by rw [show z2 % ((n0 :: nt).length + 1) = n from hnp]; exact hn), show z2 % ((n0 :: nt).length + 1) = n from hnp]⟩
    · exact fin_in ⟨_, prfI (L.set i ([], (n0 :: nt))), (frStep 7 (unsL (n0 :: nt)) rfl rfl (cl_uns _) (frzRow 6 (cpL L i L.length (.agg [.list true (.agg [.leaf, .leaf]) [], .sl 7 0 (0 + (unsL (n0 :: nt)).length)])) (cpL L i L.length (lvlI ([], (n0 :: nt)))) rfl (by rw [Nat.zero_add]; exact cpL_set hiL) (leCp (leLvl (.full true _ _) (leRow (ds := unsL (n0 :: nt)) rfl (Nat.zero_add _).symm) rfl rfl)) (shCp rfl) (okCp _) (frStep 6 (lvlsL (L.set i ([], (n0 :: nt)))) rfl (cpL_lvl hiL) (cl_lvls _) (.refl _)))), .agg _ _ (.cons _ _ _ _ (leRow (ds := lvlsL (L.set i ([], (n0 :: nt)))) rfl (by simp)) .nil) rfl, rfl, by rw [hchg, if_neg (by omega), chgV_n (by omega) (List.getElem?_eq_none (by rw [show z2 % ((n0 :: nt).length + 1) = n from hnp]; omega))]⟩
    · exact fin_in ⟨_, prfI (L.set i ([], (n0 :: nt))), (frStep 7 (unsL (n0 :: nt)) rfl rfl (cl_uns _) (frzRow 6 (cpL L i L.length (.agg [.list true (.agg [.leaf, .leaf]) [], .sl 7 0 (0 + (unsL (n0 :: nt)).length)])) (cpL L i L.length (lvlI ([], (n0 :: nt)))) rfl (by rw [Nat.zero_add]; exact cpL_set hiL) (leCp (leLvl (.full true _ _) (leRow (ds := unsL (n0 :: nt)) rfl (Nat.zero_add _).symm) rfl rfl)) (shCp rfl) (okCp _) (frStep 6 (lvlsL (L.set i ([], (n0 :: nt)))) rfl (cpL_lvl hiL) (cl_lvls _) (.refl _)))), .agg _ _ (.cons _ _ _ _ (leRow (ds := lvlsL (L.set i ([], (n0 :: nt)))) rfl (by simp)) .nil) rfl, rfl, by rw [hchg, if_neg (by omega), chgV_y (by omega) rfl]⟩
    · exact fin_in ⟨_, prfI (L.set i ([], (n0 :: nt))), (frStep 7 (unsL (n0 :: nt)) rfl rfl (cl_uns _) (frzRow 6 (cpL L i L.length (.agg [.list true (.agg [.leaf, .leaf]) [], .sl 7 0 (0 + (unsL (n0 :: nt)).length)])) (cpL L i L.length (lvlI ([], (n0 :: nt)))) rfl (by rw [Nat.zero_add]; exact cpL_set hiL) (leCp (leLvl (.full true _ _) (leRow (ds := unsL (n0 :: nt)) rfl (Nat.zero_add _).symm) rfl rfl)) (shCp rfl) (okCp _) (frStep 6 (lvlsL (L.set i ([], (n0 :: nt)))) rfl (cpL_lvl hiL) (cl_lvls _) (.refl _)))), .agg _ _ (.cons _ _ _ _ (leRow (ds := lvlsL (L.set i ([], (n0 :: nt)))) rfl (by simp)) .nil) rfl, rfl, by rw [hchg, if_neg (by omega), chgV_y (by omega) rfl]⟩
    · exact fin_in ⟨_, prfI ((L.set i ([], (n0 :: nt))).take i), (frStep 7 (unsL (n0 :: nt)) rfl rfl (cl_uns _) (frzRow 6 (cpL L i L.length (.agg [.list true (.agg [.leaf, .leaf]) [], .sl 7 0 (0 + (unsL (n0 :: nt)).length)])) (cpL L i L.length (lvlI ([], (n0 :: nt)))) rfl rfl (leCp (leLvl (.full true _ _) (leRow (ds := unsL (n0 :: nt)) rfl (Nat.zero_add _).symm) rfl rfl)) (shCp rfl) (okCp _) (frStep 6 (lvlsL (L.set i ([], (n0 :: nt)))) rfl (cpL_lvl hiL) (cl_lvls _) (.refl _)))), .agg _ _ (.cons _ _ _ _ (leCut (ds := lvlsL (L.set i ([], (n0 :: nt)))) rfl (by simp; omega) (by simp [lvlsL])) .nil) rfl, rfl, by rw [hchg, if_pos (by omega), List.take_set_of_le (Nat.le_refl _)]⟩
    · exact fin_in ⟨_, prfI (L.set i ([], ((n0 :: nt).set n (((z3 % 9 : Nat) : Int), .node nk)))), (frStep 7 (unsL ((n0 :: nt).set n (((z3 % 9 : Nat) : Int), .node nk))) rfl (by rw [Nat.zero_add, Int.toNat_natCast]; unfold unsL; rw [List.map_set]; rfl) (cl_uns _) (frzRow 6 (cpL L i L.length (.agg [.list true (.agg [.leaf, .leaf]) [], .sl 7 0 (0 + (unsL (n0 :: nt)).length)])) (cpL L i L.length (lvlI ([], ((n0 :: nt).set n (((z3 % 9 : Nat) : Int), .node nk))))) rfl (by rw [Nat.zero_add]; exact cpL_set hiL) (leCp (leLvl (.full true _ _) (leRow (ds := unsL ((n0 :: nt).set n (((z3 % 9 : Nat) : Int), .node nk))) rfl (by simp [unsL])) rfl rfl)) (shCp rfl) (okCp _) (frStep 6 (lvlsL (L.set i ([], ((n0 :: nt).set n (((z3 % 9 : Nat) : Int), .node nk))))) rfl (cpL_lvl hiL) (cl_lvls _) (.refl _)))), .agg _ _ (.cons _ _ _ _ (leRow (ds := lvlsL (L.set i ([], ((n0 :: nt).set n (((z3 % 9 : Nat) : Int), .node nk))))) rfl (by simp)) .nil) rfl, rfl, by rw [hchg, if_neg (by omega), chgV7 (u := (nj, .node nk)) (by omega) (by rw [show z2 % ((n0 :: nt).length + 1) = n from hnp]; exact hn), show z2 % ((n0 :: nt).length + 1) = n from hnp]⟩
    · exact fin_in ⟨_, prfI (L.set i ([], (n0 :: nt))), (frStep 7 (unsL (n0 :: nt)) rfl rfl (cl_uns _) (frzRow 6 (cpL L i L.length (.agg [.list true (.agg [.leaf, .leaf]) [], .sl 7 0 (0 + (unsL (n0 :: nt)).length)])) (cpL L i L.length (lvlI ([], (n0 :: nt)))) rfl (by rw [Nat.zero_add]; exact cpL_set hiL) (leCp (leLvl (.full true _ _) (leRow (ds := unsL (n0 :: nt)) rfl (Nat.zero_add _).symm) rfl rfl)) (shCp rfl) (okCp _) (frStep 6 (lvlsL (L.set i ([], (n0 :: nt)))) rfl (cpL_lvl hiL) (cl_lvls _) (.refl _)))), .agg _ _ (.cons _ _ _ _ (leRow (ds := lvlsL (L.set i ([], (n0 :: nt)))) rfl (by simp)) .nil) rfl, rfl, by rw [hchg, if_neg (by omega), chgV_n (by omega) (List.getElem?_eq_none (by rw [show z2 % ((n0 :: nt).length + 1) = n from hnp]; omega))]⟩
theorem vRChg10 (L : List Lvl) (z0 z1 z2 z3 : Nat) (g : List Int) (hL1 : 1 ≤ L.length) (hLb : L.length ≤ 1000000) (hb : ∀ l ∈ L, l.1.length ≤ 1000000 ∧ l.2.length ≤ 1000000) (ht : ∀ l ∈ L, ∀ u ∈ l.2, tbT 3 u.2) (hz0 : z0 < 256) (hz1 : z1 < 256) (hz2 : z2 < 256) (hz3 : z3 < 256) (i : Nat) (hi : z1 % L.length = i) (hiL : i < L.length) (y0 : Int × List Int) (yt : List (Int × List Int)) (hl : L[i]? = some ((y0 :: yt), [])) (hbi : (y0 :: yt).length ≤ 1000000 ∧ ([] : List (Int × Tree)).length ≤ 1000000) (hti : ∀ u ∈ ([] : List (Int × Tree)), tbT 3 u.2) (hchg : chgL L z0 z1 z2 z3 g = if z0 % 8 = 6 then L.take i else L.set i (chgV ((y0 :: yt), []) z0 z2 z3 g)) :
    Val Tryd.prog 23 [prfI L, .agg [.int .u8 (z0 : Int), .int .u8 (z1 : Int), .int .u8 (z2 : Int), .int .u8 (z3 : Int)], intsD g] (fun r => r = prfI (chgL L z0 z1 z2 z3 g)) := by
  refine Val.ofV ?_
  refine hc_ofS (okc Tryd.f23.ntmps 0) (fn := Tryd.f23) (cd := _) rfl rfl rfl rfl rfl rfl (fun hbd => ?_)
  all_goals (conv => whnf)
  · refine copiedAt L i _ _ hl hb hLb ?_
    obtain ⟨y, hyp⟩ : ∃ y, z2 % (yt.length + 2) = y := ⟨_, rfl⟩
    have hyb : y < yt.length + 2 := by rw [← hyp]; exact Nat.mod_lt _ (by omega)
    have hyl : (rchL (y0 :: yt)).length = yt.length + 1 := by simp
    have hyl2 : (y0 :: yt).length = yt.length + 1 := rfl
    have hye : ((0 + (rchL (y0 :: yt)).length : Nat) : Int) + 1 = ((yt.length + 2 : Nat) : Int) := by rw [hyl]; omega
    simp only [List.length_cons, List.length_nil] at hbi
    have hcl : (cpL L i L.length (keepE (y0 :: yt) [])).length = L.length := cpL_len (Nat.le_refl _) hiL
    repeat' (
     conv => whnf
     first
     | refine ifd (fun h => ?_) (fun h => ?_)
     | with_reducible refine ivW (by omega) (by omega) ?_
     | (refine ivModE (a := z1) (b := L.length) hi ?_)
     | ((with_reducible refine exK hiL ?_))
     | (refine ivMod (a := z0) (b := 8) ?_)
     | ((with_reducible refine iv01 ?_))
     | ((with_reducible refine ivMod1 ?_))
     | (refine ivModQ hye hyp ?_)
     | ((with_reducible refine exC (by omega) ?_); rintro ⟨yj, ym⟩ hy; simp only [Int.toNat_natCast, Nat.zero_add] at hy)
     | ((with_reducible refine exC2 (by omega) ?_); intro yj ym hy; simp only [Int.toNat_natCast, Nat.zero_add] at hy)
     | ((with_reducible apply exSub); (rfl))
     | ((with_reducible apply drT 8); rfl)
     | ((with_reducible apply drT 9); rfl)
     | ((with_reducible apply ob); ((first | rfl | assumption | omega | (unfold maxLen2; omega) | (dsimp only; omega) | (simp only [LN]; omega) | (simp; done) | (simp; omega)))))
    all_goals (conv => whnf)
    all_goals (first | (exfalso; omega) | skip)
    · refine Val.call (vWithU [] (yj, .node []) hbi.2) (.refl _) (.cons _ _ _ _ (.full true _ _) (.cons _ _ _ _ (show LeD _ (unsD (yj, .node [])) (.agg [.int .i64 yj, .agg [.nils]]) from .agg _ _ (.cons _ _ _ _ (.refl _) (.cons _ _ _ _ (.agg _ _ (.cons _ _ _ _ (.nils _) .nil) rfl) .nil)) rfl) .nil)) rfl ?_
      rintro r rfl
      repeat' (
       conv => whnf
       first
       | with_reducible refine ivW (by omega) (by omega) ?_
       | ((with_reducible apply drT 9); rfl)
       | ((with_reducible apply ob); ((first | rfl | assumption | omega | (unfold maxLen2; omega) | (dsimp only; omega) | (simp only [LN]; omega) | (simp; done) | (simp; omega)))))
      all_goals (conv => whnf)
      all_goals (first | (exfalso; omega) | skip)
      exact fin_in ⟨_, prfI (L.set i (((y0 :: yt).take y ++ (y0 :: yt).drop (y + 1)), withI [] (yj, .node []))), (frStep 10 (rchL ((y0 :: yt).take y ++ (y0 :: yt).drop (y + 1))) rfl (by simp [rchL, List.map_take, List.map_drop]; try (first | omega | exact List.take_of_length_le (by simp))) (cl_rch _) (frzRow 6 (cpL L i L.length (.agg [.sl 10 0 _, .list false (.agg [.leaf, .agg [.leaf]]) (unsL (withI [] (yj, .node [])))])) (cpL L i L.length (lvlI (((y0 :: yt).take y ++ (y0 :: yt).drop (y + 1)), withI [] (yj, .node [])))) rfl (by rw [Nat.zero_add]; exact cpL_set hiL) (leCp (leLvl (leRow (ds := rchL ((y0 :: yt).take y ++ (y0 :: yt).drop (y + 1))) rfl (by simp [rchL]; try omega)) (.refl _) rfl rfl)) (shCp rfl) (okCp _) (frStep 6 (lvlsL (L.set i (((y0 :: yt).take y ++ (y0 :: yt).drop (y + 1)), withI [] (yj, .node [])))) rfl (cpL_lvl hiL) (cl_lvls _) (.refl _)))), .agg _ _ (.cons _ _ _ _ (leRow (ds := lvlsL (L.set i (((y0 :: yt).take y ++ (y0 :: yt).drop (y + 1)), withI [] (yj, .node [])))) rfl (by simp)) .nil) rfl, rfl, by rw [hchg, if_neg (by omega), chgV0 (r := (yj, ym)) (by omega) (by rw [show z2 % ((y0 :: yt).length + 1) = y from hyp]; exact hy), show z2 % ((y0 :: yt).length + 1) = y from hyp]⟩
    · exact fin_in ⟨_, prfI (L.set i ((y0 :: yt), [])), (frStep 7 (rchL (y0 :: yt)) rfl rfl (cl_rch _) (frzRow 6 (cpL L i L.length (.agg [.sl 7 0 (0 + (rchL (y0 :: yt)).length), .list true (.agg [.leaf, .agg [.leaf]]) []])) (cpL L i L.length (lvlI ((y0 :: yt), []))) rfl (by rw [Nat.zero_add]; exact cpL_set hiL) (leCp (leLvl (leRow (ds := rchL (y0 :: yt)) rfl (Nat.zero_add _).symm) (.full true _ _) rfl rfl)) (shCp rfl) (okCp _) (frStep 6 (lvlsL (L.set i ((y0 :: yt), []))) rfl (cpL_lvl hiL) (cl_lvls _) (.refl _)))), .agg _ _ (.cons _ _ _ _ (leRow (ds := lvlsL (L.set i ((y0 :: yt), []))) rfl (by simp)) .nil) rfl, rfl, by rw [hchg, if_neg (by omega), chgV_y (by omega) (List.getElem?_eq_none (by rw [show z2 % ((y0 :: yt).length + 1) = y from hyp]; omega))]⟩
    · exact fin_in ⟨_, prfI (L.set i ((y0 :: yt), [])), (frStep 7 (rchL (y0 :: yt)) rfl rfl (cl_rch _) (frzRow 6 (cpL L i L.length (.agg [.sl 7 0 (0 + (rchL (y0 :: yt)).length), .list true (.agg [.leaf, .agg [.leaf]]) []])) (cpL L i L.length (lvlI ((y0 :: yt), []))) rfl (by rw [Nat.zero_add]; exact cpL_set hiL) (leCp (leLvl (leRow (ds := rchL (y0 :: yt)) rfl (Nat.zero_add _).symm) (.full true _ _) rfl rfl)) (shCp rfl) (okCp _) (frStep 6 (lvlsL (L.set i ((y0 :: yt), []))) rfl (cpL_lvl hiL) (cl_lvls _) (.refl _)))), .agg _ _ (.cons _ _ _ _ (leRow (ds := lvlsL (L.set i ((y0 :: yt), []))) rfl (by simp)) .nil) rfl, rfl, by rw [hchg, if_neg (by omega), chgV_n (by omega) rfl]⟩
    · exact fin_in ⟨_, prfI (L.set i (((y0 :: yt).set y (yj, g)), [])), (frStep 7 (rchL ((y0 :: yt).set y (yj, g))) rfl (by rw [Nat.zero_add, Int.toNat_natCast]; unfold rchL; rw [List.map_set]; rfl) (cl_rch _) (frzRow 6 (cpL L i L.length (.agg [.sl 7 0 (0 + (rchL (y0 :: yt)).length), .list true (.agg [.leaf, .agg [.leaf]]) []])) (cpL L i L.length (lvlI (((y0 :: yt).set y (yj, g)), []))) rfl (by rw [Nat.zero_add]; exact cpL_set hiL) (leCp (leLvl (leRow (ds := rchL ((y0 :: yt).set y (yj, g))) rfl (by simp [rchL])) (.full true _ _) rfl rfl)) (shCp rfl) (okCp _) (frStep 6 (lvlsL (L.set i (((y0 :: yt).set y (yj, g)), []))) rfl (cpL_lvl hiL) (cl_lvls _) (.refl _)))), .agg _ _ (.cons _ _ _ _ (leRow (ds := lvlsL (L.set i (((y0 :: yt).set y (yj, g)), []))) rfl (by simp)) .nil) rfl, rfl, by rw [hchg, if_neg (by omega), chgV2 (r := (yj, ym)) (by omega) (by rw [show z2 % ((y0 :: yt).length + 1) = y from hyp]; exact hy), show z2 % ((y0 :: yt).length + 1) = y from hyp]⟩
    · exact fin_in ⟨_, prfI (L.set i ((y0 :: yt), [])), (frStep 7 (rchL (y0 :: yt)) rfl rfl (cl_rch _) (frzRow 6 (cpL L i L.length (.agg [.sl 7 0 (0 + (rchL (y0 :: yt)).length), .list true (.agg [.leaf, .agg [.leaf]]) []])) (cpL L i L.length (lvlI ((y0 :: yt), []))) rfl (by rw [Nat.zero_add]; exact cpL_set hiL) (leCp (leLvl (leRow (ds := rchL (y0 :: yt)) rfl (Nat.zero_add _).symm) (.full true _ _) rfl rfl)) (shCp rfl) (okCp _) (frStep 6 (lvlsL (L.set i ((y0 :: yt), []))) rfl (cpL_lvl hiL) (cl_lvls _) (.refl _)))), .agg _ _ (.cons _ _ _ _ (leRow (ds := lvlsL (L.set i ((y0 :: yt), []))) rfl (by simp)) .nil) rfl, rfl, by rw [hchg, if_neg (by omega), chgV_y (by omega) (List.getElem?_eq_none (by rw [show z2 % ((y0 :: yt).length + 1) = y from hyp]; omega))]⟩
    · exact fin_in ⟨_, prfI (L.set i ((y0 :: yt), [])), (frStep 7 (rchL (y0 :: yt)) rfl rfl (cl_rch _) (frzRow 6 (cpL L i L.length (.agg [.sl 7 0 (0 + (rchL (y0 :: yt)).length), .list true (.agg [.leaf, .agg [.leaf]]) []])) (cpL L i L.length (lvlI ((y0 :: yt), []))) rfl (by rw [Nat.zero_add]; exact cpL_set hiL) (leCp (leLvl (leRow (ds := rchL (y0 :: yt)) rfl (Nat.zero_add _).symm) (.full true _ _) rfl rfl)) (shCp rfl) (okCp _) (frStep 6 (lvlsL (L.set i ((y0 :: yt), []))) rfl (cpL_lvl hiL) (cl_lvls _) (.refl _)))), .agg _ _ (.cons _ _ _ _ (leRow (ds := lvlsL (L.set i ((y0 :: yt), []))) rfl (by simp)) .nil) rfl, rfl, by rw [hchg, if_neg (by omega), chgV_n (by omega) rfl]⟩
    · obtain ⟨⟨yj, ym⟩, hy⟩ : ∃ r, (y0 :: yt)[y]? = some r := ⟨_, List.getElem?_eq_getElem (by simp only [List.length_cons]; omega)⟩
      exact fin_in ⟨_, prfI (L.set i (((y0 :: yt).take y ++ (y0 :: yt).drop (y + 1)), [])), (frStep 10 (rchL ((y0 :: yt).take y ++ (y0 :: yt).drop (y + 1))) rfl (by simp [rchL, List.map_take, List.map_drop]; try (first | omega | exact List.take_of_length_le (by simp))) (cl_rch _) (frzRow 6 (cpL L i L.length (.agg [.sl 10 0 _, .list true (.agg [.leaf, .agg [.leaf]]) []])) (cpL L i L.length (lvlI (((y0 :: yt).take y ++ (y0 :: yt).drop (y + 1)), []))) rfl (by rw [Nat.zero_add]; exact cpL_set hiL) (leCp (leLvl (leRow (ds := rchL ((y0 :: yt).take y ++ (y0 :: yt).drop (y + 1))) rfl (by simp [rchL]; try omega)) (.full true _ _) rfl rfl)) (shCp rfl) (okCp _) (frStep 6 (lvlsL (L.set i (((y0 :: yt).take y ++ (y0 :: yt).drop (y + 1)), []))) rfl (cpL_lvl hiL) (cl_lvls _) (.refl _)))), .agg _ _ (.cons _ _ _ _ (leRow (ds := lvlsL (L.set i (((y0 :: yt).take y ++ (y0 :: yt).drop (y + 1)), []))) rfl (by simp)) .nil) rfl, rfl, by rw [hchg, if_neg (by omega), chgV4 (r := (yj, ym)) (by omega) (by rw [show z2 % ((y0 :: yt).length + 1) = y from hyp]; exact hy), show z2 % ((y0 :: yt).length + 1) = y from hyp]⟩
    · exact fin_in ⟨_, prfI (L.set i ((y0 :: yt), [])), (frStep 7 (rchL (y0 :: yt)) rfl rfl (cl_rch _) (frzRow 6 (cpL L i L.length (.agg [.sl 7 0 (0 + (rchL (y0 :: yt)).length), .list true (.agg [.leaf, .agg [.leaf]]) []])) (cpL L i L.length (lvlI ((y0 :: yt), []))) rfl (by rw [Nat.zero_add]; exact cpL_set hiL) (leCp (leLvl (leRow (ds := rchL (y0 :: yt)) rfl (Nat.zero_add _).symm) (.full true _ _) rfl rfl)) (shCp rfl) (okCp _) (frStep 6 (lvlsL (L.set i ((y0 :: yt), []))) rfl (cpL_lvl hiL) (cl_lvls _) (.refl _)))), .agg _ _ (.cons _ _ _ _ (leRow (ds := lvlsL (L.set i ((y0 :: yt), []))) rfl (by simp)) .nil) rfl, rfl, by rw [hchg, if_neg (by omega), chgV_y (by omega) (List.getElem?_eq_none (by rw [show z2 % ((y0 :: yt).length + 1) = y from hyp]; omega))]⟩
    · exact fin_in ⟨_, prfI (L.set i (((y0 :: yt) ++ [(yj, ym)]), [])), (frStep 11 (rchL ((y0 :: yt) ++ [(yj, ym)])) rfl (by simp [rchL, List.take_of_length_le]; try rfl) (cl_rch _) (frzRow 6 (cpL L i L.length (.agg [.sl 11 0 _, .list true (.agg [.leaf, .agg [.leaf]]) []])) (cpL L i L.length (lvlI (((y0 :: yt) ++ [(yj, ym)]), []))) rfl (by rw [Nat.zero_add]; exact cpL_set hiL) (leCp (leLvl (leRow (ds := rchL ((y0 :: yt) ++ [(yj, ym)])) rfl (by simp [rchL]; try omega)) (.full true _ _) rfl rfl)) (shCp rfl) (okCp _) (frStep 6 (lvlsL (L.set i (((y0 :: yt) ++ [(yj, ym)]), []))) rfl (cpL_lvl hiL) (cl_lvls _) (.refl _)))), .agg _ _ (.cons _ _ _ _ (leRow (ds := lvlsL (L.set i (((y0 :: yt) ++ [(yj, ym)]), []))) rfl (by simp)) .nil) rfl, rfl, by rw [hchg, if_neg (by omega), chgV5 (r := (yj, ym)) (by omega) (by rw [show z2 % ((y0 :: yt).length + 1) = y from hyp]; exact hy)]⟩
    · exact fin_in ⟨_, prfI (L.set i ((y0 :: yt), [])), (frStep 7 (rchL (y0 :: yt)) rfl rfl (cl_rch _) (frzRow 6 (cpL L i L.length (.agg [.sl 7 0 (0 + (rchL (y0 :: yt)).length), .list true (.agg [.leaf, .agg [.leaf]]) []])) (cpL L i L.length (lvlI ((y0 :: yt), []))) rfl (by rw [Nat.zero_add]; exact cpL_set hiL) (leCp (leLvl (leRow (ds := rchL (y0 :: yt)) rfl (Nat.zero_add _).symm) (.full true _ _) rfl rfl)) (shCp rfl) (okCp _) (frStep 6 (lvlsL (L.set i ((y0 :: yt), []))) rfl (cpL_lvl hiL) (cl_lvls _) (.refl _)))), .agg _ _ (.cons _ _ _ _ (leRow (ds := lvlsL (L.set i ((y0 :: yt), []))) rfl (by simp)) .nil) rfl, rfl, by rw [hchg, if_neg (by omega), chgV_y (by omega) (List.getElem?_eq_none (by rw [show z2 % ((y0 :: yt).length + 1) = y from hyp]; omega))]⟩
    · exact fin_in ⟨_, prfI ((L.set i ((y0 :: yt), [])).take i), (frStep 7 (rchL (y0 :: yt)) rfl rfl (cl_rch _) (frzRow 6 (cpL L i L.length (.agg [.sl 7 0 (0 + (rchL (y0 :: yt)).length), .list true (.agg [.leaf, .agg [.leaf]]) []])) (cpL L i L.length (lvlI ((y0 :: yt), []))) rfl rfl (leCp (leLvl (leRow (ds := rchL (y0 :: yt)) rfl (Nat.zero_add _).symm) (.full true _ _) rfl rfl)) (shCp rfl) (okCp _) (frStep 6 (lvlsL (L.set i ((y0 :: yt), []))) rfl (cpL_lvl hiL) (cl_lvls _) (.refl _)))), .agg _ _ (.cons _ _ _ _ (leCut (ds := lvlsL (L.set i ((y0 :: yt), []))) rfl (by simp; omega) (by simp [lvlsL])) .nil) rfl, rfl, by rw [hchg, if_pos (by omega), List.take_set_of_le (Nat.le_refl _)]⟩
    · exact fin_in ⟨_, prfI (L.set i ((y0 :: yt), [])), (frStep 7 (rchL (y0 :: yt)) rfl rfl (cl_rch _) (frzRow 6 (cpL L i L.length (.agg [.sl 7 0 (0 + (rchL (y0 :: yt)).length), .list true (.agg [.leaf, .agg [.leaf]]) []])) (cpL L i L.length (lvlI ((y0 :: yt), []))) rfl (by rw [Nat.zero_add]; exact cpL_set hiL) (leCp (leLvl (leRow (ds := rchL (y0 :: yt)) rfl (Nat.zero_add _).symm) (.full true _ _) rfl rfl)) (shCp rfl) (okCp _) (frStep 6 (lvlsL (L.set i ((y0 :: yt), []))) rfl (cpL_lvl hiL) (cl_lvls _) (.refl _)))), .agg _ _ (.cons _ _ _ _ (leRow (ds := lvlsL (L.set i ((y0 :: yt), []))) rfl (by simp)) .nil) rfl, rfl, by rw [hchg, if_neg (by omega), chgV_n (by omega) rfl]⟩
theorem vRChg11 (L : List Lvl) (z0 z1 z2 z3 : Nat) (g : List Int) (hL1 : 1 ≤ L.length) (hLb : L.length ≤ 1000000) (hb : ∀ l ∈ L, l.1.length ≤ 1000000 ∧ l.2.length ≤ 1000000) (ht : ∀ l ∈ L, ∀ u ∈ l.2, tbT 3 u.2) (hz0 : z0 < 256) (hz1 : z1 < 256) (hz2 : z2 < 256) (hz3 : z3 < 256) (i : Nat) (hi : z1 % L.length = i) (hiL : i < L.length) (y0 : Int × List Int) (yt : List (Int × List Int)) (n0 : Int × Tree) (nt : List (Int × Tree)) (hl : L[i]? = some ((y0 :: yt), (n0 :: nt))) (hbi : (y0 :: yt).length ≤ 1000000 ∧ (n0 :: nt).length ≤ 1000000) (hti : ∀ u ∈ (n0 :: nt), tbT 3 u.2) (hchg : chgL L z0 z1 z2 z3 g = if z0 % 8 = 6 then L.take i else L.set i (chgV ((y0 :: yt), (n0 :: nt)) z0 z2 z3 g)) :
    Val Tryd.prog 23 [prfI L, .agg [.int .u8 (z0 : Int), .int .u8 (z1 : Int), .int .u8 (z2 : Int), .int .u8 (z3 : Int)], intsD g] (fun r => r = prfI (chgL L z0 z1 z2 z3 g)) := by
  refine Val.ofV ?_
  refine hc_ofS (okc Tryd.f23.ntmps 0) (fn := Tryd.f23) (cd := _) rfl rfl rfl rfl rfl rfl (fun hbd => ?_)
  all_goals (conv => whnf)
  · refine copiedAt L i _ _ hl hb hLb ?_
    obtain ⟨y, hyp⟩ : ∃ y, z2 % (yt.length + 2) = y := ⟨_, rfl⟩
    have hyb : y < yt.length + 2 := by rw [← hyp]; exact Nat.mod_lt _ (by omega)
    have hyl : (rchL (y0 :: yt)).length = yt.length + 1 := by simp
    have hyl2 : (y0 :: yt).length = yt.length + 1 := rfl
    have hye : ((0 + (rchL (y0 :: yt)).length : Nat) : Int) + 1 = ((yt.length + 2 : Nat) : Int) := by rw [hyl]; omega
    obtain ⟨n, hnp⟩ : ∃ n, z2 % (nt.length + 2) = n := ⟨_, rfl⟩
    have hnb : n < nt.length + 2 := by rw [← hnp]; exact Nat.mod_lt _ (by omega)
    have hnl : (unsL (n0 :: nt)).length = nt.length + 1 := by simp
    have hnl2 : (n0 :: nt).length = nt.length + 1 := rfl
    have hne : ((0 + (unsL (n0 :: nt)).length : Nat) : Int) + 1 = ((nt.length + 2 : Nat) : Int) := by rw [hnl]; omega
    simp only [List.length_cons, List.length_nil] at hbi
    have hcl : (cpL L i L.length (keepE (y0 :: yt) (n0 :: nt))).length = L.length := cpL_len (Nat.le_refl _) hiL
    repeat' (
     conv => whnf
     first
     | refine ifd (fun h => ?_) (fun h => ?_)
     | with_reducible refine ivW (by omega) (by omega) ?_
     | (refine ivModE (a := z1) (b := L.length) hi ?_)
     | ((with_reducible refine exK hiL ?_))
     | (refine ivMod (a := z0) (b := 8) ?_)
     | (refine ivDiv8 hz3 ?_)
     | (refine ivMod (a := z3) (b := 9) ?_)
     | ((with_reducible apply drR 17); rfl)
     | (refine ivModQ hye hyp ?_)
     | ((with_reducible refine exC (by omega) ?_); rintro ⟨yj, ym⟩ hy; simp only [Int.toNat_natCast, Nat.zero_add] at hy)
     | ((with_reducible refine exC2 (by omega) ?_); intro yj ym hy; simp only [Int.toNat_natCast, Nat.zero_add] at hy)
     | ((with_reducible apply exSub); (rfl))
     | (refine ivModQ hne hnp ?_)
     | ((with_reducible refine exW2 (by omega) ?_); rintro nj ⟨nk⟩ hn; simp only [Int.toNat_natCast, Nat.zero_add] at hn)
     | ((with_reducible apply drT 8); rfl)
     | ((with_reducible apply drT 9); rfl)
     | ((with_reducible apply drT 10); rfl)
     | ((with_reducible apply ob); ((first | rfl | assumption | omega | (unfold maxLen2; omega) | (dsimp only; omega) | (simp only [LN]; omega) | (simp; done) | (simp; omega)))))
    all_goals (conv => whnf)
    all_goals (first | (exfalso; omega) | skip)
    · refine Val.call (vWithU (n0 :: nt) (yj, .node []) hbi.2) (.step 8 (.agg [.leaf, .agg [.leaf]]) (unsL (n0 :: nt)) rfl (cl_uns _) (.refl _)) (.cons _ _ _ _ (leRow rfl (Nat.zero_add _).symm) (.cons _ _ _ _ (show LeD _ (unsD (yj, .node [])) (.agg [.int .i64 yj, .agg [.nils]]) from .agg _ _ (.cons _ _ _ _ (.refl _) (.cons _ _ _ _ (.agg _ _ (.cons _ _ _ _ (.nils _) .nil) rfl) .nil)) rfl) .nil)) rfl ?_
      rintro r rfl
      repeat' (
       conv => whnf
       first
       | with_reducible refine ivW (by omega) (by omega) ?_
       | ((with_reducible apply drT 9); rfl)
       | ((with_reducible apply ob); ((first | rfl | assumption | omega | (unfold maxLen2; omega) | (dsimp only; omega) | (simp only [LN]; omega) | (simp; done) | (simp; omega)))))
      all_goals (conv => whnf)
      all_goals (first | (exfalso; omega) | skip)
      exact fin_in ⟨_, prfI (L.set i (((y0 :: yt).take y ++ (y0 :: yt).drop (y + 1)), withI (n0 :: nt) (yj, .node []))), (frStep 11 (rchL ((y0 :: yt).take y ++ (y0 :: yt).drop (y + 1))) rfl (by simp [rchL, List.map_take, List.map_drop]; try (first | omega | exact List.take_of_length_le (by simp))) (cl_rch _) (frzRow 6 (cpL L i L.length (.agg [.sl 11 0 _, .list false (.agg [.leaf, .agg [.leaf]]) (unsL (withI (n0 :: nt) (yj, .node [])))])) (cpL L i L.length (lvlI (((y0 :: yt).take y ++ (y0 :: yt).drop (y + 1)), withI (n0 :: nt) (yj, .node [])))) rfl (by rw [Nat.zero_add]; exact cpL_set hiL) (leCp (leLvl (leRow (ds := rchL ((y0 :: yt).take y ++ (y0 :: yt).drop (y + 1))) rfl (by simp [rchL]; try omega)) (.refl _) rfl rfl)) (shCp rfl) (okCp _) (frStep 6 (lvlsL (L.set i (((y0 :: yt).take y ++ (y0 :: yt).drop (y + 1)), withI (n0 :: nt) (yj, .node [])))) rfl (cpL_lvl hiL) (cl_lvls _) (.refl _)))), .agg _ _ (.cons _ _ _ _ (leRow (ds := lvlsL (L.set i (((y0 :: yt).take y ++ (y0 :: yt).drop (y + 1)), withI (n0 :: nt) (yj, .node [])))) rfl (by simp)) .nil) rfl, rfl, by rw [hchg, if_neg (by omega), chgV0 (r := (yj, ym)) (by omega) (by rw [show z2 % ((y0 :: yt).length + 1) = y from hyp]; exact hy), show z2 % ((y0 :: yt).length + 1) = y from hyp]⟩
    · exact fin_in ⟨_, prfI (L.set i ((y0 :: yt), (n0 :: nt))), (frStep 7 (rchL (y0 :: yt)) rfl rfl (cl_rch _) (frStep 8 (unsL (n0 :: nt)) rfl rfl (cl_uns _) (frzRow 6 (cpL L i L.length (.agg [.sl 7 0 (0 + (rchL (y0 :: yt)).length), .sl 8 0 (0 + (unsL (n0 :: nt)).length)])) (cpL L i L.length (lvlI ((y0 :: yt), (n0 :: nt)))) rfl (by rw [Nat.zero_add]; exact cpL_set hiL) (leCp (leLvl (leRow (ds := rchL (y0 :: yt)) rfl (Nat.zero_add _).symm) (leRow (ds := unsL (n0 :: nt)) rfl (Nat.zero_add _).symm) rfl rfl)) (shCp rfl) (okCp _) (frStep 6 (lvlsL (L.set i ((y0 :: yt), (n0 :: nt)))) rfl (cpL_lvl hiL) (cl_lvls _) (.refl _))))), .agg _ _ (.cons _ _ _ _ (leRow (ds := lvlsL (L.set i ((y0 :: yt), (n0 :: nt)))) rfl (by simp)) .nil) rfl, rfl, by rw [hchg, if_neg (by omega), chgV_y (by omega) (List.getElem?_eq_none (by rw [show z2 % ((y0 :: yt).length + 1) = y from hyp]; omega))]⟩
    · refine Val.call (vReach (y0 :: yt) (nj, g) hbi.1) (.step 7 (.agg [.leaf, .leaf]) (rchL (y0 :: yt)) rfl (cl_rch _) (.refl _)) (.cons _ _ _ _ (leRow rfl (Nat.zero_add _).symm) (.cons _ _ _ _ (.refl _) .nil)) rfl ?_
      rintro r rfl
      repeat' (
       conv => whnf
       first
       | with_reducible refine ivW (by omega) (by omega) ?_
       | ((with_reducible apply drT 9); rfl)
       | ((with_reducible apply ob); ((first | rfl | assumption | omega | (unfold maxLen2; omega) | (dsimp only; omega) | (simp only [LN]; omega) | (simp; done) | (simp; omega)))))
      all_goals (conv => whnf)
      all_goals (first | (exfalso; omega) | skip)
      exact fin_in ⟨_, prfI (L.set i (reachI (y0 :: yt) (nj, g), ((n0 :: nt).take n ++ (n0 :: nt).drop (n + 1)))), (frStep 11 (unsL ((n0 :: nt).take n ++ (n0 :: nt).drop (n + 1))) rfl (by simp [unsL, List.map_take, List.map_drop]; try (first | omega | exact List.take_of_length_le (by simp))) (cl_uns _) (frzRow 6 (cpL L i L.length (.agg [.list false (.agg [.leaf, .leaf]) (rchL (reachI (y0 :: yt) (nj, g))), .sl 11 0 _])) (cpL L i L.length (lvlI (reachI (y0 :: yt) (nj, g), ((n0 :: nt).take n ++ (n0 :: nt).drop (n + 1))))) rfl (by rw [Nat.zero_add]; exact cpL_set hiL) (leCp (leLvl (.refl _) (leRow (ds := unsL ((n0 :: nt).take n ++ (n0 :: nt).drop (n + 1))) rfl (by simp [unsL]; try omega)) rfl rfl)) (shCp rfl) (okCp _) (frStep 6 (lvlsL (L.set i (reachI (y0 :: yt) (nj, g), ((n0 :: nt).take n ++ (n0 :: nt).drop (n + 1))))) rfl (cpL_lvl hiL) (cl_lvls _) (.refl _)))), .agg _ _ (.cons _ _ _ _ (leRow (ds := lvlsL (L.set i (reachI (y0 :: yt) (nj, g), ((n0 :: nt).take n ++ (n0 :: nt).drop (n + 1))))) rfl (by simp)) .nil) rfl, rfl, by rw [hchg, if_neg (by omega), chgV1 (u := (nj, .node nk)) (by omega) (by rw [show z2 % ((n0 :: nt).length + 1) = n from hnp]; exact hn), show z2 % ((n0 :: nt).length + 1) = n from hnp]⟩
    · exact fin_in ⟨_, prfI (L.set i ((y0 :: yt), (n0 :: nt))), (frStep 7 (rchL (y0 :: yt)) rfl rfl (cl_rch _) (frStep 8 (unsL (n0 :: nt)) rfl rfl (cl_uns _) (frzRow 6 (cpL L i L.length (.agg [.sl 7 0 (0 + (rchL (y0 :: yt)).length), .sl 8 0 (0 + (unsL (n0 :: nt)).length)])) (cpL L i L.length (lvlI ((y0 :: yt), (n0 :: nt)))) rfl (by rw [Nat.zero_add]; exact cpL_set hiL) (leCp (leLvl (leRow (ds := rchL (y0 :: yt)) rfl (Nat.zero_add _).symm) (leRow (ds := unsL (n0 :: nt)) rfl (Nat.zero_add _).symm) rfl rfl)) (shCp rfl) (okCp _) (frStep 6 (lvlsL (L.set i ((y0 :: yt), (n0 :: nt)))) rfl (cpL_lvl hiL) (cl_lvls _) (.refl _))))), .agg _ _ (.cons _ _ _ _ (leRow (ds := lvlsL (L.set i ((y0 :: yt), (n0 :: nt)))) rfl (by simp)) .nil) rfl, rfl, by rw [hchg, if_neg (by omega), chgV_n (by omega) (List.getElem?_eq_none (by rw [show z2 % ((n0 :: nt).length + 1) = n from hnp]; omega))]⟩
    · exact fin_in ⟨_, prfI (L.set i (((y0 :: yt).set y (yj, g)), (n0 :: nt))), (frStep 7 (rchL ((y0 :: yt).set y (yj, g))) rfl (by rw [Nat.zero_add, Int.toNat_natCast]; unfold rchL; rw [List.map_set]; rfl) (cl_rch _) (frStep 8 (unsL (n0 :: nt)) rfl rfl (cl_uns _) (frzRow 6 (cpL L i L.length (.agg [.sl 7 0 (0 + (rchL (y0 :: yt)).length), .sl 8 0 (0 + (unsL (n0 :: nt)).length)])) (cpL L i L.length (lvlI (((y0 :: yt).set y (yj, g)), (n0 :: nt)))) rfl (by rw [Nat.zero_add]; exact cpL_set hiL) (leCp (leLvl (leRow (ds := rchL ((y0 :: yt).set y (yj, g))) rfl (by simp [rchL])) (leRow (ds := unsL (n0 :: nt)) rfl (Nat.zero_add _).symm) rfl rfl)) (shCp rfl) (okCp _) (frStep 6 (lvlsL (L.set i (((y0 :: yt).set y (yj, g)), (n0 :: nt)))) rfl (cpL_lvl hiL) (cl_lvls _) (.refl _))))), .agg _ _ (.cons _ _ _ _ (leRow (ds := lvlsL (L.set i (((y0 :: yt).set y (yj, g)), (n0 :: nt)))) rfl (by simp)) .nil) rfl, rfl, by rw [hchg, if_neg (by omega), chgV2 (r := (yj, ym)) (by omega) (by rw [show z2 % ((y0 :: yt).length + 1) = y from hyp]; exact hy), show z2 % ((y0 :: yt).length + 1) = y from hyp]⟩
    · exact fin_in ⟨_, prfI (L.set i ((y0 :: yt), (n0 :: nt))), (frStep 7 (rchL (y0 :: yt)) rfl rfl (cl_rch _) (frStep 8 (unsL (n0 :: nt)) rfl rfl (cl_uns _) (frzRow 6 (cpL L i L.length (.agg [.sl 7 0 (0 + (rchL (y0 :: yt)).length), .sl 8 0 (0 + (unsL (n0 :: nt)).length)])) (cpL L i L.length (lvlI ((y0 :: yt), (n0 :: nt)))) rfl (by rw [Nat.zero_add]; exact cpL_set hiL) (leCp (leLvl (leRow (ds := rchL (y0 :: yt)) rfl (Nat.zero_add _).symm) (leRow (ds := unsL (n0 :: nt)) rfl (Nat.zero_add _).symm) rfl rfl)) (shCp rfl) (okCp _) (frStep 6 (lvlsL (L.set i ((y0 :: yt), (n0 :: nt)))) rfl (cpL_lvl hiL) (cl_lvls _) (.refl _))))), .agg _ _ (.cons _ _ _ _ (leRow (ds := lvlsL (L.set i ((y0 :: yt), (n0 :: nt)))) rfl (by simp)) .nil) rfl, rfl, by rw [hchg, if_neg (by omega), chgV_y (by omega) (List.getElem?_eq_none (by rw [show z2 % ((y0 :: yt).length + 1) = y from hyp]; omega))]⟩
    · obtain ⟨w, hw⟩ : ∃ w, chgT [z3, z2] (.node nk) (z3 / 16) = .node w := ⟨(chgT [z3, z2] (.node nk) (z3 / 16)).kids, by cases chgT [z3, z2] (.node nk) (z3 / 16); rfl⟩
      have hvt := vChgT [z3, z2] (.node nk) (z3 / 16) (hti _ (List.mem_of_getElem? hn)) (by simp) (by intro x hx; simp at hx; omega) (by omega)
      rw [hw] at hvt
      refine Val.call hvt (.step 11 .leaf (bytesL [z3, z2]) rfl rfl (.refl _)) (.cons _ _ _ _ (.refl _) (.cons _ _ _ _ (leRow rfl rfl) (.cons _ _ _ _ (.refl _) .nil))) rfl ?_
      rintro r rfl
      repeat' (
       conv => whnf
       first
       | ((with_reducible apply exSub); (rfl))
       | ((with_reducible refine exWh hn ?_))
       | with_reducible refine rcI ?_ ?_
       | with_reducible refine rpI ?_ ?_
       | ((with_reducible apply ob); ((first | rfl | assumption | omega | (unfold maxLen2; omega) | (dsimp only; omega) | (simp only [LN]; omega) | (simp; done) | (simp; omega))))
       | exact trivial)
      all_goals (conv => whnf)
      all_goals (first | (exfalso; omega) | skip)
      exact fin_in ⟨_, prfI (L.set i ((y0 :: yt), ((n0 :: nt).set n (nj, chgT [z3, z2] (.node nk) (z3 / 16))))), (frStep 7 (rchL (y0 :: yt)) rfl rfl (cl_rch _) (frStep 8 (unsL ((n0 :: nt).set n (nj, chgT [z3, z2] (.node nk) (z3 / 16)))) rfl (by rw [Nat.zero_add, Int.toNat_natCast, hw]; unfold unsL; rw [List.map_set]; rfl) (cl_uns _) (frzRow 6 (cpL L i L.length (.agg [.sl 7 0 (0 + (rchL (y0 :: yt)).length), .sl 8 0 (0 + (unsL (n0 :: nt)).length)])) (cpL L i L.length (lvlI ((y0 :: yt), ((n0 :: nt).set n (nj, chgT [z3, z2] (.node nk) (z3 / 16)))))) rfl (by rw [Nat.zero_add]; exact cpL_set hiL) (leCp (leLvl (leRow (ds := rchL (y0 :: yt)) rfl (Nat.zero_add _).symm) (leRow (ds := unsL ((n0 :: nt).set n (nj, chgT [z3, z2] (.node nk) (z3 / 16)))) rfl (by simp [unsL])) rfl rfl)) (shCp rfl) (okCp _) (frStep 6 (lvlsL (L.set i ((y0 :: yt), ((n0 :: nt).set n (nj, chgT [z3, z2] (.node nk) (z3 / 16)))))) rfl (cpL_lvl hiL) (cl_lvls _) (.refl _))))), .agg _ _ (.cons _ _ _ _ (leRow (ds := lvlsL (L.set i ((y0 :: yt), ((n0 :: nt).set n (nj, chgT [z3, z2] (.node nk) (z3 / 16)))))) rfl (by simp)) .nil) rfl, rfl, by rw [hchg, if_neg (by omega), chgV3 (u := (nj, .node nk)) (by omega) (by rw [show z2 % ((n0 :: nt).length + 1) = n from hnp]; exact hn), show z2 % ((n0 :: nt).length + 1) = n from hnp]⟩
    · exact fin_in ⟨_, prfI (L.set i ((y0 :: yt), (n0 :: nt))), (frStep 7 (rchL (y0 :: yt)) rfl rfl (cl_rch _) (frStep 8 (unsL (n0 :: nt)) rfl rfl (cl_uns _) (frzRow 6 (cpL L i L.length (.agg [.sl 7 0 (0 + (rchL (y0 :: yt)).length), .sl 8 0 (0 + (unsL (n0 :: nt)).length)])) (cpL L i L.length (lvlI ((y0 :: yt), (n0 :: nt)))) rfl (by rw [Nat.zero_add]; exact cpL_set hiL) (leCp (leLvl (leRow (ds := rchL (y0 :: yt)) rfl (Nat.zero_add _).symm) (leRow (ds := unsL (n0 :: nt)) rfl (Nat.zero_add _).symm) rfl rfl)) (shCp rfl) (okCp _) (frStep 6 (lvlsL (L.set i ((y0 :: yt), (n0 :: nt)))) rfl (cpL_lvl hiL) (cl_lvls _) (.refl _))))), .agg _ _ (.cons _ _ _ _ (leRow (ds := lvlsL (L.set i ((y0 :: yt), (n0 :: nt)))) rfl (by simp)) .nil) rfl, rfl, by rw [hchg, if_neg (by omega), chgV_n (by omega) (List.getElem?_eq_none (by rw [show z2 % ((n0 :: nt).length + 1) = n from hnp]; omega))]⟩
    · obtain ⟨⟨yj, ym⟩, hy⟩ : ∃ r, (y0 :: yt)[y]? = some r := ⟨_, List.getElem?_eq_getElem (by simp only [List.length_cons]; omega)⟩
      exact fin_in ⟨_, prfI (L.set i (((y0 :: yt).take y ++ (y0 :: yt).drop (y + 1)), (n0 :: nt))), (frStep 11 (rchL ((y0 :: yt).take y ++ (y0 :: yt).drop (y + 1))) rfl (by simp [rchL, List.map_take, List.map_drop]; try (first | omega | exact List.take_of_length_le (by simp))) (cl_rch _) (frStep 8 (unsL (n0 :: nt)) rfl rfl (cl_uns _) (frzRow 6 (cpL L i L.length (.agg [.sl 11 0 _, .sl 8 0 (0 + (unsL (n0 :: nt)).length)])) (cpL L i L.length (lvlI (((y0 :: yt).take y ++ (y0 :: yt).drop (y + 1)), (n0 :: nt)))) rfl (by rw [Nat.zero_add]; exact cpL_set hiL) (leCp (leLvl (leRow (ds := rchL ((y0 :: yt).take y ++ (y0 :: yt).drop (y + 1))) rfl (by simp [rchL]; try omega)) (leRow (ds := unsL (n0 :: nt)) rfl (Nat.zero_add _).symm) rfl rfl)) (shCp rfl) (okCp _) (frStep 6 (lvlsL (L.set i (((y0 :: yt).take y ++ (y0 :: yt).drop (y + 1)), (n0 :: nt)))) rfl (cpL_lvl hiL) (cl_lvls _) (.refl _))))), .agg _ _ (.cons _ _ _ _ (leRow (ds := lvlsL (L.set i (((y0 :: yt).take y ++ (y0 :: yt).drop (y + 1)), (n0 :: nt)))) rfl (by simp)) .nil) rfl, rfl, by rw [hchg, if_neg (by omega), chgV4 (r := (yj, ym)) (by omega) (by rw [show z2 % ((y0 :: yt).length + 1) = y from hyp]; exact hy), show z2 % ((y0 :: yt).length + 1) = y from hyp]⟩
    · exact fin_in ⟨_, prfI (L.set i ((y0 :: yt), (n0 :: nt))), (frStep 7 (rchL (y0 :: yt)) rfl rfl (cl_rch _) (frStep 8 (unsL (n0 :: nt)) rfl rfl (cl_uns _) (frzRow 6 (cpL L i L.length (.agg [.sl 7 0 (0 + (rchL (y0 :: yt)).length), .sl 8 0 (0 + (unsL (n0 :: nt)).length)])) (cpL L i L.length (lvlI ((y0 :: yt), (n0 :: nt)))) rfl (by rw [Nat.zero_add]; exact cpL_set hiL) (leCp (leLvl (leRow (ds := rchL (y0 :: yt)) rfl (Nat.zero_add _).symm) (leRow (ds := unsL (n0 :: nt)) rfl (Nat.zero_add _).symm) rfl rfl)) (shCp rfl) (okCp _) (frStep 6 (lvlsL (L.set i ((y0 :: yt), (n0 :: nt)))) rfl (cpL_lvl hiL) (cl_lvls _) (.refl _))))), .agg _ _ (.cons _ _ _ _ (leRow (ds := lvlsL (L.set i ((y0 :: yt), (n0 :: nt)))) rfl (by simp)) .nil) rfl, rfl, by rw [hchg, if_neg (by omega), chgV_y (by omega) (List.getElem?_eq_none (by rw [show z2 % ((y0 :: yt).length + 1) = y from hyp]; omega))]⟩
    · exact fin_in ⟨_, prfI (L.set i (((y0 :: yt) ++ [(yj, ym)]), (n0 :: nt))), (frStep 12 (rchL ((y0 :: yt) ++ [(yj, ym)])) rfl (by simp [rchL, List.take_of_length_le]; try rfl) (cl_rch _) (frStep 8 (unsL (n0 :: nt)) rfl rfl (cl_uns _) (frzRow 6 (cpL L i L.length (.agg [.sl 12 0 _, .sl 8 0 (0 + (unsL (n0 :: nt)).length)])) (cpL L i L.length (lvlI (((y0 :: yt) ++ [(yj, ym)]), (n0 :: nt)))) rfl (by rw [Nat.zero_add]; exact cpL_set hiL) (leCp (leLvl (leRow (ds := rchL ((y0 :: yt) ++ [(yj, ym)])) rfl (by simp [rchL]; try omega)) (leRow (ds := unsL (n0 :: nt)) rfl (Nat.zero_add _).symm) rfl rfl)) (shCp rfl) (okCp _) (frStep 6 (lvlsL (L.set i (((y0 :: yt) ++ [(yj, ym)]), (n0 :: nt)))) rfl (cpL_lvl hiL) (cl_lvls _) (.refl _))))), .agg _ _ (.cons _ _ _ _ (leRow (ds := lvlsL (L.set i (((y0 :: yt) ++ [(yj, ym)]), (n0 :: nt)))) rfl (by simp)) .nil) rfl, rfl, by rw [hchg, if_neg (by omega), chgV5 (r := (yj, ym)) (by omega) (by rw [show z2 % ((y0 :: yt).length + 1) = y from hyp]; exact hy)]⟩
    · exact fin_in ⟨_, prfI (L.set i ((y0 :: yt), (n0 :: nt))), (frStep 7 (rchL (y0 :: yt)) rfl rfl (cl_rch _) (frStep 8 (unsL (n0 :: nt)) rfl rfl (cl_uns _) (frzRow 6 (cpL L i L.length (.agg [.sl 7 0 (0 + (rchL (y0 :: yt)).length), .sl 8 0 (0 + (unsL (n0 :: nt)).length)])) (cpL L i L.length (lvlI ((y0 :: yt), (n0 :: nt)))) rfl (by rw [Nat.zero_add]; exact cpL_set hiL) (leCp (leLvl (leRow (ds := rchL (y0 :: yt)) rfl (Nat.zero_add _).symm) (leRow (ds := unsL (n0 :: nt)) rfl (Nat.zero_add _).symm) rfl rfl)) (shCp rfl) (okCp _) (frStep 6 (lvlsL (L.set i ((y0 :: yt), (n0 :: nt)))) rfl (cpL_lvl hiL) (cl_lvls _) (.refl _))))), .agg _ _ (.cons _ _ _ _ (leRow (ds := lvlsL (L.set i ((y0 :: yt), (n0 :: nt)))) rfl (by simp)) .nil) rfl, rfl, by rw [hchg, if_neg (by omega), chgV_y (by omega) (List.getElem?_eq_none (by rw [show z2 % ((y0 :: yt).length + 1) = y from hyp]; omega))]⟩
    · exact fin_in ⟨_, prfI ((L.set i ((y0 :: yt), (n0 :: nt))).take i), (frStep 7 (rchL (y0 :: yt)) rfl rfl (cl_rch _) (frStep 8 (unsL (n0 :: nt)) rfl rfl (cl_uns _) (frzRow 6 (cpL L i L.length (.agg [.sl 7 0 (0 + (rchL (y0 :: yt)).length), .sl 8 0 (0 + (unsL (n0 :: nt)).length)])) (cpL L i L.length (lvlI ((y0 :: yt), (n0 :: nt)))) rfl rfl (leCp (leLvl (leRow (ds := rchL (y0 :: yt)) rfl (Nat.zero_add _).symm) (leRow (ds := unsL (n0 :: nt)) rfl (Nat.zero_add _).symm) rfl rfl)) (shCp rfl) (okCp _) (frStep 6 (lvlsL (L.set i ((y0 :: yt), (n0 :: nt)))) rfl (cpL_lvl hiL) (cl_lvls _) (.refl _))))), .agg _ _ (.cons _ _ _ _ (leCut (ds := lvlsL (L.set i ((y0 :: yt), (n0 :: nt)))) rfl (by simp; omega) (by simp [lvlsL])) .nil) rfl, rfl, by rw [hchg, if_pos (by omega), List.take_set_of_le (Nat.le_refl _)]⟩
    · exact fin_in ⟨_, prfI (L.set i ((y0 :: yt), ((n0 :: nt).set n (((z3 % 9 : Nat) : Int), .node nk)))), (frStep 7 (rchL (y0 :: yt)) rfl rfl (cl_rch _) (frStep 8 (unsL ((n0 :: nt).set n (((z3 % 9 : Nat) : Int), .node nk))) rfl (by rw [Nat.zero_add, Int.toNat_natCast]; unfold unsL; rw [List.map_set]; rfl) (cl_uns _) (frzRow 6 (cpL L i L.length (.agg [.sl 7 0 (0 + (rchL (y0 :: yt)).length), .sl 8 0 (0 + (unsL (n0 :: nt)).length)])) (cpL L i L.length (lvlI ((y0 :: yt), ((n0 :: nt).set n (((z3 % 9 : Nat) : Int), .node nk))))) rfl (by rw [Nat.zero_add]; exact cpL_set hiL) (leCp (leLvl (leRow (ds := rchL (y0 :: yt)) rfl (Nat.zero_add _).symm) (leRow (ds := unsL ((n0 :: nt).set n (((z3 % 9 : Nat) : Int), .node nk))) rfl (by simp [unsL])) rfl rfl)) (shCp rfl) (okCp _) (frStep 6 (lvlsL (L.set i ((y0 :: yt), ((n0 :: nt).set n (((z3 % 9 : Nat) : Int), .node nk))))) rfl (cpL_lvl hiL) (cl_lvls _) (.refl _))))), .agg _ _ (.cons _ _ _ _ (leRow (ds := lvlsL (L.set i ((y0 :: yt), ((n0 :: nt).set n (((z3 % 9 : Nat) : Int), .node nk))))) rfl (by simp)) .nil) rfl, rfl, by rw [hchg, if_neg (by omega), chgV7 (u := (nj, .node nk)) (by omega) (by rw [show z2 % ((n0 :: nt).length + 1) = n from hnp]; exact hn), show z2 % ((n0 :: nt).length + 1) = n from hnp]⟩
    · exact fin_in ⟨_, prfI (L.set i ((y0 :: yt), (n0 :: nt))), (frStep 7 (rchL (y0 :: yt)) rfl rfl (cl_rch _) (frStep 8 (unsL (n0 :: nt)) rfl rfl (cl_uns _) (frzRow 6 (cpL L i L.length (.agg [.sl 7 0 (0 + (rchL (y0 :: yt)).length), .sl 8 0 (0 + (unsL (n0 :: nt)).length)])) (cpL L i L.length (lvlI ((y0 :: yt), (n0 :: nt)))) rfl (by rw [Nat.zero_add]; exact cpL_set hiL) (leCp (leLvl (leRow (ds := rchL (y0 :: yt)) rfl (Nat.zero_add _).symm) (leRow (ds := unsL (n0 :: nt)) rfl (Nat.zero_add _).symm) rfl rfl)) (shCp rfl) (okCp _) (frStep 6 (lvlsL (L.set i ((y0 :: yt), (n0 :: nt)))) rfl (cpL_lvl hiL) (cl_lvls _) (.refl _))))), .agg _ _ (.cons _ _ _ _ (leRow (ds := lvlsL (L.set i ((y0 :: yt), (n0 :: nt)))) rfl (by simp)) .nil) rfl, rfl, by rw [hchg, if_neg (by omega), chgV_n (by omega) (List.getElem?_eq_none (by rw [show z2 % ((n0 :: nt).length + 1) = n from hnp]; omega))]⟩
theorem vRChanged (L : List Lvl) (z0 z1 z2 z3 : Nat) (g : List Int) (hL1 : 1 ≤ L.length) (hLb : L.length ≤ 1000000) (hb : ∀ l ∈ L, l.1.length ≤ 1000000 ∧ l.2.length ≤ 1000000) (ht : ∀ l ∈ L, ∀ u ∈ l.2, tbT 3 u.2) (hz0 : z0 < 256) (hz1 : z1 < 256) (hz2 : z2 < 256) (hz3 : z3 < 256) : Val Tryd.prog 23 [prfI L, .agg [.int .u8 (z0 : Int), .int .u8 (z1 : Int), .int .u8 (z2 : Int), .int .u8 (z3 : Int)], intsD g] (fun r => r = prfI (chgL L z0 z1 z2 z3 g)) := by
  obtain ⟨i, hi⟩ : ∃ i, z1 % L.length = i := ⟨_, rfl⟩
  have hiL : i < L.length := by rw [← hi]; exact Nat.mod_lt _ (by omega)
  obtain ⟨⟨ys, ns⟩, hl⟩ : ∃ l, L[i]? = some l := ⟨L[i], List.getElem?_eq_getElem hiL⟩
  have hbi := hb _ (List.mem_of_getElem? hl)
  have hti := ht _ (List.mem_of_getElem? hl)
  have hchg : chgL L z0 z1 z2 z3 g = if z0 % 8 = 6 then L.take i else L.set i (chgV (ys, ns) z0 z2 z3 g) := by unfold chgL; rw [hi, hl]
  rcases ys with _ | ⟨y0, yt⟩ <;> rcases ns with _ | ⟨n0, nt⟩
  · exact vRChg00 L z0 z1 z2 z3 g hL1 hLb hb ht hz0 hz1 hz2 hz3 i hi hiL hl hbi hti hchg
  · exact vRChg01 L z0 z1 z2 z3 g hL1 hLb hb ht hz0 hz1 hz2 hz3 i hi hiL n0 nt hl hbi hti hchg
  · exact vRChg10 L z0 z1 z2 z3 g hL1 hLb hb ht hz0 hz1 hz2 hz3 i hi hiL y0 yt hl hbi hti hchg
  · exact vRChg11 L z0 z1 z2 z3 g hL1 hLb hb ht hz0 hz1 hz2 hz3 i hi hiL y0 yt n0 nt hl hbi hti hchg

end Go.Proofs.YthfcfdlbnfcboaaDoor.Pw

/- group.Chain. -/
set_option linter.unusedVariables false
set_option linter.unusedSimpArgs false
set_option maxHeartbeats 4000000
set_option maxRecDepth 10000
namespace Go.Proofs.YthfcfdlbnfcboaaDoor.Pw
open Go

/-- A stage of the chain, out of the points that a level reaches. -/
def orbI (l : List (Nat × List Int)) : List Int := l.map fun y => (y.1 : Int)
def repI (l : List (Nat × List Int)) : List (List Int) := l.map fun y => y.2
def stgD (l : List (Nat × List Int)) : D := .agg [.list false .leaf (intsL (orbI l)), .list false .leaf (rowsL (repI l))]
def stgL (x : Inc) (k : Nat) : List D := (List.range k).map fun i => stgD (lvK x i (x.V - i)).1
def chainD (x : Inc) : D := .agg [iD x.V, .list false (.agg [.leaf, .leaf]) (stgL x x.V)]
theorem stgL_len (x : Inc) (k : Nat) : (stgL x k).length = k := by simp [stgL]
theorem stgL_cl (x : Inc) (k : Nat) : clDs (stgL x k) = true := cl_map (fun i => rfl) _
theorem stgL_snoc (x : Inc) (k : Nat) : stgL x (k + 1) = stgL x k ++ [stgD (lvK x k (x.V - k)).1] := by simp [stgL, List.range_succ]
theorem orb_snoc (l : List (Nat × List Int)) (k : Nat) (y : Nat × List Int) (h : l[k]? = some y) : intsL (orbI (l.take (k + 1))) = intsL (orbI (l.take k)) ++ [.int .i64 (y.1 : Int)] := by
  rw [List.take_add_one, h]; simp [orbI, intsL]
theorem rep_snoc (l : List (Nat × List Int)) (k : Nat) (y : Nat × List Int) (h : l[k]? = some y) : rowsL (repI (l.take (k + 1))) = rowsL (repI (l.take k)) ++ [intsD y.2] := by
  rw [List.take_add_one, h]; simp [repI, rowsL]
theorem orb_len (l : List (Nat × List Int)) (k : Nat) (h : k ≤ l.length) : (intsL (orbI (l.take k))).length = k := by simp [orbI]; omega
theorem rep_len (l : List (Nat × List Int)) (k : Nat) (h : k ≤ l.length) : (rowsL (repI (l.take k))).length = k := by simp [repI, rowsL]; omega
theorem exRe {l : List (Nat × List Int)} {n : Nat} {k : D → Prop} (h : n < l.length) (hk : ∀ a m, l[n]? = some (a, m) → k (.agg [.int .i64 (a : Int), intsD m])) : ∃ d, (l.map reachD)[n]? = some d ∧ k d :=
  exM (f := reachD) h fun a ha => hk a.1 a.2 ha
theorem frSt {H H' : List Ob} (g : Nat) {sh : Sh} {ds0 : List D} (ds : List D) (h : H.getD g .dead = .row sh ds0) (he : ds0 = ds) (hc : clDs ds = true) (hn : Frz (H.set g (.frz sh ds)) H') : Frz H H' := by
  subst he; exact .step g sh ds0 h hc hn
theorem vGChain (x : Inc) (hx : x.Ok) (hx7 : x.V ≤ 7) : Val Tryd.prog 29 [x.D] (fun r => r = .tuple [chainD x, .int .i64 0]) := by
  have hv := hx.v
  have hv1 := hx.v1
  refine Val.ofV ?_
  refine hc_ofS (okc Tryd.f29.ntmps 0) (fn := Tryd.f29) (cd := _) rfl rfl rfl rfl rfl rfl (fun hbd => ?_)
  repeat' (
   conv => whnf
   first
   | refine ifd (fun h => ?_) (fun h => ?_)
   | ((with_reducible refine hcI ?_); refine Val.call (vLevels _) (.refl _) (ler _ _) rfl ?_; rintro r rfl))
  all_goals (conv => whnf)
  all_goals (first | (exfalso; omega) | skip)
  refine itLevSF4 x hx hx7 3 (by omega) _ (.var x.D) (.var (.agg [.int .i64 0, .nils])) (.var (.agg [iD x.V, .nils])) rfl
    (fun lp k H => (k = 0 ∧ H = [.var x.D, .var (.agg [.int .i64 0, .nils]), .var (.agg [iD x.V, .nils]), lp]) ∨ (0 < k ∧ H = [.var x.D, .var (.agg [.int .i64 0, .nils]), .var (.agg [iD x.V, .sl 4 0 k]), lp, .row (.agg [.leaf, .leaf]) (stgL x k)])) _ ?_ ?_ ?_ (.inl ⟨rfl, rfl⟩)
  · rintro k H (⟨rfl, rfl⟩ | ⟨hk0, rfl⟩)
    · exact ⟨.inl ⟨_, _, _, _, rfl⟩, inAll rfl⟩
    · refine ⟨.inr ⟨_, _, _, _, _, rfl⟩, ?_⟩
      intro o ho
      simp only [List.mem_cons, List.not_mem_nil, or_false] at ho
      rcases ho with rfl | rfl | rfl | rfl | rfl <;> first | rfl | exact in_cls _ _ (stgL_cl x k)
  · intro k H hJ hk
    have hlen := lvK_len x k (x.V - k)
    obtain ⟨⟨ys, ns⟩, hlv⟩ : ∃ l, lvK x k (x.V - k) = l := ⟨_, rfl⟩
    rw [hlv] at hlen ⊢
    dsimp only at hlen
    have hol : (intsL (orbI ys)).length = ys.length := by simp [orbI]
    have hrl : (rowsL (repI ys)).length = ys.length := by simp [repI, rowsL]
    have hyl : (ys.map reachD).length = ys.length := by simp
    have hsl := stgL_len x k
    rcases hJ with ⟨rfl, rfl⟩ | ⟨hk0, rfl⟩
    · refine yc_intro (okc Tryd.f29.ntmps 4) rfl rfl rfl rfl rfl ?_
      all_goals (conv => whnf)
      refine lpX (X := Nat × List Ob) (fun y => [(4, .ptr 2 []), (7, .ptr 4 []), (22, .list false (.agg [.leaf, .leaf]) (ys.map reachD)), (23, iD (ys.map reachD).length), (24, iD y.1)]) (fun y => y.2)
        (fun y => (y.1 = 0 ∧ 0 < ys.length ∧ y.2 = [.var x.D, .var (.agg [.int .i64 0, .nils]), .var (.agg [iD x.V, .nils]), .dead, .var (.agg [.nils, .nils])]) ∨ (0 < y.1 ∧ y.1 < ys.length ∧ y.2 = [.var x.D, .var (.agg [.int .i64 0, .nils]), .var (.agg [iD x.V, .nils]), .dead, .var (.agg [.sl 5 0 y.1, .sl 6 0 y.1]), .row .leaf (intsL (orbI (ys.take y.1))), .row .leaf (rowsL (repI (ys.take y.1)))]) ∨ (y.1 = ys.length ∧ y.2 = [.var x.D, .var (.agg [.int .i64 0, .nils]), .var (.agg [iD x.V, .nils]), .dead, .var (stgD ys)])) (fun y => ys.length - y.1) ⟨ys.length + 1, ?_⟩ ?_
      · rcases Nat.eq_zero_or_pos ys.length with hz | hz
        · have hnil : ys = [] := List.eq_nil_of_length_eq_zero hz
          subst hnil
          exact nxF (X := Nat × List Ob) (0, [.var x.D, .var (.agg [.int .i64 0, .nils]), .var (.agg [iD x.V, .nils]), .dead, .var (stgD [])]) [0, 1, 2, 3, 5] (.var 5 (stgD []) _ rfl (.agg _ _ (.cons _ _ _ _ (.nils _) (.cons _ _ _ _ (.nils _) .nil)) rfl) rfl rfl (.refl _)) (by repeat (first | exact trivial | refine seC rfl rfl ?_ | refine seL (leRow rfl rfl) rfl ?_)) ((shC rfl rfl (shC rfl rfl (shC rfl rfl (shC rfl rfl (shC rfl rfl trivial)))))) rfl rfl (by dsimp only; omega) (.inr (.inr ⟨rfl, rfl⟩))
        · exact nx (X := Nat × List Ob) (0, [.var x.D, .var (.agg [.int .i64 0, .nils]), .var (.agg [iD x.V, .nils]), .dead, .var (.agg [.nils, .nils])]) [0, 1, 2, 3, 5] (by repeat (first | exact trivial | refine seC rfl rfl ?_ | refine seL (leRow rfl rfl) rfl ?_)) ((shC rfl rfl (shC rfl rfl (shC rfl rfl (shC rfl rfl (shC rfl rfl trivial)))))) rfl rfl (by dsimp only; omega) (.inl ⟨rfl, hz, rfl⟩)
      rintro ⟨j, H⟩ hP
      have hcase : (j = 0 ∧ 0 < ys.length ∧ H = [.var x.D, .var (.agg [.int .i64 0, .nils]), .var (.agg [iD x.V, .nils]), .dead, .var (.agg [.nils, .nils])]) ∨ (0 < j ∧ j < ys.length ∧ H = [.var x.D, .var (.agg [.int .i64 0, .nils]), .var (.agg [iD x.V, .nils]), .dead, .var (.agg [.sl 5 0 j, .sl 6 0 j]), .row .leaf (intsL (orbI (ys.take j))), .row .leaf (rowsL (repI (ys.take j)))]) ∨ (j = ys.length ∧ H = [.var x.D, .var (.agg [.int .i64 0, .nils]), .var (.agg [iD x.V, .nils]), .dead, .var (stgD ys)]) := hP
      clear hP
      dsimp only
      rcases hcase with ⟨hj, hj2, rfl⟩ | ⟨hj, hj2, rfl⟩ | ⟨hj, rfl⟩
      · subst hj
        repeat' (
         conv => whnf
         first
         | refine ifd (fun h => ?_) (fun h => ?_)
         | with_reducible refine ivW (by omega) (by omega) ?_
         | ((with_reducible refine exRe (by omega) ?_); intro a m hy; simp only [Int.toNat_natCast, Int.toNat_zero] at hy)
         | ((with_reducible apply ob); ((first | rfl | assumption | omega | (unfold maxLen2; omega) | (dsimp only; omega) | (simp only [LN]; omega) | (simp; done) | (simp; omega)))))
        all_goals (conv => whnf)
        all_goals (first | (exfalso; omega) | skip)
        have hos := orb_snoc ys 0 _ hy
        have hrs := rep_snoc ys 0 _ hy
        by_cases hlast : 0 + 1 = ys.length
        · have hall : ys.take (0 + 1) = ys := List.take_of_length_le (by omega)
          rw [hall] at hos hrs
          exact nxF (X := Nat × List Ob) (0 + 1, [.var x.D, .var (.agg [.int .i64 0, .nils]), .var (.agg [iD x.V, .nils]), .dead, .var (stgD ys)]) [0, 1, 2, 3, 4] (frSt 7 (intsL (orbI ys)) rfl (by rw [hos]; rfl) (cl_ints _) (frSt 9 (rowsL (repI ys)) rfl (by rw [hrs]; rfl) (cl_rows _) (.var 4 (stgD ys) _ rfl (.agg _ _ (.cons _ _ _ _ (leRow (ds := intsL (orbI ys)) rfl (by rw [hol]; exact hlast.symm)) (.cons _ _ _ _ (leRow (ds := rowsL (repI ys)) rfl (by rw [hrl]; exact hlast.symm)) .nil)) rfl) rfl rfl (.refl _)))) (by repeat (first | exact trivial | refine seC rfl rfl ?_ | refine seL (leRow rfl rfl) rfl ?_)) ((shC rfl rfl (shC rfl rfl (shC rfl rfl (shC rfl rfl (shC rfl rfl trivial)))))) rfl rfl (by dsimp only; omega) (.inr (.inr ⟨hlast, rfl⟩))
        · exact nx (X := Nat × List Ob) (0 + 1, [.var x.D, .var (.agg [.int .i64 0, .nils]), .var (.agg [iD x.V, .nils]), .dead, .var (.agg [.sl 5 0 (0 + 1), .sl 6 0 (0 + 1)]), .row .leaf (intsL (orbI (ys.take (0 + 1)))), .row .leaf (rowsL (repI (ys.take (0 + 1))))]) [0, 1, 2, 3, 4, 7, 9] (by repeat (first | exact trivial | refine seC rfl rfl ?_ | refine seL (leRow rfl rfl) rfl ?_)) ((shC rfl rfl (shC rfl rfl (shC rfl rfl (shC rfl rfl (shC rfl rfl (shR rfl (by rw [hos]; rfl) (cl_ints _) (shR rfl (by rw [hrs]; rfl) (cl_rows _) trivial)))))))) rfl rfl (by dsimp only; omega) (.inr (.inl ⟨by dsimp only; omega, by dsimp only; omega, rfl⟩))
      · have hol2 := orb_len ys j (by omega)
        have hrl2 := rep_len ys j (by omega)
        repeat' (
         conv => whnf
         first
         | refine ifd (fun h => ?_) (fun h => ?_)
         | with_reducible refine ivW (by omega) (by omega) ?_
         | ((with_reducible refine exRe (by omega) ?_); intro a m hy; simp only [Int.toNat_natCast, Int.toNat_zero] at hy)
         | ((with_reducible apply ob); ((first | rfl | assumption | omega | (unfold maxLen2; omega) | (dsimp only; omega) | (simp only [LN]; omega) | (simp; done) | (simp; omega)))))
        all_goals (conv => whnf)
        all_goals (first | (exfalso; omega) | skip)
        have hos := orb_snoc ys j _ hy
        have hrs := rep_snoc ys j _ hy
        by_cases hlast : j + 1 = ys.length
        · have hall : ys.take (j + 1) = ys := List.take_of_length_le (by omega)
          rw [hall] at hos hrs
          exact nxF (X := Nat × List Ob) (j + 1, [.var x.D, .var (.agg [.int .i64 0, .nils]), .var (.agg [iD x.V, .nils]), .dead, .var (stgD ys)]) [0, 1, 2, 3, 4] (frSt 9 (intsL (orbI ys)) rfl (by rw [hos]; show List.take j (List.drop 0 _) ++ [_] = _; rw [List.drop_zero, List.take_of_length_le (by omega)]) (cl_ints _) (frSt 11 (rowsL (repI ys)) rfl (by rw [hrs]; show List.take j (List.drop 0 _) ++ [_] = _; rw [List.drop_zero, List.take_of_length_le (by omega)]; rfl) (cl_rows _) (.var 4 (stgD ys) _ rfl (.agg _ _ (.cons _ _ _ _ (leRow (ds := intsL (orbI ys)) rfl (by rw [hol]; exact hlast.symm)) (.cons _ _ _ _ (leRow (ds := rowsL (repI ys)) rfl (by rw [hrl]; exact hlast.symm)) .nil)) rfl) rfl rfl (.refl _)))) (by repeat (first | exact trivial | refine seC rfl rfl ?_ | refine seL (leRow rfl rfl) rfl ?_)) ((shC rfl rfl (shC rfl rfl (shC rfl rfl (shC rfl rfl (shC rfl rfl trivial)))))) rfl rfl (by dsimp only; omega) (.inr (.inr ⟨hlast, rfl⟩))
        · exact nx (X := Nat × List Ob) (j + 1, [.var x.D, .var (.agg [.int .i64 0, .nils]), .var (.agg [iD x.V, .nils]), .dead, .var (.agg [.sl 5 0 (j + 1), .sl 6 0 (j + 1)]), .row .leaf (intsL (orbI (ys.take (j + 1)))), .row .leaf (rowsL (repI (ys.take (j + 1))))]) [0, 1, 2, 3, 4, 9, 11] (by repeat (first | exact trivial | refine seC rfl rfl ?_ | refine seL (leRow rfl rfl) rfl ?_)) ((shC rfl rfl (shC rfl rfl (shC rfl rfl (shC rfl rfl (shC rfl rfl (shR rfl (by rw [hos]; show List.take j (List.drop 0 _) ++ [_] = _; rw [List.drop_zero, List.take_of_length_le (by omega)]) (cl_ints _) (shR rfl (by rw [hrs]; show List.take j (List.drop 0 _) ++ [_] = _; rw [List.drop_zero, List.take_of_length_le (by omega)]; rfl) (cl_rows _) trivial)))))))) rfl rfl (by dsimp only; omega) (.inr (.inl ⟨by dsimp only; omega, by dsimp only; omega, rfl⟩))
      · repeat' (
         conv => whnf
         first
         | refine ifd (fun h => ?_) (fun h => ?_)
         | ((with_reducible apply ob); ((first | rfl | assumption | omega | (unfold maxLen2; omega) | (dsimp only; omega) | (simp only [LN]; omega) | (simp; done) | (simp; omega)))))
        all_goals (conv => whnf)
        all_goals (first | (exfalso; omega) | skip)
        refine fin_in ⟨rfl, [0, 1, 2, 3, 6], _, ?_, rfl, .inl ⟨rfl, .inr ⟨by omega, rfl⟩⟩⟩
        exact ⟨(shC rfl rfl (shC rfl rfl (shC rfl rfl (shC rfl rfl (shR rfl (by rw [stgL_snoc, hlv]; rfl) (stgL_cl _ _) trivial))))), rfl, by simp⟩
    · refine yc_intro (okc Tryd.f29.ntmps 5) rfl rfl rfl rfl rfl ?_
      all_goals (conv => whnf)
      refine lpX (X := Nat × List Ob) (fun y => [(4, .ptr 2 []), (7, .ptr 5 []), (22, .list false (.agg [.leaf, .leaf]) (ys.map reachD)), (23, iD (ys.map reachD).length), (24, iD y.1)]) (fun y => y.2)
        (fun y => (y.1 = 0 ∧ 0 < ys.length ∧ y.2 = [.var x.D, .var (.agg [.int .i64 0, .nils]), .var (.agg [iD x.V, .sl 4 0 k]), .dead, .row (.agg [.leaf, .leaf]) (stgL x k), .var (.agg [.nils, .nils])]) ∨ (0 < y.1 ∧ y.1 < ys.length ∧ y.2 = [.var x.D, .var (.agg [.int .i64 0, .nils]), .var (.agg [iD x.V, .sl 4 0 k]), .dead, .row (.agg [.leaf, .leaf]) (stgL x k), .var (.agg [.sl 6 0 y.1, .sl 7 0 y.1]), .row .leaf (intsL (orbI (ys.take y.1))), .row .leaf (rowsL (repI (ys.take y.1)))]) ∨ (y.1 = ys.length ∧ y.2 = [.var x.D, .var (.agg [.int .i64 0, .nils]), .var (.agg [iD x.V, .sl 4 0 k]), .dead, .row (.agg [.leaf, .leaf]) (stgL x k), .var (stgD ys)])) (fun y => ys.length - y.1) ⟨ys.length + 1, ?_⟩ ?_
      · rcases Nat.eq_zero_or_pos ys.length with hz | hz
        · have hnil : ys = [] := List.eq_nil_of_length_eq_zero hz
          subst hnil
          exact nxF (X := Nat × List Ob) (0, [.var x.D, .var (.agg [.int .i64 0, .nils]), .var (.agg [iD x.V, .sl 4 0 k]), .dead, .row (.agg [.leaf, .leaf]) (stgL x k), .var (stgD [])]) [0, 1, 2, 3, 4, 6] (.var 6 (stgD []) _ rfl (.agg _ _ (.cons _ _ _ _ (.nils _) (.cons _ _ _ _ (.nils _) .nil)) rfl) rfl rfl (.refl _)) (by repeat (first | exact trivial | refine seC rfl rfl ?_ | refine seL (leRow rfl rfl) rfl ?_)) ((shC rfl rfl (shC rfl rfl (shC rfl rfl (shC rfl rfl (shR rfl rfl (stgL_cl x k) (shC rfl rfl trivial))))))) rfl rfl (by dsimp only; omega) (.inr (.inr ⟨rfl, rfl⟩))
        · exact nx (X := Nat × List Ob) (0, [.var x.D, .var (.agg [.int .i64 0, .nils]), .var (.agg [iD x.V, .sl 4 0 k]), .dead, .row (.agg [.leaf, .leaf]) (stgL x k), .var (.agg [.nils, .nils])]) [0, 1, 2, 3, 4, 6] (by repeat (first | exact trivial | refine seC rfl rfl ?_ | refine seL (leRow rfl rfl) rfl ?_)) ((shC rfl rfl (shC rfl rfl (shC rfl rfl (shC rfl rfl (shR rfl rfl (stgL_cl x k) (shC rfl rfl trivial))))))) rfl rfl (by dsimp only; omega) (.inl ⟨rfl, hz, rfl⟩)
      rintro ⟨j, H⟩ hP
      have hcase : (j = 0 ∧ 0 < ys.length ∧ H = [.var x.D, .var (.agg [.int .i64 0, .nils]), .var (.agg [iD x.V, .sl 4 0 k]), .dead, .row (.agg [.leaf, .leaf]) (stgL x k), .var (.agg [.nils, .nils])]) ∨ (0 < j ∧ j < ys.length ∧ H = [.var x.D, .var (.agg [.int .i64 0, .nils]), .var (.agg [iD x.V, .sl 4 0 k]), .dead, .row (.agg [.leaf, .leaf]) (stgL x k), .var (.agg [.sl 6 0 j, .sl 7 0 j]), .row .leaf (intsL (orbI (ys.take j))), .row .leaf (rowsL (repI (ys.take j)))]) ∨ (j = ys.length ∧ H = [.var x.D, .var (.agg [.int .i64 0, .nils]), .var (.agg [iD x.V, .sl 4 0 k]), .dead, .row (.agg [.leaf, .leaf]) (stgL x k), .var (stgD ys)]) := hP
      clear hP
      dsimp only
      rcases hcase with ⟨hj, hj2, rfl⟩ | ⟨hj, hj2, rfl⟩ | ⟨hj, rfl⟩
      · subst hj
        repeat' (
         conv => whnf
         first
         | refine ifd (fun h => ?_) (fun h => ?_)
         | with_reducible refine ivW (by omega) (by omega) ?_
         | ((with_reducible refine exRe (by omega) ?_); intro a m hy; simp only [Int.toNat_natCast, Int.toNat_zero] at hy)
         | ((with_reducible apply ob); ((first | rfl | assumption | omega | (unfold maxLen2; omega) | (dsimp only; omega) | (simp only [LN]; omega) | (simp; done) | (simp; omega)))))
        all_goals (conv => whnf)
        all_goals (first | (exfalso; omega) | skip)
        have hos := orb_snoc ys 0 _ hy
        have hrs := rep_snoc ys 0 _ hy
        by_cases hlast : 0 + 1 = ys.length
        · have hall : ys.take (0 + 1) = ys := List.take_of_length_le (by omega)
          rw [hall] at hos hrs
          exact nxF (X := Nat × List Ob) (0 + 1, [.var x.D, .var (.agg [.int .i64 0, .nils]), .var (.agg [iD x.V, .sl 4 0 k]), .dead, .row (.agg [.leaf, .leaf]) (stgL x k), .var (stgD ys)]) [0, 1, 2, 3, 4, 5] (frSt 8 (intsL (orbI ys)) rfl (by rw [hos]; rfl) (cl_ints _) (frSt 10 (rowsL (repI ys)) rfl (by rw [hrs]; rfl) (cl_rows _) (.var 5 (stgD ys) _ rfl (.agg _ _ (.cons _ _ _ _ (leRow (ds := intsL (orbI ys)) rfl (by rw [hol]; exact hlast.symm)) (.cons _ _ _ _ (leRow (ds := rowsL (repI ys)) rfl (by rw [hrl]; exact hlast.symm)) .nil)) rfl) rfl rfl (.refl _)))) (by repeat (first | exact trivial | refine seC rfl rfl ?_ | refine seL (leRow rfl rfl) rfl ?_)) ((shC rfl rfl (shC rfl rfl (shC rfl rfl (shC rfl rfl (shR rfl rfl (stgL_cl x k) (shC rfl rfl trivial))))))) rfl rfl (by dsimp only; omega) (.inr (.inr ⟨hlast, rfl⟩))
        · exact nx (X := Nat × List Ob) (0 + 1, [.var x.D, .var (.agg [.int .i64 0, .nils]), .var (.agg [iD x.V, .sl 4 0 k]), .dead, .row (.agg [.leaf, .leaf]) (stgL x k), .var (.agg [.sl 6 0 (0 + 1), .sl 7 0 (0 + 1)]), .row .leaf (intsL (orbI (ys.take (0 + 1)))), .row .leaf (rowsL (repI (ys.take (0 + 1))))]) [0, 1, 2, 3, 4, 5, 8, 10] (by repeat (first | exact trivial | refine seC rfl rfl ?_ | refine seL (leRow rfl rfl) rfl ?_)) ((shC rfl rfl (shC rfl rfl (shC rfl rfl (shC rfl rfl (shR rfl rfl (stgL_cl x k) (shC rfl rfl (shR rfl (by rw [hos]; rfl) (cl_ints _) (shR rfl (by rw [hrs]; rfl) (cl_rows _) trivial))))))))) rfl rfl (by dsimp only; omega) (.inr (.inl ⟨by dsimp only; omega, by dsimp only; omega, rfl⟩))
      · have hol2 := orb_len ys j (by omega)
        have hrl2 := rep_len ys j (by omega)
        repeat' (
         conv => whnf
         first
         | refine ifd (fun h => ?_) (fun h => ?_)
         | with_reducible refine ivW (by omega) (by omega) ?_
         | ((with_reducible refine exRe (by omega) ?_); intro a m hy; simp only [Int.toNat_natCast, Int.toNat_zero] at hy)
         | ((with_reducible apply ob); ((first | rfl | assumption | omega | (unfold maxLen2; omega) | (dsimp only; omega) | (simp only [LN]; omega) | (simp; done) | (simp; omega)))))
        all_goals (conv => whnf)
        all_goals (first | (exfalso; omega) | skip)
        have hos := orb_snoc ys j _ hy
        have hrs := rep_snoc ys j _ hy
        by_cases hlast : j + 1 = ys.length
        · have hall : ys.take (j + 1) = ys := List.take_of_length_le (by omega)
          rw [hall] at hos hrs
          exact nxF (X := Nat × List Ob) (j + 1, [.var x.D, .var (.agg [.int .i64 0, .nils]), .var (.agg [iD x.V, .sl 4 0 k]), .dead, .row (.agg [.leaf, .leaf]) (stgL x k), .var (stgD ys)]) [0, 1, 2, 3, 4, 5] (frSt 10 (intsL (orbI ys)) rfl (by rw [hos]; show List.take j (List.drop 0 _) ++ [_] = _; rw [List.drop_zero, List.take_of_length_le (by omega)]) (cl_ints _) (frSt 12 (rowsL (repI ys)) rfl (by rw [hrs]; show List.take j (List.drop 0 _) ++ [_] = _; rw [List.drop_zero, List.take_of_length_le (by omega)]; rfl) (cl_rows _) (.var 5 (stgD ys) _ rfl (.agg _ _ (.cons _ _ _ _ (leRow (ds := intsL (orbI ys)) rfl (by rw [hol]; exact hlast.symm)) (.cons _ _ _ _ (leRow (ds := rowsL (repI ys)) rfl (by rw [hrl]; exact hlast.symm)) .nil)) rfl) rfl rfl (.refl _)))) (by repeat (first | exact trivial | refine seC rfl rfl ?_ | refine seL (leRow rfl rfl) rfl ?_)) ((shC rfl rfl (shC rfl rfl (shC rfl rfl (shC rfl rfl (shR rfl rfl (stgL_cl x k) (shC rfl rfl trivial))))))) rfl rfl (by dsimp only; omega) (.inr (.inr ⟨hlast, rfl⟩))
        · exact nx (X := Nat × List Ob) (j + 1, [.var x.D, .var (.agg [.int .i64 0, .nils]), .var (.agg [iD x.V, .sl 4 0 k]), .dead, .row (.agg [.leaf, .leaf]) (stgL x k), .var (.agg [.sl 6 0 (j + 1), .sl 7 0 (j + 1)]), .row .leaf (intsL (orbI (ys.take (j + 1)))), .row .leaf (rowsL (repI (ys.take (j + 1))))]) [0, 1, 2, 3, 4, 5, 10, 12] (by repeat (first | exact trivial | refine seC rfl rfl ?_ | refine seL (leRow rfl rfl) rfl ?_)) ((shC rfl rfl (shC rfl rfl (shC rfl rfl (shC rfl rfl (shR rfl rfl (stgL_cl x k) (shC rfl rfl (shR rfl (by rw [hos]; show List.take j (List.drop 0 _) ++ [_] = _; rw [List.drop_zero, List.take_of_length_le (by omega)]) (cl_ints _) (shR rfl (by rw [hrs]; show List.take j (List.drop 0 _) ++ [_] = _; rw [List.drop_zero, List.take_of_length_le (by omega)]; rfl) (cl_rows _) trivial))))))))) rfl rfl (by dsimp only; omega) (.inr (.inl ⟨by dsimp only; omega, by dsimp only; omega, rfl⟩))
      · repeat' (
         conv => whnf
         first
         | refine ifd (fun h => ?_) (fun h => ?_)
         | ((with_reducible apply ob); ((first | rfl | assumption | omega | (unfold maxLen2; omega) | (dsimp only; omega) | (simp only [LN]; omega) | (simp; done) | (simp; omega)))))
        all_goals (conv => whnf)
        all_goals (first | (exfalso; omega) | skip)
        refine fin_in ⟨rfl, [0, 1, 2, 3, 7], _, ?_, rfl, .inl ⟨rfl, .inr ⟨by omega, rfl⟩⟩⟩
        exact ⟨(shC rfl rfl (shC rfl rfl (shC rfl rfl (shC rfl rfl (shR rfl (by rw [stgL_snoc, hlv]; show List.take k (List.drop 0 (stgL x k)) ++ [_] = _; rw [List.drop_zero, List.take_of_length_le (by omega)]; rfl) (stgL_cl _ _) trivial))))), rfl, by simp⟩
  · rintro H (⟨h0, rfl⟩ | ⟨hk0, rfl⟩)
    · omega
    · conv => whnf
      all_goals (conv => whnf)
      refine fin_in ⟨_, .tuple [chainD x, .int .i64 0], .step 4 (.agg [.leaf, .leaf]) (stgL x x.V) rfl (stgL_cl _ _) (.refl _), .tuple _ _ (.cons _ _ _ _ (.agg _ _ (.cons _ _ _ _ (.refl _) (.cons _ _ _ _ (leRow rfl (stgL_len _ _)) .nil)) rfl) (.cons _ _ _ _ (.refl _) .nil)), rfl, rfl⟩

end Go.Proofs.YthfcfdlbnfcboaaDoor.Pw
