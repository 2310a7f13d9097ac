/- Parts of the proof, merged: YO YP ZC YQ ZD YR. -/
import Derived.Test.YthfcfdlbnfcboaaDoorXd
import Derived.Test.YthfcfdlbnfcboaaDoorXc
import Derived.Test.YthfcfdlbnfcboaaDoorPe
/- perm.orbit. -/
set_option linter.unusedVariables false
set_option linter.unusedSimpArgs false
set_option maxHeartbeats 4000000
set_option maxRecDepth 10000
namespace Go.Proofs.YthfcfdlbnfcboaaDoor.Pw
open Go

abbrev How := List (Option (List Int))
def howL (h : How) : List D := h.map optD
theorem cl_how (h : How) : clDs (howL h) = true := cl_map (fun o => by cases o <;> rfl) h
@[simp] theorem howL_len (h : How) : (howL h).length = h.length := by simp [howL]
/-- One permutation, from a point that is reached. -/
def orbS (x : Nat) (g : List Int) (s : How × List Int) : How × List Int :=
  match s.1[(g.getD x 0).toNat]? with
  | some none => (s.1.set (g.getD x 0).toNat (some (mulI ((s.1.getD x none).getD []) g)), s.2 ++ [g.getD x 0])
  | _ => s
def orbT (gens : List (List Int)) (x : Nat) (s : How × List Int) : Nat → How × List Int
  | 0 => s
  | k + 1 => orbS x (gens.getD k []) (orbT gens x s k)
def orbF (gens : List (List Int)) : Nat → How × List Int → How
  | 0, s => s.1
  | f + 1, s => match s.2 with
    | [] => s.1
    | x :: q => orbF gens f (orbT gens x.toNat (s.1, q) gens.length)
def orb0 (n p : Nat) : How := (List.replicate n none).set p (some (oneI n))
def orbM (n p : Nat) (gens : List (List Int)) : How := orbF gens (2 * n) (orb0 n p, [(p : Int)])
def noneN (h : How) : Nat := h.countP Option.isNone
def mesS (s : How × List Int) : Nat := 2 * noneN s.1 + s.2.length
/-- Maps are permutations, and the points that wait are reached. -/
structure OrbOk (n : Nat) (s : How × List Int) : Prop where
  len : s.1.length = n
  pm : ∀ l, some l ∈ s.1 → Pm l n
  q : ∀ y ∈ s.2, 0 ≤ y ∧ y < n ∧ ∃ l, s.1[y.toNat]? = some (some l)
theorem countP_set {α : Type} (p : α → Bool) : ∀ (l : List α) (i : Nat) (a b : α), l[i]? = some a → p a = true → p b = false → (l.set i b).countP p + 1 = l.countP p
  | [], i, a, b, h, _, _ => by simp at h
  | c :: l, 0, a, b, h, ha, hb => by
    simp at h; subst h
    simp [List.countP_cons, ha, hb]
  | c :: l, i + 1, a, b, h, ha, hb => by
    have := countP_set p l i a b (by simpa using h) ha hb
    simp only [List.set_cons_succ, List.countP_cons]
    omega
theorem mul_pm {n : Nat} {a b : List Int} (ha : Pm a n) (hb : Pm b n) : Pm (mulI a b) n := by
  have hal : a.length = n := ha.1
  have e : mulI a b = (List.range a.length).map (mulF a b) := mulK_map a b a.length
  have hF : ∀ i, i < n → ∃ (h1 : i < a.length) (h2 : (a[i]).toNat < b.length), mulF a b i = b[(a[i]).toNat] := fun i hi => by
    have h1 : i < a.length := by omega
    have hr := ha.2.1 _ (List.getElem_mem h1)
    have h2 : (a[i]).toNat < b.length := by rw [hb.1]; omega
    exact ⟨h1, h2, by unfold mulF; rw [getD_of (List.getElem?_eq_getElem h1), getD_of (List.getElem?_eq_getElem h2)]⟩
  refine ⟨by rw [e]; simp [hal], fun x hx => ?_, ?_⟩
  · rw [e] at hx
    obtain ⟨i, hi, rfl⟩ := List.mem_map.1 hx
    obtain ⟨h1, h2, h3⟩ := hF i (by have := List.mem_range.1 hi; omega)
    rw [h3]
    exact hb.2.1 _ (List.getElem_mem h2)
  · rw [e, hal]
    refine (nd_map fun i hi j hj hij => ?_).2 List.nodup_range
    obtain ⟨h1, h2, h3⟩ := hF i (List.mem_range.1 hi)
    obtain ⟨g1, g2, g3⟩ := hF j (List.mem_range.1 hj)
    rw [h3, g3] at hij
    have h4 := (List.getElem_inj hb.2.2).1 hij
    have r1 := ha.2.1 _ (List.getElem_mem h1)
    have r2 := ha.2.1 _ (List.getElem_mem g1)
    exact (List.getElem_inj ha.2.2).1 (by omega)
theorem one_pm (n : Nat) : Pm (oneI n) n := ⟨one_len n, one_dif n n (Nat.le_refl _)⟩
theorem orbS_ok {n x : Nat} {g : List Int} {s : How × List Int} (hg : Pm g n) (hs : OrbOk n s) (hx : x < n) (hl : ∃ l, s.1[x]? = some (some l)) : OrbOk n (orbS x g s) ∧ mesS (orbS x g s) ≤ mesS s ∧ ∀ (y : Nat) (l : List Int), s.1[y]? = some (some l) → (orbS x g s).1[y]? = some (some l) := by
  obtain ⟨l0, hl0⟩ := hl
  have hxg : x < g.length := by rw [hg.1]; exact hx
  have hgx : g.getD x 0 = g[x] := getD_of (List.getElem?_eq_getElem hxg)
  have hr := hg.2.1 _ (List.getElem_mem hxg)
  rw [← hgx] at hr
  have hql : (g.getD x 0).toNat < s.1.length := by rw [hs.len]; omega
  unfold orbS
  cases ho : s.1[(g.getD x 0).toNat] with
  | some l =>
    rw [List.getElem?_eq_getElem hql, ho]
    exact ⟨hs, Nat.le_refl _, fun _ _ h => h⟩
  | none =>
    have ho2 : s.1[(g.getD x 0).toNat]? = some none := by rw [List.getElem?_eq_getElem hql, ho]
    rw [ho2]
    have hd : (s.1.getD x none).getD [] = l0 := by rw [getD_of hl0]; rfl
    dsimp only
    rw [hd]
    have hp : Pm (mulI l0 g) n := mul_pm (hs.pm l0 (List.mem_of_getElem? hl0)) hg
    have hkeep : ∀ (y : Nat) (l : List Int), s.1[y]? = some (some l) → (s.1.set (g.getD x 0).toNat (some (mulI l0 g)))[y]? = some (some l) := fun y l h => by
      have hne : (g.getD x 0).toNat ≠ y := fun e => by rw [← e, ho2] at h; cases h
      rw [List.getElem?_set_ne hne]; exact h
    refine ⟨⟨by simp [hs.len], fun l hl => ?_, fun y hy => ?_⟩, ?_, hkeep⟩
    · rcases List.mem_or_eq_of_mem_set hl with h | h
      · exact hs.pm l h
      · cases h; exact hp
    · rcases List.mem_append.1 hy with h | h
      · obtain ⟨h1, h2, l, h3⟩ := hs.q y h
        exact ⟨h1, h2, l, hkeep _ _ h3⟩
      · rw [List.mem_singleton.1 h]
        exact ⟨hr.1, hr.2, _, List.getElem?_set_self hql⟩
    · have := countP_set Option.isNone s.1 _ none (some (mulI l0 g)) ho2 rfl rfl
      unfold mesS noneN
      simp only [List.length_append, List.length_cons, List.length_nil]
      omega
theorem orbT_ok {n x : Nat} {gens : List (List Int)} {s : How × List Int} (hg : ∀ g ∈ gens, Pm g n) (hs : OrbOk n s) (hx : x < n) (hl : ∃ l, s.1[x]? = some (some l)) : ∀ k, k ≤ gens.length → OrbOk n (orbT gens x s k) ∧ mesS (orbT gens x s k) ≤ mesS s ∧ (∃ l, (orbT gens x s k).1[x]? = some (some l))
  | 0, _ => ⟨hs, Nat.le_refl _, hl⟩
  | k + 1, hk => by
    obtain ⟨h1, h2, l, h3⟩ := orbT_ok hg hs hx hl k (by omega)
    have hgk : gens[k]? = some gens[k] := List.getElem?_eq_getElem (by omega)
    have hgd : gens.getD k [] = gens[k] := getD_of hgk
    have := orbS_ok (g := gens[k]) (hg _ (List.getElem_mem _)) h1 hx ⟨l, h3⟩
    unfold orbT
    rw [hgd]
    exact ⟨this.1, Nat.le_trans this.2.1 h2, l, this.2.2 x l h3⟩
theorem orbF_end (gens : List (List Int)) (f : Nat) (h : How) : orbF gens f (h, []) = h := by cases f <;> rfl
theorem orb0_ok {n p : Nat} (hp : p < n) : OrbOk n (orb0 n p, [(p : Int)]) ∧ mesS (orb0 n p, [(p : Int)]) ≤ 2 * n := by
  refine ⟨⟨by simp [orb0], fun l hl => ?_, fun y hy => ?_⟩, ?_⟩
  · rcases List.mem_or_eq_of_mem_set hl with h | h
    · have := List.eq_of_mem_replicate h; cases this
    · cases h; exact one_pm n
  · rw [List.mem_singleton.1 hy]
    refine ⟨by omega, by omega, oneI n, ?_⟩
    show ((List.replicate n none).set p (some (oneI n)))[p]? = _
    rw [List.getElem?_set_self (by simp; exact hp)]
  · have h1 : (List.replicate n (none : Option (List Int)))[p]? = some none := by simp [hp]
    have := countP_set Option.isNone (List.replicate n (none : Option (List Int))) p none (some (oneI n)) h1 rfl rfl
    have h2 : (List.replicate n (none : Option (List Int))).countP Option.isNone = n := by simp [List.countP_replicate]
    unfold mesS noneN orb0
    simp only [List.length_cons, List.length_nil]
    omega
theorem exHw {l : How} {n : Nat} {k : D → Prop} (h : n < l.length) (hk : ∀ o, l[n]? = some o → k (optD o)) : ∃ d, (howL l)[n]? = some d ∧ k d := exM (f := optD) h hk
theorem exRk {l : List (List Int)} {n : Nat} {a : List Int} {k : D → Prop} (h : l[n]? = some a) (hk : k (intsD a)) : ∃ d, (rowsL l)[n]? = some d ∧ k d := ⟨_, by unfold rowsL; rw [List.getElem?_map, h]; rfl, hk⟩
theorem exIk {l : List Int} {n : Nat} {a : Int} {k : D → Prop} (h : l[n]? = some a) (hk : k (.int .i64 a)) : ∃ d, (intsL l)[n]? = some d ∧ k d := ⟨_, by unfold intsL; rw [List.getElem?_map, h]; rfl, hk⟩
theorem exHk {l : How} {n : Nat} {o : Option (List Int)} {k : D → Prop} (h : l[n]? = some o) (hk : k (optD o)) : ∃ d, (howL l)[n]? = some d ∧ k d := ⟨_, by unfold howL; rw [List.getElem?_map, h]; rfl, hk⟩
theorem vOrbit (n p : Nat) (gens : List (List Int)) (hn : n ≤ 16) (hp : p < n) (hg : ∀ g ∈ gens, Pm g n) (hgl : gens.length ≤ 1000000) : Val Tryd.prog 89 [iD n, iD p, rowsD gens] (fun r => r = .list false .leaf (howL (orbM n p gens))) := by
  have hr0 := rowsL_len gens
  obtain ⟨hok0, hmes0⟩ := orb0_ok hp
  have hone := vPOne n (by omega)
  refine Val.ofV ?_
  refine hc_ofS (okc Tryd.f89.ntmps 0) (fn := Tryd.f89) (cd := _) rfl rfl rfl rfl rfl rfl (fun hbd => ?_)
  repeat' (
   conv => whnf
   first
   | ((with_reducible refine hcI ?_); refine Val.call (vPOne _ (by omega)) (.refl _) (ler _ _) rfl ?_; rintro r rfl)
   | ((with_reducible apply ob); ((first | rfl | assumption | omega | (unfold maxLen2; omega) | (dsimp only; omega) | (simp only [LN]; omega) | (simp; done) | (simp; omega)))))
  all_goals (conv => whnf)
  all_goals (first | (exfalso; omega) | skip)
  refine lpX (X := Nat × How × List Int × Nat) (fun y => [(2, rowsD gens), (7, .sl 0 0 n), (8, .sl 1 y.2.2.2 (y.2.2.1.length - y.2.2.2))]) (fun y => [.row .leaf (howL y.2.1), .row .leaf (intsL y.2.2.1)])
    (fun y => y.1 ≤ 2 * n ∧ y.2.2.2 ≤ y.2.2.1.length ∧ OrbOk n (y.2.1, y.2.2.1.drop y.2.2.2) ∧ mesS (y.2.1, y.2.2.1.drop y.2.2.2) ≤ y.1 ∧ orbM n p gens = orbF gens y.1 (y.2.1, y.2.2.1.drop y.2.2.2)) (fun y => y.1)
    ⟨_, nx (2 * n, orb0 n p, [(p : Int)], 0) [0, 1] (by repeat (first | exact trivial | refine seC rfl rfl ?_ | refine seL (leRow rfl rfl) rfl ?_)) (shR rfl (by show (List.replicate n D.nils).set (0 + ((p : Nat) : Int).toNat) (intsD (oneI n)) = _; simp [howL, orb0, List.map_set, optD]) (cl_how _) (shR rfl rfl (cl_ints _) trivial)) rfl rfl (Nat.lt_succ_self _) ⟨Nat.le_refl _, Nat.zero_le _, hok0, hmes0, rfl⟩⟩ ?_
  rintro ⟨f, how, Q, off⟩ ⟨hf, hoff, hok, hmes, hres⟩
  dsimp only at hf hoff hok hmes hres ⊢
  have hQ0 := intsL_len Q
  have hH0 := howL_len how
  have hHl : how.length = n := hok.len
  have hml : Q.length - off ≤ f := by
    have := hmes; unfold mesS at this; simp only [List.length_drop] at this; omega
  rcases Nat.eq_zero_or_pos (Q.length - off) with hz | hz
  · rw [hz]
    all_goals (conv => whnf)
    all_goals (first | (exfalso; omega) | skip)
    have hend : orbM n p gens = how := by rw [hres, List.drop_eq_nil_of_le (by omega), orbF_end]
    apply fR' (howL (orbM n p gens))
    case hg => rfl
    case hc => exact cl_how _
    case h => rfl
    · rw [hend]
    · rw [hend, howL_len]; exact hHl
  · have hlt : off < Q.length := by omega
    obtain ⟨x, hx⟩ : ∃ x, Q[off]? = some x := ⟨Q[off], List.getElem?_eq_getElem hlt⟩
    have hd1 : Q.drop off = x :: Q.drop (off + 1) := by
      rw [List.drop_eq_getElem_cons hlt]
      rw [List.getElem?_eq_getElem hlt] at hx; rw [Option.some.inj hx]
    obtain ⟨hx0, hxn, l1, hl1⟩ := hok.q x (by rw [hd1]; exact List.mem_cons_self)
    obtain ⟨f', rfl⟩ : ∃ f', f = f' + 1 := ⟨f - 1, by omega⟩
    have hok1 : OrbOk n (how, Q.drop (off + 1)) := ⟨hok.len, hok.pm, fun y hy => hok.q y (by rw [hd1]; exact List.mem_cons_of_mem _ hy)⟩
    have hmes1 : mesS (how, Q.drop (off + 1)) ≤ f' := by
      unfold mesS at hmes ⊢
      rw [hd1] at hmes
      simp only [List.length_cons] at hmes ⊢
      omega
    have hres1 : orbM n p gens = orbF gens f' (orbT gens x.toNat (how, Q.drop (off + 1)) gens.length) := by rw [hres, hd1]; rfl
    have hT := orbT_ok hg hok1 (x := x.toNat) (by omega) ⟨l1, hl1⟩
    repeat' (
     conv => whnf
     first
     | refine ifd (fun h => ?_) (fun h => ?_)
     | ((with_reducible refine exI' (by omega) ?_); intro y hy; (try simp only [Int.toNat_natCast, Nat.zero_add] at hy); (try have hyr := hR _ (List.mem_of_getElem? hy)))
     | ((with_reducible apply ob); ((first | rfl | assumption | omega | (unfold maxLen2; omega) | (dsimp only; omega) | (simp only [LN]; omega) | (simp; done) | (simp; omega)))))
    all_goals (conv => whnf)
    all_goals (first | (exfalso; omega) | skip)
    obtain rfl : x = y := Option.some.inj (hx.symm.trans hy)
    refine lpX (X := Nat × How × List Int × Nat) (fun y => [(2, rowsD gens), (7, .sl 0 0 n), (8, .sl 1 y.2.2.2 (y.2.2.1.length - y.2.2.2)), (9, .int .i64 x), (29, rowsD gens), (30, iD (rowsL gens).length), (31, iD y.1)]) (fun y => [.row .leaf (howL y.2.1), .row .leaf (intsL y.2.2.1)])
      (fun y => y.1 ≤ gens.length ∧ y.2.2.2 ≤ y.2.2.1.length ∧ (y.2.1, y.2.2.1.drop y.2.2.2) = orbT gens x.toNat (how, Q.drop (off + 1)) y.1) (fun y => gens.length - y.1)
      ⟨_, nx0 (0, how, Q, off + 1) (by repeat (first | exact trivial | refine se0 rfl ?_ | refine se0 (show D.sl 1 (off + 1) (Q.length - off - 1) = D.sl 1 (off + 1) (Q.length - (off + 1)) from by rw [Nat.sub_sub]) ?_)) rfl (Nat.lt_succ_self _) ⟨Nat.zero_le _, by dsimp only; omega, rfl⟩⟩ ?_
    rintro ⟨k, how', Q', off'⟩ ⟨hk, hoff', hst⟩
    dsimp only at hk hoff' hst ⊢
    obtain ⟨hok', hmes', l0, hl0⟩ := hT k hk
    rw [← hst] at hok' hmes' hl0
    dsimp only at hl0
    have hQ0' := intsL_len Q'
    have hH0' := howL_len how'
    have hHl' : how'.length = n := hok'.len
    have hml' : Q'.length - off' ≤ f' := by
      have := Nat.le_trans hmes' hmes1
      unfold mesS at this; simp only [List.length_drop] at this; omega
    rcases Nat.lt_or_ge k gens.length with hkl | hkg
    · obtain ⟨g, hgk⟩ : ∃ g, gens[k]? = some g := ⟨gens[k], List.getElem?_eq_getElem hkl⟩
      have hgp := hg g (List.mem_of_getElem? hgk)
      have hgl2 : g.length = n := hgp.1
      have hR := hgp.2.1
      have hgk2 := toN hgk
      have hgy0 := intsL_len g
      repeat' (
       conv => whnf
       first
       | refine ifd (fun h => ?_) (fun h => ?_)
       | ((with_reducible refine exI' (by omega) ?_); intro y hy; (try simp only [Int.toNat_natCast, Nat.zero_add] at hy); (try have hyr := hR _ (List.mem_of_getElem? hy)))
       | ((with_reducible refine exRk hgk2 ?_))
       | ((with_reducible apply ob); ((first | rfl | assumption | omega | (unfold maxLen2; omega) | (dsimp only; omega) | (simp only [LN]; omega) | (simp; done) | (simp; omega)))))
      all_goals (conv => whnf)
      all_goals (first | (exfalso; omega) | skip)
      have hgy := hy
      have hgd : g.getD x.toNat 0 = y := getD_of hgy
      have hsucc : orbT gens x.toNat (how, Q.drop (off + 1)) (k + 1) = orbS x.toNat g (how', Q'.drop off') := by
        show orbS x.toNat (gens.getD k []) (orbT gens x.toNat (how, Q.drop (off + 1)) k) = _
        rw [getD_of hgk, ← hst]
      obtain ⟨o, ho⟩ : ∃ o, how'[y.toNat]? = some o := ⟨_, List.getElem?_eq_getElem (by omega)⟩
      have ho2 : how'[0 + y.toNat]? = some o := by rw [Nat.zero_add]; exact ho
      have hl02 : how'[0 + x.toNat]? = some (some l0) := by rw [Nat.zero_add]; exact hl0
      rcases o with _ | l
      · have hlp := hok'.pm l0 (List.mem_of_getElem? hl0)
        have hmul := vPMul l0 g (fun z hz => by rw [hgl2]; exact hlp.2.1 z hz) (by rw [hlp.1]; omega)
        have hS : orbS x.toNat g (how', Q'.drop off') = (how'.set y.toNat (some (mulI l0 g)), Q'.drop off' ++ [y]) := by
          unfold orbS
          rw [hgd]; dsimp only
          rw [ho]; dsimp only
          rw [getD_of hl0]; rfl
        repeat' (
         conv => whnf
         first
         | ((with_reducible refine exIk hgy ?_))
         | with_reducible refine ivW (by omega) (by omega) ?_
         | ((with_reducible refine exHk ho2 ?_))
         | ((with_reducible refine exHk hl02 ?_))
         | ((with_reducible refine pcI ?_); refine Val.pure hmul (ler _ _) rfl rfl ?_)
         | ((with_reducible apply drT 11); rfl)
         | ((with_reducible apply ob); ((first | rfl | assumption | omega | (unfold maxLen2; omega) | (dsimp only; omega) | (simp only [LN]; omega) | (simp; done) | (simp; omega)))))
        all_goals (conv => whnf)
        all_goals (first | (exfalso; omega) | skip)
        refine nx (X := Nat × How × List Int × Nat) (k + 1, how'.set y.toNat (some (mulI l0 g)), Q'.drop off' ++ [y], 0) [0, 3] ?_ ?_ rfl rfl (by dsimp only; omega) ⟨by dsimp only; omega, Nat.zero_le _, by rw [hsucc, hS]; rfl⟩
        · repeat (first | exact trivial | refine seC rfl rfl ?_ | refine seC (show D.sl 3 0 ((Q'.length - off') + 1) = D.sl 3 0 ((Q'.drop off' ++ [y]).length - 0) from by simp) rfl ?_)
        · refine shR rfl ?_ (cl_how _) (shR rfl ?_ (cl_ints _) trivial)
          · show (howL how').set (0 + y.toNat) (optD (some (mulI l0 g))) = _
            rw [Nat.zero_add]; unfold howL; rw [List.map_set]
          · show List.take (Q'.length - off') (List.drop off' (intsL Q')) ++ [D.int .i64 y] = intsL (Q'.drop off' ++ [y])
            simp [intsL, List.map_drop, List.take_of_length_le]
      · have hne : intsL l ≠ [] := fun e => by
          have h1 := (hok'.pm l (List.mem_of_getElem? ho)).1
          have := congrArg List.length e
          rw [intsL_len, h1, List.length_nil] at this
          omega
        have hS : orbS x.toNat g (how', Q'.drop off') = (how', Q'.drop off') := by
          unfold orbS
          rw [hgd]; dsimp only
          rw [ho]
        repeat' (
         conv => whnf
         first
         | with_reducible refine ivW (by omega) (by omega) ?_
         | ((with_reducible refine exHk ho2 ?_))
         | ((with_reducible apply ob); ((first | rfl | assumption | omega | (unfold maxLen2; omega) | (dsimp only; omega) | (simp only [LN]; omega) | (simp; done) | (simp; omega)))))
        all_goals (conv => whnf)
        all_goals (first | (exfalso; omega) | skip)
        exact nx0 (k + 1, how', Q', off') (by repeat (first | exact trivial | refine se0 rfl ?_)) rfl (by dsimp only; omega) ⟨by dsimp only; omega, hoff', by dsimp only; rw [hsucc, hS]⟩
    · have hkn : k = gens.length := by omega
      subst hkn
      repeat' (
       conv => whnf
       first
       | refine ifd (fun h => ?_) (fun h => ?_)
       | ((with_reducible apply ob); ((first | rfl | assumption | omega | (unfold maxLen2; omega) | (dsimp only; omega) | (simp only [LN]; omega) | (simp; done) | (simp; omega)))))
      all_goals (conv => whnf)
      all_goals (first | (exfalso; omega) | skip)
      exact nx0 (f', how', Q', off') (by repeat (first | exact trivial | refine se0 rfl ?_)) rfl (by dsimp only; omega) ⟨by dsimp only; omega, hoff', hok', Nat.le_trans hmes' hmes1, by dsimp only; rw [hst]; exact hres1⟩

end Go.Proofs.YthfcfdlbnfcboaaDoor.Pw

/- perm.Orbits, group.Orbits, law20.orbits. -/
set_option linter.unusedVariables false
set_option linter.unusedSimpArgs false
set_option maxHeartbeats 4000000
set_option maxRecDepth 10000
namespace Go.Proofs.YthfcfdlbnfcboaaDoor.Pw
open Go

/-- The points that are reached, and what is then done. -/
def lK (h : How) : Nat → List Int
  | 0 => []
  | i + 1 => if (h.getD i none).isSome = true then lK h i ++ [(i : Int)] else lK h i
def doneK (h : How) (d : List Bool) : Nat → List Bool
  | 0 => d
  | i + 1 => if (h.getD i none).isSome = true then (doneK h d i).set i true else doneK h d i
theorem doneK_len (h : How) (d : List Bool) : ∀ i, (doneK h d i).length = d.length
  | 0 => rfl
  | i + 1 => by unfold doneK; split <;> simp [doneK_len h d i]
theorem lK_len (h : How) : ∀ i, (lK h i).length ≤ i
  | 0 => Nat.le_refl _
  | i + 1 => by
    have := lK_len h i
    unfold lK; split
    · simp; omega
    · omega
def orbsK (n : Nat) (gens : List (List Int)) : Nat → List (List Int) × List Bool
  | 0 => ([], List.replicate n false)
  | p + 1 => if (orbsK n gens p).2.getD p false = true then orbsK n gens p else ((orbsK n gens p).1 ++ [lK (orbM n p gens) n], doneK (orbM n p gens) (orbsK n gens p).2 n)
theorem orbsK_len (n : Nat) (gens : List (List Int)) : ∀ p, (orbsK n gens p).2.length = n ∧ (orbsK n gens p).1.length ≤ p
  | 0 => by simp [orbsK]
  | p + 1 => by
    obtain ⟨h1, h2⟩ := orbsK_len n gens p
    unfold orbsK; split
    · exact ⟨h1, by omega⟩
    · exact ⟨by rw [doneK_len]; exact h1, by simp; omega⟩
theorem orbT_keep {n x : Nat} {gens : List (List Int)} {s : How × List Int} (hg : ∀ g ∈ gens, Pm g n) (hs : OrbOk n s) (hx : x < n) (hl : ∃ l, s.1[x]? = some (some l)) : ∀ k, k ≤ gens.length → ∀ (y : Nat) (l : List Int), s.1[y]? = some (some l) → (orbT gens x s k).1[y]? = some (some l)
  | 0, _, _, _, h => h
  | k + 1, hk, y, l, h => by
    have hT := orbT_ok hg hs hx hl k (by omega)
    have hgk : gens[k]? = some gens[k] := List.getElem?_eq_getElem (by omega)
    have hgd : gens.getD k [] = gens[k] := getD_of hgk
    unfold orbT
    rw [hgd]
    exact (orbS_ok (hg _ (List.getElem_mem _)) hT.1 hx hT.2.2).2.2 y l (orbT_keep hg hs hx hl k (by omega) y l h)
theorem orbF_ok {n : Nat} {gens : List (List Int)} (hg : ∀ g ∈ gens, Pm g n) : ∀ f s, OrbOk n s → mesS s ≤ f → OrbOk n (orbF gens f s, [])∧ ∀ (y : Nat) (l : List Int), s.1[y]? = some (some l) → (orbF gens f s)[y]? = some (some l)
  | 0, s, hs, hm => ⟨⟨hs.len, hs.pm, fun y hy => by cases hy⟩, fun _ _ h => h⟩
  | f + 1, (h, []), hs, hm => ⟨⟨hs.len, hs.pm, fun y hy => by cases hy⟩, fun _ _ h => h⟩
  | f + 1, (h, x :: q), hs, hm => by
    obtain ⟨h0, h1, l, h2⟩ := hs.q x List.mem_cons_self
    have hs1 : OrbOk n (h, q) := ⟨hs.len, hs.pm, fun y hy => hs.q y (List.mem_cons_of_mem _ hy)⟩
    have hT := orbT_ok hg hs1 (x := x.toNat) (by omega) ⟨l, h2⟩ gens.length (Nat.le_refl _)
    have hm1 : mesS (orbT gens x.toNat (h, q) gens.length) ≤ f := Nat.le_trans hT.2.1 (by
      unfold mesS at hm ⊢
      simp only [List.length_cons] at hm ⊢
      omega)
    have ih := orbF_ok hg f _ hT.1 hm1
    refine ⟨ih.1, fun y l hy => ih.2 y l ?_⟩
    exact orbT_keep hg hs1 (by omega) ⟨_, h2⟩ gens.length (Nat.le_refl _) y l hy
theorem orbM_ok {n p : Nat} {gens : List (List Int)} (hg : ∀ g ∈ gens, Pm g n) (hp : p < n) : (orbM n p gens).length = n ∧ (∀ l, some l ∈ orbM n p gens → Pm l n) ∧ (orbM n p gens)[p]? = some (some (oneI n)) := by
  obtain ⟨h1, h2⟩ := orb0_ok hp
  have h3 := orbF_ok hg (2 * n) _ h1 h2
  refine ⟨h3.1.len, h3.1.pm, h3.2 p _ ?_⟩
  show ((List.replicate n none).set p (some (oneI n)))[p]? = _
  rw [List.getElem?_set_self (by simp; exact hp)]
theorem lK_mem (h : How) (q : Int) : ∀ i, q ∈ lK h i ↔ ∃ j : Nat, j < i ∧ (h.getD j none).isSome = true ∧ (j : Int) = q
  | 0 => by simp [lK]
  | i + 1 => by
    have ih := lK_mem h q i
    unfold lK; split
    · rename_i hs
      rw [List.mem_append, ih, List.mem_singleton]
      constructor
      · rintro (⟨j, h1, h2⟩ | rfl)
        · exact ⟨j, by omega, h2⟩
        · exact ⟨i, by omega, hs, rfl⟩
      · rintro ⟨j, h1, h2, h3⟩
        rcases Nat.lt_succ_iff_lt_or_eq.1 h1 with h | rfl
        · exact .inl ⟨j, h, h2, h3⟩
        · exact .inr h3.symm
    · rename_i hs
      rw [ih]
      constructor
      · rintro ⟨j, h1, h2⟩; exact ⟨j, by omega, h2⟩
      · rintro ⟨j, h1, h2, h3⟩
        rcases Nat.lt_succ_iff_lt_or_eq.1 h1 with h | rfl
        · exact ⟨j, h, h2, h3⟩
        · exact absurd h2 hs
def boolsL (l : List Bool) : List D := l.map D.bool
@[simp] theorem boolsL_len (l : List Bool) : (boolsL l).length = l.length := by simp [boolsL]
theorem cl_bools (l : List Bool) : clDs (boolsL l) = true := cl_map (fun _ => rfl) l
theorem exBo {l : List Bool} {n : Nat} {b : Bool} {k : D → Prop} (h : l[n]? = some b) (hk : k (.bool b)) : ∃ d, (boolsL l)[n]? = some d ∧ k d := ⟨_, by unfold boolsL; rw [List.getElem?_map, h]; rfl, hk⟩
def outS : List (List Int) → D
  | [] => .nils
  | o :: os => .sl 1 0 (rowsL (o :: os)).length
def outO : List (List Int) → List Ob
  | [] => []
  | o :: os => [.row .leaf (rowsL (o :: os))]
def ptS (g : Nat) : List Int → D
  | [] => .nils
  | a :: l => .sl g 0 (intsL (a :: l)).length
def ptO : List Int → List Ob
  | [] => []
  | a :: l => [.row .leaf (intsL (a :: l))]
/-- What Orbits returns. -/
def orbsM (n : Nat) (gens : List (List Int)) : List (List Int) := (orbsK n gens n).1
theorem vPOrbits (n : Nat) (gens : List (List Int)) (hn1 : 1 ≤ n) (hn : n ≤ 16) (hg : ∀ g ∈ gens, Pm g n) (hgl : gens.length ≤ 100) : Val Tryd.prog 75 [iD n, rowsD gens] (fun r => r = .tuple [rowsD (orbsM n gens), .int .i64 0]) := by
  have hr0 := rowsL_len gens
  have hacc := vAccepted 16 n gens
  have hab : accB 16 n gens = true := by
    unfold accB
    rw [decide_eq_true ⟨hn1, hn, hgl⟩, Bool.true_and, Bool.not_eq_true', List.any_eq_false]
    intro g h
    have hp := hg g h
    unfold badP
    rw [decide_eq_false (by rw [hp.1]; simp), decide_eq_true ⟨by rw [hp.1]; omega, by rw [hp.1]; omega, by rw [hp.1]; exact hp.2⟩]
    simp
  rw [hab] at hacc
  refine Val.ofV ?_
  refine hc_ofS (okc Tryd.f75.ntmps 0) (fn := Tryd.f75) (cd := _) rfl rfl rfl rfl rfl rfl (fun hbd => ?_)
  repeat' (
   conv => whnf
   first
   | ((with_reducible refine hcI ?_); refine Val.call hacc (.refl _) (ler _ _) rfl ?_; rintro r rfl)
   | ((with_reducible apply ob); ((first | rfl | assumption | omega | (unfold maxLen2; omega) | (dsimp only; omega) | (simp only [LN]; omega) | (simp; done) | (simp; omega)))))
  all_goals (conv => whnf)
  all_goals (first | (exfalso; omega) | skip)
  refine lpX (X := Nat) (fun y => [(0, iD n), (1, rowsD gens), (6, outS (orbsK n gens y).1), (7, .sl 0 0 n), (18, iD n), (19, iD y)]) (fun y => [.row .leaf (boolsL (orbsK n gens y).2)] ++ outO (orbsK n gens y).1) (fun y => y ≤ n) (fun y => n - y)
    ⟨_, nx (ρ := [0]) 0 (by repeat (first | exact trivial | refine seC rfl rfl ?_ | refine seL (leRow rfl rfl) rfl ?_)) (by show SubH _ _ _ [Ob.row .leaf (boolsL (List.replicate n false))] _; exact shR rfl (by simp [boolsL]; exact .inr rfl) (cl_bools _) trivial) rfl rfl (Nat.lt_succ_self _) (Nat.zero_le _)⟩ ?_
  intro p hp
  obtain ⟨hdl, hol⟩ := orbsK_len n gens p
  obtain ⟨⟨out, done⟩, hst⟩ : ∃ s, orbsK n gens p = s := ⟨_, rfl⟩
  dsimp only
  rw [hst] at hdl hol ⊢
  dsimp only at hdl hol ⊢
  rcases Nat.lt_or_ge p n with hpn | hpn
  · obtain ⟨b, hb⟩ : ∃ b, done[p]? = some b := ⟨_, List.getElem?_eq_getElem (by omega)⟩
    have hb2 : done[0 + ((p : Nat) : Int).toNat]? = some b := by rw [Nat.zero_add]; exact hb
    have hbl := boolsL_len done
    have hbd2 := getD_of (d := false) hb
    obtain ⟨hhl, hhp, hhs⟩ := orbM_ok hg hpn
    have horb := vOrbit n p gens hn hpn hg (by omega)
    obtain ⟨hO, hh⟩ : ∃ h, orbM n p gens = h := ⟨_, rfl⟩
    have hstep : orbsK n gens (p + 1) = if done.getD p false = true then (out, done) else (out ++ [lK hO n], doneK hO done n) := by rw [← hh, orbsK, hst]
    rw [hh] at horb hhl hhp hhs
    have hhl2 := howL_len hO
    cases b with
    | true =>
      rw [if_pos hbd2] at hstep
      rcases out with _ | ⟨o, os⟩
      all_goals
        repeat' (
         conv => whnf
         first
         | refine ifd (fun h => ?_) (fun h => ?_)
         | with_reducible refine ivW (by omega) (by omega) ?_
         | ((with_reducible refine exBo hb2 ?_))
         | ((with_reducible apply ob); ((first | rfl | assumption | omega | (unfold maxLen2; omega) | (dsimp only; omega) | (simp only [LN]; omega) | (simp; done) | (simp; omega)))))
        all_goals (conv => whnf)
        all_goals (first | (exfalso; omega) | skip)
        exact nx0 (p + 1) (by show SubE0 _ _ [(0, iD n), (1, rowsD gens), (6, outS (orbsK n gens (p + 1)).1), (7, .sl 0 0 n), (18, iD n), (19, iD (p + 1))]; rw [hstep]; repeat (first | exact trivial | refine se0 rfl ?_)) (by show [Ob.row .leaf (boolsL (orbsK n gens (p + 1)).2)] ++ outO (orbsK n gens (p + 1)).1 = _; rw [hstep]) (by omega) (by omega)
    | false =>
      rw [if_neg (by rw [hbd2]; simp)] at hstep
      have hne0 : lK hO n ≠ [] := fun e => by
        have := (lK_mem hO (p : Int) n).2 ⟨p, hpn, by rw [getD_of hhs]; rfl, rfl⟩
        rw [e] at this; cases this
      rcases out with _ | ⟨o, os⟩
      · repeat' (
         conv => whnf
         first
         | refine ifd (fun h => ?_) (fun h => ?_)
         | ((with_reducible refine exBo hb2 ?_))
         | ((with_reducible refine hcI ?_); refine Val.call horb (.refl _) (ler _ _) rfl ?_; rintro r rfl)
         | ((with_reducible apply ob); ((first | rfl | assumption | omega | (unfold maxLen2; omega) | (dsimp only; omega) | (simp only [LN]; omega) | (simp; done) | (simp; omega)))))
        all_goals (conv => whnf)
        all_goals (first | (exfalso; omega) | skip)
        refine lpX (X := Nat × List Bool × List Int) (fun y => [(0, iD n), (1, rowsD gens), (6, .nils), (7, .sl 0 0 n), (9, ptS 1 y.2.2), (18, iD n), (19, iD p), (29, .list false .leaf (howL hO)), (30, iD (howL hO).length), (31, iD y.1)]) (fun y => [.row .leaf (boolsL y.2.1)] ++ ptO y.2.2) (fun y => y.1 ≤ n ∧ y.2.1 = doneK hO done y.1 ∧ y.2.2 = lK hO y.1) (fun y => n - y.1)
          ⟨_, nx0 (0, done, []) (by repeat (first | exact trivial | refine se0 rfl ?_)) rfl (Nat.lt_succ_self _) ⟨Nat.zero_le _, rfl, rfl⟩⟩ ?_
        rintro ⟨i, dn, l⟩ ⟨hi, hdn, hl⟩
        dsimp only at hi hdn hl ⊢
        have hdnl : dn.length = n := by rw [hdn, doneK_len]; exact hdl
        have hdnl2 := boolsL_len dn
        have hll : l.length ≤ i := by rw [hl]; exact lK_len hO i
        have hll2 := intsL_len l
        rcases Nat.lt_or_ge i n with hin | hin
        · obtain ⟨w, hw⟩ : ∃ w, hO[i]? = some w := ⟨_, List.getElem?_eq_getElem (by omega)⟩
          have hw2 := toN hw
          have hwd := getD_of (d := none) hw
          rcases w with _ | w
          · have e1 : doneK hO done (i + 1) = dn := by rw [hdn]; show (if _ then _ else _) = _; rw [if_neg (by rw [hwd]; simp)]
            have e2 : lK hO (i + 1) = l := by rw [hl]; show (if _ then _ else _) = _; rw [if_neg (by rw [hwd]; simp)]
            rcases l with _ | ⟨a, t⟩
            all_goals
              repeat' (
               conv => whnf
               first
               | refine ifd (fun h => ?_) (fun h => ?_)
               | with_reducible refine ivW (by omega) (by omega) ?_
               | ((with_reducible refine exHk hw2 ?_))
               | ((with_reducible apply ob); ((first | rfl | assumption | omega | (unfold maxLen2; omega) | (dsimp only; omega) | (simp only [LN]; omega) | (simp; done) | (simp; omega)))))
              all_goals (conv => whnf)
              all_goals (first | (exfalso; omega) | skip)
            · exact nx0 (i + 1, dn, []) (by repeat (first | exact trivial | refine se0 rfl ?_)) rfl (by dsimp only; omega) ⟨by dsimp only; omega, e1.symm, e2.symm⟩
            · exact nx0 (i + 1, dn, a :: t) (by repeat (first | exact trivial | refine se0 rfl ?_)) rfl (by dsimp only; omega) ⟨by dsimp only; omega, e1.symm, e2.symm⟩
          · have e1 : doneK hO done (i + 1) = dn.set i true := by rw [hdn]; show (if _ then _ else _) = _; rw [if_pos (by rw [hwd]; rfl)]
            have e2 : lK hO (i + 1) = l ++ [(i : Int)] := by rw [hl]; show (if _ then _ else _) = _; rw [if_pos (by rw [hwd]; rfl)]
            have hne : intsL w ≠ [] := fun e => by
              have h1 := (hhp w (List.mem_of_getElem? hw)).1
              have := congrArg List.length e
              rw [intsL_len, h1, List.length_nil] at this
              omega
            rcases l with _ | ⟨a, t⟩
            all_goals
              simp only [List.length_cons, List.length_nil] at hll2 hll
              repeat' (
               conv => whnf
               first
               | refine ifd (fun h => ?_) (fun h => ?_)
               | with_reducible refine ivW (by omega) (by omega) ?_
               | ((with_reducible refine exHk hw2 ?_))
               | ((with_reducible apply ob); ((first | rfl | assumption | omega | (unfold maxLen2; omega) | (dsimp only; omega) | (simp only [LN]; omega) | (simp; done) | (simp; omega)))))
              all_goals (conv => whnf)
              all_goals (first | (exfalso; omega) | skip)
            · exact nx (X := Nat × List Bool × List Int) (i + 1, dn.set i true, [] ++ [(i : Int)]) [0, 2] (by repeat (first | exact trivial | refine seC rfl rfl ?_ | refine seL (leRow rfl rfl) rfl ?_)) (by show SubH _ _ _ [Ob.row .leaf (boolsL (dn.set i true)), Ob.row .leaf (intsL [(i : Int)])] _; exact (shR rfl (by show (boolsL dn).set (0 + ((i : Nat) : Int).toNat) (.bool true) = _; rw [Nat.zero_add]; simp [boolsL, List.map_set]) (cl_bools _) (shR rfl rfl (cl_ints _) trivial))) rfl rfl (by dsimp only; omega) ⟨by dsimp only; omega, e1.symm, e2.symm⟩
            · exact nx (X := Nat × List Bool × List Int) (i + 1, dn.set i true, (a :: t) ++ [(i : Int)]) [0, 3] (by repeat (first | exact trivial | refine seC rfl rfl ?_ | refine seC (show D.sl 3 0 ((intsL (a :: t)).length + 1) = D.sl 3 0 (intsL ((a :: t) ++ [(i : Int)])).length from by simp [intsL]) rfl ?_)) (by show SubH _ _ _ [Ob.row .leaf (boolsL (dn.set i true)), Ob.row .leaf (intsL ((a :: t) ++ [(i : Int)]))] _; exact (shR rfl (by show (boolsL dn).set (0 + ((i : Nat) : Int).toNat) (.bool true) = _; rw [Nat.zero_add]; simp [boolsL, List.map_set]) (cl_bools _) (shR (ds := intsL ((a :: t) ++ [(i : Int)])) rfl (by simp [intsL, List.take_of_length_le]) (cl_ints _) trivial))) rfl rfl (by dsimp only; omega) ⟨by dsimp only; omega, e1.symm, e2.symm⟩
        · have hin2 : i = n := by omega
          subst hin2
          rcases l with _ | ⟨a, t⟩
          · exact absurd hl.symm hne0
          rw [← hl, ← hdn] at hstep
          repeat' (
           conv => whnf
           first
           | refine ifd (fun h => ?_) (fun h => ?_)
           | with_reducible refine ivW (by omega) (by omega) ?_
           | ((with_reducible apply ob); ((first | rfl | assumption | omega | (unfold maxLen2; omega) | (dsimp only; omega) | (simp only [LN]; omega) | (simp; done) | (simp; omega)))))
          all_goals (conv => whnf)
          all_goals (first | (exfalso; omega) | skip)
          refine nxF (p + 1) [0, 3] (.step 1 .leaf (intsL (a :: t)) rfl (cl_ints _) (frzRow 3 [.sl 1 0 (intsL (a :: t)).length] [intsD (a :: t)] rfl rfl (.cons _ _ _ _ (leRow (ds := intsL (a :: t)) rfl rfl) .nil) rfl rfl (.refl _))) ?_ ?_ rfl rfl ?_ ?_
          rotate_right
          · show p + 1 ≤ i; omega
          rotate_right
          · show i - (p + 1) < i - p; omega
          · show SubE _ (List.length ([Ob.row .leaf (boolsL (orbsK i gens (p + 1)).2)] ++ outO (orbsK i gens (p + 1)).1)) _ _ [(0, iD i), (1, rowsD gens), (6, outS (orbsK i gens (p + 1)).1), (7, .sl 0 0 i), (18, iD i), (19, iD (p + 1))]
            rw [hstep]
            repeat (first | exact trivial | refine seC rfl rfl ?_)
          · show SubH _ (List.length ([Ob.row .leaf (boolsL (orbsK i gens (p + 1)).2)] ++ outO (orbsK i gens (p + 1)).1)) _ ([Ob.row .leaf (boolsL (orbsK i gens (p + 1)).2)] ++ outO (orbsK i gens (p + 1)).1) _
            rw [hstep]
            show SubH _ _ _ [Ob.row .leaf (boolsL dn), Ob.row .leaf (rowsL ([] ++ [a :: t]))] _
            exact shR rfl rfl (cl_bools _) (shR (ds := rowsL ([] ++ [a :: t])) rfl (by simp [rowsL]) (cl_rows _) trivial)
      · repeat' (
         conv => whnf
         first
         | refine ifd (fun h => ?_) (fun h => ?_)
         | ((with_reducible refine exBo hb2 ?_))
         | ((with_reducible refine hcI ?_); refine Val.call horb (.refl _) (ler _ _) rfl ?_; rintro r rfl)
         | ((with_reducible apply ob); ((first | rfl | assumption | omega | (unfold maxLen2; omega) | (dsimp only; omega) | (simp only [LN]; omega) | (simp; done) | (simp; omega)))))
        all_goals (conv => whnf)
        all_goals (first | (exfalso; omega) | skip)
        refine lpX (X := Nat × List Bool × List Int) (fun y => [(0, iD n), (1, rowsD gens), (6, .sl 1 0 (rowsL (o :: os)).length), (7, .sl 0 0 n), (9, ptS 2 y.2.2), (18, iD n), (19, iD p), (29, .list false .leaf (howL hO)), (30, iD (howL hO).length), (31, iD y.1)]) (fun y => [.row .leaf (boolsL y.2.1), .row .leaf (rowsL (o :: os))] ++ ptO y.2.2) (fun y => y.1 ≤ n ∧ y.2.1 = doneK hO done y.1 ∧ y.2.2 = lK hO y.1) (fun y => n - y.1)
          ⟨_, nx0 (0, done, []) (by repeat (first | exact trivial | refine se0 rfl ?_)) rfl (Nat.lt_succ_self _) ⟨Nat.zero_le _, rfl, rfl⟩⟩ ?_
        have hol2 : (rowsL (o :: os)).length ≤ p := by rw [rowsL_len]; exact hol
        rintro ⟨i, dn, l⟩ ⟨hi, hdn, hl⟩
        dsimp only at hi hdn hl ⊢
        have hdnl : dn.length = n := by rw [hdn, doneK_len]; exact hdl
        have hdnl2 := boolsL_len dn
        have hll : l.length ≤ i := by rw [hl]; exact lK_len hO i
        have hll2 := intsL_len l
        rcases Nat.lt_or_ge i n with hin | hin
        · obtain ⟨w, hw⟩ : ∃ w, hO[i]? = some w := ⟨_, List.getElem?_eq_getElem (by omega)⟩
          have hw2 := toN hw
          have hwd := getD_of (d := none) hw
          rcases w with _ | w
          · have e1 : doneK hO done (i + 1) = dn := by rw [hdn]; show (if _ then _ else _) = _; rw [if_neg (by rw [hwd]; simp)]
            have e2 : lK hO (i + 1) = l := by rw [hl]; show (if _ then _ else _) = _; rw [if_neg (by rw [hwd]; simp)]
            rcases l with _ | ⟨a, t⟩
            all_goals
              repeat' (
               conv => whnf
               first
               | refine ifd (fun h => ?_) (fun h => ?_)
               | with_reducible refine ivW (by omega) (by omega) ?_
               | ((with_reducible refine exHk hw2 ?_))
               | ((with_reducible apply ob); ((first | rfl | assumption | omega | (unfold maxLen2; omega) | (dsimp only; omega) | (simp only [LN]; omega) | (simp; done) | (simp; omega)))))
              all_goals (conv => whnf)
              all_goals (first | (exfalso; omega) | skip)
            · exact nx0 (i + 1, dn, []) (by repeat (first | exact trivial | refine se0 rfl ?_)) rfl (by dsimp only; omega) ⟨by dsimp only; omega, e1.symm, e2.symm⟩
            · exact nx0 (i + 1, dn, a :: t) (by repeat (first | exact trivial | refine se0 rfl ?_)) rfl (by dsimp only; omega) ⟨by dsimp only; omega, e1.symm, e2.symm⟩
          · have e1 : doneK hO done (i + 1) = dn.set i true := by rw [hdn]; show (if _ then _ else _) = _; rw [if_pos (by rw [hwd]; rfl)]
            have e2 : lK hO (i + 1) = l ++ [(i : Int)] := by rw [hl]; show (if _ then _ else _) = _; rw [if_pos (by rw [hwd]; rfl)]
            have hne : intsL w ≠ [] := fun e => by
              have h1 := (hhp w (List.mem_of_getElem? hw)).1
              have := congrArg List.length e
              rw [intsL_len, h1, List.length_nil] at this
              omega
            rcases l with _ | ⟨a, t⟩
            all_goals
              simp only [List.length_cons, List.length_nil] at hll2 hll
              repeat' (
               conv => whnf
               first
               | refine ifd (fun h => ?_) (fun h => ?_)
               | with_reducible refine ivW (by omega) (by omega) ?_
               | ((with_reducible refine exHk hw2 ?_))
               | ((with_reducible apply ob); ((first | rfl | assumption | omega | (unfold maxLen2; omega) | (dsimp only; omega) | (simp only [LN]; omega) | (simp; done) | (simp; omega)))))
              all_goals (conv => whnf)
              all_goals (first | (exfalso; omega) | skip)
            · exact nx (X := Nat × List Bool × List Int) (i + 1, dn.set i true, [] ++ [(i : Int)]) [0, 1, 3] (by repeat (first | exact trivial | refine seC rfl rfl ?_ | refine seL (leRow rfl rfl) rfl ?_)) (by show SubH _ _ _ [Ob.row .leaf (boolsL (dn.set i true)), .row .leaf (rowsL (o :: os)), Ob.row .leaf (intsL [(i : Int)])] _; exact (shR rfl (by show (boolsL dn).set (0 + ((i : Nat) : Int).toNat) (.bool true) = _; rw [Nat.zero_add]; simp [boolsL, List.map_set]) (cl_bools _) (shR rfl rfl (cl_rows _) (shR rfl rfl (cl_ints _) trivial)))) rfl rfl (by dsimp only; omega) ⟨by dsimp only; omega, e1.symm, e2.symm⟩
            · exact nx (X := Nat × List Bool × List Int) (i + 1, dn.set i true, (a :: t) ++ [(i : Int)]) [0, 1, 4] (by repeat (first | exact trivial | refine seC rfl rfl ?_ | refine seC (show D.sl 4 0 ((intsL (a :: t)).length + 1) = D.sl 4 0 (intsL ((a :: t) ++ [(i : Int)])).length from by simp [intsL]) rfl ?_)) (by show SubH _ _ _ [Ob.row .leaf (boolsL (dn.set i true)), .row .leaf (rowsL (o :: os)), Ob.row .leaf (intsL ((a :: t) ++ [(i : Int)]))] _; exact (shR rfl (by show (boolsL dn).set (0 + ((i : Nat) : Int).toNat) (.bool true) = _; rw [Nat.zero_add]; simp [boolsL, List.map_set]) (cl_bools _) (shR rfl rfl (cl_rows _) (shR (ds := intsL ((a :: t) ++ [(i : Int)])) rfl (by simp [intsL, List.take_of_length_le]) (cl_ints _) trivial)))) rfl rfl (by dsimp only; omega) ⟨by dsimp only; omega, e1.symm, e2.symm⟩
        · have hin2 : i = n := by omega
          subst hin2
          rcases l with _ | ⟨a, t⟩
          · exact absurd hl.symm hne0
          rw [← hl, ← hdn] at hstep
          repeat' (
           conv => whnf
           first
           | refine ifd (fun h => ?_) (fun h => ?_)
           | with_reducible refine ivW (by omega) (by omega) ?_
           | ((with_reducible apply ob); ((first | rfl | assumption | omega | (unfold maxLen2; omega) | (dsimp only; omega) | (simp only [LN]; omega) | (simp; done) | (simp; omega)))))
          all_goals (conv => whnf)
          all_goals (first | (exfalso; omega) | skip)
          refine nxF (p + 1) [0, 4] (.step 2 .leaf (intsL (a :: t)) rfl (cl_ints _) (frzRow 4 (rowsL (o :: os) ++ [.sl 2 0 (intsL (a :: t)).length]) (rowsL (o :: os) ++ [intsD (a :: t)]) rfl (by show List.take (rowsL (o :: os)).length (List.drop 0 (rowsL (o :: os))) ++ [D.sl 2 0 (intsL (a :: t)).length] = _; rw [List.drop_zero, List.take_length]) (leDs_app (ler _ _) (.cons _ _ _ _ (leRow (ds := intsL (a :: t)) rfl rfl) .nil)) (by rw [shapes_app, shapes_app]; rfl) (okDs_app (okDs_map (fun _ => rfl) _) rfl) (.refl _))) ?_ ?_ rfl rfl ?_ ?_
          rotate_right
          · show p + 1 ≤ i; omega
          rotate_right
          · show i - (p + 1) < i - p; omega
          · show SubE _ (List.length ([Ob.row .leaf (boolsL (orbsK i gens (p + 1)).2)] ++ outO (orbsK i gens (p + 1)).1)) _ _ [(0, iD i), (1, rowsD gens), (6, outS (orbsK i gens (p + 1)).1), (7, .sl 0 0 i), (18, iD i), (19, iD (p + 1))]
            rw [hstep]
            repeat (first | exact trivial | refine seC rfl rfl ?_ | refine seC (show D.sl 4 0 ((rowsL (o :: os)).length + 1) = D.sl 4 0 (rowsL ((o :: os) ++ [a :: t])).length from by simp) rfl ?_)
          · show SubH _ (List.length ([Ob.row .leaf (boolsL (orbsK i gens (p + 1)).2)] ++ outO (orbsK i gens (p + 1)).1)) _ ([Ob.row .leaf (boolsL (orbsK i gens (p + 1)).2)] ++ outO (orbsK i gens (p + 1)).1) _
            rw [hstep]
            show SubH _ _ _ [Ob.row .leaf (boolsL dn), Ob.row .leaf (rowsL ((o :: os) ++ [a :: t]))] _
            exact shR rfl rfl (cl_bools _) (shR (ds := rowsL ((o :: os) ++ [a :: t])) rfl (by simp [rowsL]) (cl_rows _) trivial)
  · have hpn2 : p = n := by omega
    subst hpn2
    have hM : orbsM p gens = out := by unfold orbsM; rw [hst]
    rcases out with _ | ⟨o, os⟩
    all_goals
      repeat' (
       conv => whnf
       first
       | refine ifd (fun h => ?_) (fun h => ?_)
       | ((with_reducible apply ob); ((first | rfl | assumption | omega | (unfold maxLen2; omega) | (dsimp only; omega) | (simp only [LN]; omega) | (simp; done) | (simp; omega)))))
      all_goals (conv => whnf)
      all_goals (first | (exfalso; omega) | skip)
    · exact fin_in ⟨_, .tuple [rowsD [], .int .i64 0], .refl _, .tuple _ _ (.cons _ _ _ _ (.nils _) (.cons _ _ _ _ (.refl _) .nil)), rfl, by rw [hM]⟩
    · exact fin_in ⟨_, .tuple [rowsD (o :: os), .int .i64 0], .step 1 .leaf (rowsL (o :: os)) rfl (cl_rows _) (.refl _), .tuple _ _ (.cons _ _ _ _ (leRow rfl rfl) (.cons _ _ _ _ (.refl _) .nil)), rfl, by rw [hM]⟩
-- AFTER ORBITS
theorem lvK_aut {x : Inc} (hx : x.V ≤ 7) (i : Nat) : ∀ k, i + k ≤ x.V → ∀ y ∈ (lvK x i k).1, Aut x y.2
  | 0, _, y, hy => by cases hy
  | k + 1, hk, y, hy => by
    rw [lvK_succ] at hy
    cases hm : mapN x x (preI i (i + k)) with
    | none => rw [hm] at hy; exact lvK_aut hx i k (by omega) y hy
    | some m =>
      rw [hm] at hy
      rcases List.mem_append.1 hy with h | h
      · exact lvK_aut hx i k (by omega) y h
      · rw [List.mem_singleton.1 h]
        have hd := pre_dif i (i + k) x.V (by omega) (by omega)
        have hl := pre_len i (i + k)
        unfold mapN at hm
        exact (look_aut x hx _ _ m (by omega) hd hm).1
/-- The generators that the levels give. -/
def gensK (x : Inc) : Nat → List (List Int)
  | 0 => []
  | k + 1 => gensK x k ++ repI (lvK x k (x.V - k)).1
theorem gensK_pm {x : Inc} (hx : x.V ≤ 7) : ∀ k, k ≤ x.V → ∀ g ∈ gensK x k, Pm g x.V
  | 0, _, g, hg => by cases hg
  | k + 1, hk, g, hg => by
    rcases List.mem_append.1 hg with h | h
    · exact gensK_pm hx k (by omega) g h
    · obtain ⟨y, hy, rfl⟩ := List.mem_map.1 h
      exact (lvK_aut hx k (x.V - k) (by omega) y hy).1
theorem gensK_len {x : Inc} (hx : x.V ≤ 7) : ∀ k, k ≤ x.V → (gensK x k).length ≤ 7 * k
  | 0, _ => Nat.le_refl _
  | k + 1, hk => by
    have ih := gensK_len hx k (by omega)
    have h2 := lvK_len x k (x.V - k)
    simp only [gensK, repI, List.length_append, List.length_map]
    omega
def genS (x : Inc) : Nat → D
  | 0 => .nils
  | k + 1 => .sl 1 0 (rowsL (gensK x (k + 1))).length
def genO (x : Inc) : Nat → List Ob
  | 0 => []
  | k + 1 => [.row .leaf (rowsL (gensK x (k + 1)))]
theorem exSt {x : Inc} {n m : Nat} {k : D → Prop} (h : n < m) (hk : k (stgD (lvK x n (x.V - n)).1)) : ∃ d, (stgL x m)[((n : Nat) : Int).toNat]? = some d ∧ k d := ⟨_, by rw [Int.toNat_natCast]; unfold stgL; rw [List.getElem?_map, List.getElem?_range h]; rfl, hk⟩
theorem vGOrbits (x : Inc) (hx : x.Ok) (hx7 : x.V ≤ 7) : Val Tryd.prog 59 [x.D] (fun r => r = .tuple [rowsD (orbsM x.V (gensK x x.V)), .int .i64 0]) := by
  have hv := hx.v
  have hv1 := hx.v1
  have hch := vGChain x hx hx7
  refine Val.ofV ?_
  refine hc_ofS (okc Tryd.f59.ntmps 0) (fn := Tryd.f59) (cd := _) rfl rfl rfl rfl rfl rfl (fun hbd => ?_)
  repeat' (
   conv => whnf
   first
   | ((with_reducible refine hcI ?_); refine Val.call hch (.refl _) (ler _ _) rfl ?_; rintro r rfl))
  all_goals (conv => whnf)
  all_goals (first | (exfalso; omega) | skip)
  have hsl := stgL_len x x.V
  refine lpX (X := Nat) (fun k => [(1, .ptr 0 []), (6, genS x k), (18, .list false (.agg [.leaf, .leaf]) (stgL x x.V)), (19, iD (stgL x x.V).length), (20, iD k)]) (fun k => [.var x.D] ++ genO x k) (fun k => k ≤ x.V) (fun k => x.V - k)
    ⟨_, nx (ρ := [0]) 0 (by repeat (first | exact trivial | refine seC rfl rfl ?_ | refine seL (leRow rfl rfl) rfl ?_)) (by show SubH _ _ _ [Ob.var x.D] _; exact shC rfl rfl trivial) rfl rfl (Nat.lt_succ_self _) (Nat.zero_le _)⟩ ?_
  intro k hk
  have hgl := gensK_len hx7 k hk
  dsimp only
  rcases Nat.lt_or_ge k x.V with hlt | hge
  · have hll := lvK_len x k (x.V - k)
    have hrl : (rowsL (repI (lvK x k (x.V - k)).1)).length = (lvK x k (x.V - k)).1.length := by simp [rowsL, repI]
    have hex : k < x.V := hlt
    have hgl3 := rowsL_len (gensK x k)
    rcases k with _ | k
    all_goals
      repeat' (
       conv => whnf
       first
       | refine ifd (fun h => ?_) (fun h => ?_)
       | with_reducible refine ivW (by omega) (by omega) ?_
       | ((with_reducible refine exSt hex ?_))
       | ((with_reducible apply ob); ((first | rfl | assumption | omega | (unfold maxLen2; omega) | (dsimp only; omega) | (simp only [LN]; omega) | (simp; done) | (simp; omega)))))
      all_goals (conv => whnf)
      all_goals (first | (exfalso; omega) | skip)
    · refine nx (0 + 1) [0, 2] (by repeat (first | exact trivial | refine seC rfl rfl ?_ | refine seL (leRow rfl rfl) rfl ?_)) ?_ rfl rfl (by omega) (by omega)
      show SubH _ _ _ [Ob.var x.D, Ob.row .leaf (rowsL (gensK x (0 + 1)))] _
      exact shC rfl rfl (shR rfl rfl (cl_rows _) trivial)
    · refine nx (k + 1 + 1) [0, 3] (by repeat (first | exact trivial | refine seC rfl rfl ?_ | refine seC (show D.sl 3 0 ((rowsL (gensK x (k + 1))).length + (rowsL (repI (lvK x (k + 1) (x.V - (k + 1))).1)).length) = D.sl 3 0 (rowsL (gensK x (k + 1 + 1))).length from by simp [gensK, Nat.add_assoc]) rfl ?_)) ?_ rfl rfl (by omega) (by omega)
      show SubH _ _ _ [Ob.var x.D, Ob.row .leaf (rowsL (gensK x (k + 1 + 1)))] _
      exact shC rfl rfl (shR rfl (by show List.take (rowsL (gensK x (k + 1))).length (List.drop 0 (rowsL (gensK x (k + 1)))) ++ rowsL (repI (lvK x (k + 1) (x.V - (k + 1))).1) = _; rw [List.drop_zero, List.take_length]; simp only [rowsL, ← List.map_append]; rfl) (cl_rows _) trivial)
  · have hkn : k = x.V := by omega
    obtain ⟨j, hj⟩ : ∃ j, k = j + 1 := ⟨k - 1, by omega⟩
    have horb := vPOrbits x.V (gensK x x.V) (by omega) (by omega) (gensK_pm hx7 _ (Nat.le_refl _)) (by have := gensK_len hx7 x.V (Nat.le_refl _); omega)
    subst hj
    have eg : gensK x x.V = gensK x (j + 1) := by rw [hkn]
    rw [eg] at horb ⊢
    repeat' (
     conv => whnf
     first
     | refine ifd (fun h => ?_) (fun h => ?_)
     | ((with_reducible refine hcI ?_); refine Val.call horb (.step 1 .leaf (rowsL (gensK x (j + 1))) rfl (cl_rows _) (.refl _)) (.cons _ _ _ _ (.refl _) (.cons _ _ _ _ (leRow rfl rfl) .nil)) rfl ?_; rintro r rfl)
     | ((with_reducible apply ob); ((first | rfl | assumption | omega | (unfold maxLen2; omega) | (dsimp only; omega) | (simp only [LN]; omega) | (simp; done) | (simp; omega)))))
    all_goals (conv => whnf)
    all_goals (first | (exfalso; omega) | skip)
    exact fC rfl rfl
/-- The orbits of the automorphisms, as the library has them. -/
def orbX (x : Inc) : List (List Int) := orbsM x.V (gensK x x.V)
theorem vLawOrbits (x : Inc) (hx : x.Ok) (hx7 : x.V ≤ 7) : Val Tryd.prog 28 [x.D] (fun r => r = .agg [rowsD (orbX x), .int .i64 0]) := by
  have h := vGOrbits x hx hx7
  refine Val.ofV ?_
  refine hc_ofS (okc Tryd.f28.ntmps 0) (fn := Tryd.f28) (cd := _) rfl rfl rfl rfl rfl rfl (fun hbd => ?_)
  repeat' (
   conv => whnf
   first
   | ((with_reducible refine hcI ?_); refine Val.call h (.refl _) (ler _ _) rfl ?_; rintro r rfl))
  all_goals (conv => whnf)
  exact fC rfl rfl

end Go.Proofs.YthfcfdlbnfcboaaDoor.Pw

/- The plane with 7 points: what the models say of it. -/
set_option linter.unusedVariables false
set_option linter.unusedSimpArgs false
set_option maxHeartbeats 1000000
set_option maxRecDepth 10000
namespace Go.Proofs.YthfcfdlbnfcboaaDoor.Pw
open Go

def plX : Inc := ⟨7, [11, 22, 44, 49, 69, 88, 98]⟩
theorem plX_eq : limX [3, 6] 7 = plX := by decide +kernel
theorem pl_0 : cntL plX 0 0 7 = 7 := by decide +kernel
theorem pl_1 : cntL plX 1 1 6 = 6 := by decide +kernel
theorem pl_2 : cntL plX 2 2 5 = 4 := by decide +kernel
theorem pl_3 : cntL plX 3 3 4 = 1 := by decide +kernel
theorem pl_4 : cntL plX 4 4 3 = 1 := by decide +kernel
theorem pl_5 : cntL plX 5 5 2 = 1 := by decide +kernel
theorem pl_6 : cntL plX 6 6 1 = 1 := by decide +kernel
theorem pl_ord : ordK plX 7 = 168 := by
  rw [ordK_succ, ordK_succ, ordK_succ, ordK_succ, ordK_succ, ordK_succ, ordK_succ]
  show 1 * cntL plX 0 0 7 * cntL plX 1 1 6 * cntL plX 2 2 5 * cntL plX 3 3 4 * cntL plX 4 4 3 * cntL plX 5 5 2 * cntL plX 6 6 1 = 168
  rw [pl_0, pl_1, pl_2, pl_3, pl_4, pl_5, pl_6]
def exA : Inc := ⟨3, [2, 3]⟩
def exBX : Inc := ⟨3, [3]⟩
theorem exA_ord : ordK exA 3 = 1 := by decide +kernel
theorem exB_ord : ordK exBX 3 = 2 := by decide +kernel
theorem exB_is1 : isG exBX [1, 0, 2] = true := by decide +kernel
theorem exB_is2 : isG exBX [0, 2, 1] = false := by decide +kernel
theorem exB_is3 : isG exBX [0, 1] = false := by decide +kernel
theorem plX_fam : plX.Fam := by rw [← plX_eq]; exact limX_fam _ (by omega) (by omega)
theorem exA_fam : exA.Fam := ⟨⟨by decide, by decide, by intro x hx; simp [exA] at hx; unfold W64; omega, by decide⟩, by decide, by simp [exA, Srt], by decide⟩
theorem exB_fam : exBX.Fam := ⟨⟨by decide, by decide, by intro x hx; simp [exBX] at hx; unfold W64; omega, by decide⟩, by decide, by simp [exBX, Srt], by decide⟩

end Go.Proofs.YthfcfdlbnfcboaaDoor.Pw

/- law20.examples. -/
set_option linter.unusedVariables false
set_option linter.unusedSimpArgs false
set_option maxHeartbeats 4000000
set_option maxRecDepth 10000
namespace Go.Proofs.YthfcfdlbnfcboaaDoor.Pw
open Go

theorem exB_orb : orbX exBX = [[0, 1], [2]] := by decide +kernel
def bigI : Inc := ⟨8, []⟩
theorem vBigProve : Val Tryd.prog 39 [bigI.D] (fun r => r = .tuple [prfI [], .int .i64 2]) := by
  refine Val.ofV ?_
  refine hc_ofS (okc Tryd.f39.ntmps 0) (fn := Tryd.f39) (cd := _) rfl rfl rfl rfl rfl rfl (fun hbd => ?_)
  all_goals (conv => whnf)
  exact fin_in ⟨_, .tuple [prfI [], .int .i64 2], .refl _, .tuple _ _ (.cons _ _ _ _ (.agg _ _ (.cons _ _ _ _ (.nils _) .nil) rfl) (.cons _ _ _ _ (.refl _) .nil)), rfl, rfl⟩
theorem vBigProved : Val Tryd.prog 9 [bigI.D] (fun r => r = .agg [prfI [], .int .i64 2]) := by
  have h := vBigProve
  refine Val.ofV ?_
  refine hc_ofS (okc Tryd.f9.ntmps 0) (fn := Tryd.f9) (cd := _) rfl rfl rfl rfl rfl rfl (fun hbd => ?_)
  repeat' (
   conv => whnf
   first
   | ((with_reducible refine hcI ?_); refine Val.call h (.refl _) (ler _ _) rfl ?_; rintro r rfl))
  all_goals (conv => whnf)
  exact fC rfl rfl
theorem vBigOrderG : Val Tryd.prog 45 [bigI.D] (fun r => r = .tuple [iD 0, .int .i64 2]) := by
  refine Val.ofV ?_
  refine hc_ofS (okc Tryd.f45.ntmps 0) (fn := Tryd.f45) (cd := _) rfl rfl rfl rfl rfl rfl (fun hbd => ?_)
  all_goals (conv => whnf)
  exact fC rfl rfl
theorem vBigOrder : Val Tryd.prog 15 [bigI.D] (fun r => r = .agg [iD 0, .int .i64 2]) := by
  have h := vBigOrderG
  refine Val.ofV ?_
  refine hc_ofS (okc Tryd.f15.ntmps 0) (fn := Tryd.f15) (cd := _) rfl rfl rfl rfl rfl rfl (fun hbd => ?_)
  repeat' (
   conv => whnf
   first
   | ((with_reducible refine hcI ?_); refine Val.call h (.refl _) (ler _ _) rfl ?_; rintro r rfl))
  all_goals (conv => whnf)
  exact fC rfl rfl
theorem vPlane : Val Tryd.prog 33 [] (fun r => r = plX.D) := by
  have h := vMadeR [3, 6] (by decide)
  rw [plX_eq] at h
  refine Val.ofV ?_
  refine hc_ofS (okc Tryd.f33.ntmps 0) (fn := Tryd.f33) (cd := _) rfl rfl rfl rfl rfl rfl (fun hbd => ?_)
  repeat' (
   conv => whnf
   first
   | ((with_reducible refine hcI ?_); refine Val.call h (.step 1 .leaf (bytesL [3, 6]) rfl rfl (.refl _)) (.cons _ _ _ _ (.agg _ _ (.cons _ _ _ _ (leRow rfl rfl) .nil) rfl) .nil) rfl ?_; rintro r rfl))
  all_goals (conv => whnf)
  exact fC rfl rfl
theorem hcNorm {P : Program} {f : FuncId} {args : List D} {H : List Ob} (H2 : List Ob) {Q : D → List Ob → Prop} (h : H = H2) (hq : HC P f args H2 Q) : HC P f args H Q := by subst h; exact hq
theorem vExamples : Val Tryd.prog 7 [] (fun r => r = .bool true) := by
  have hpl := vProved plX plX_fam
  obtain ⟨PL, hPL⟩ : ∃ PL, (List.range plX.V).map (fun i => toI (lvK plX i (plX.V - i))) = PL := ⟨_, rfl⟩
  rw [hPL] at hpl
  have hPLl : PL.length = 7 := by rw [← hPL]; rfl
  have hPLl2 := lvlsL_len PL
  have hPb : ∀ l ∈ PL, l.1.length ≤ 1000000 ∧ l.2.length ≤ 1000000 := by
    intro l hl
    rw [← hPL] at hl
    obtain ⟨i, _, rfl⟩ := List.mem_map.1 hl
    have := lvK_len plX i (plX.V - i)
    have hv : plX.V = 7 := rfl
    simp only [toI, List.length_map]
    omega
  have hchk := vChecked plX plX_fam PL hPb
  have hN : chkN plX PL = 168 := by rw [← hPL, chkN_prf plX_fam]; exact pl_ord
  rw [hN] at hchk
  have hord := vLawOrder plX plX_fam.ok plX_fam.v7
  rw [show ordK plX plX.V = 168 from pl_ord] at hord
  obtain ⟨⟨y0, n0⟩, h0⟩ : ∃ l, l = toI (lvK plX 0 7) := ⟨_, rfl⟩
  obtain ⟨⟨y1, n1⟩, h1⟩ : ∃ l, l = toI (lvK plX 1 6) := ⟨_, rfl⟩
  obtain ⟨⟨y2, n2⟩, h2⟩ : ∃ l, l = toI (lvK plX 2 5) := ⟨_, rfl⟩
  have hy0 : (rchL y0).length = 7 := by
    have : y0 = (toI (lvK plX 0 7)).1 := by rw [← h0]
    rw [rchL_len, this]; simp only [toI, List.length_map]; rw [lvK_cnt]; exact pl_0
  have hy1 : (rchL y1).length = 6 := by
    have : y1 = (toI (lvK plX 1 6)).1 := by rw [← h1]
    rw [rchL_len, this]; simp only [toI, List.length_map]; rw [lvK_cnt]; exact pl_1
  have hy2 : (rchL y2).length = 4 := by
    have : y2 = (toI (lvK plX 2 5)).1 := by rw [← h2]
    rw [rchL_len, this]; simp only [toI, List.length_map]; rw [lvK_cnt]; exact pl_2
  have e0 : PL[Int.toNat 0]? = some (y0, n0) := by rw [← hPL, h0]; rfl
  have e1 : PL[Int.toNat 1]? = some (y1, n1) := by rw [← hPL, h1]; rfl
  have e2 : PL[Int.toNat 2]? = some (y2, n2) := by rw [← hPL, h2]; rfl
  have hoA := vLawOrder exA exA_fam.ok exA_fam.v7
  rw [show ordK exA exA.V = 1 from exA_ord] at hoA
  have hoB := vLawOrder exBX exB_fam.ok exB_fam.v7
  rw [show ordK exBX exBX.V = 2 from exB_ord] at hoB
  have hob := vLawOrbits exBX exB_fam.ok exB_fam.v7
  rw [exB_orb] at hob
  have hcA := vChecked exA exA_fam [] (by simp)
  rw [show chkN exA [] = 0 from rfl] at hcA
  have hal := vAlike [[0, 1], [2]] [[0, 1], [2]] (by decide) (by decide)
  rw [decide_eq_true rfl] at hal
  have hi1 := vIs exBX [1, 0, 2] (by decide) exB_fam.ok.b exB_fam.ok.n exB_fam.bits
  rw [exB_is1] at hi1
  have hi2 := vIs exBX [0, 2, 1] (by decide) exB_fam.ok.b exB_fam.ok.n exB_fam.bits
  rw [exB_is2] at hi2
  have hi3 := vIs exBX [0, 1] (by decide) exB_fam.ok.b exB_fam.ok.n exB_fam.bits
  rw [exB_is3] at hi3
  clear h0 h1 h2 hPL hPb hN
  refine Val.ofV ?_
  refine hc_ofS (okc Tryd.f7.ntmps 0) (fn := Tryd.f7) (cd := _) rfl rfl rfl rfl rfl rfl (fun hbd => ?_)
  repeat' (
   conv => whnf
   first
   | ((with_reducible refine hcI ?_); refine Val.call vPlane (.refl _) (ler _ _) rfl ?_; rintro r rfl)
   | ((with_reducible refine hcI ?_); refine Val.call hpl (.refl _) (ler _ _) rfl ?_; rintro r rfl)
   | ((with_reducible refine hcI ?_); refine Val.call hchk (.refl _) (ler _ _) rfl ?_; rintro r rfl)
   | ((with_reducible refine hcI ?_); refine Val.call hord (.refl _) (ler _ _) rfl ?_; rintro r rfl)
   | refine ifn (fun h => ?_) (fun h => ?_)
   | ((with_reducible refine exLv e0 ?_))
   | ((with_reducible refine exLv e1 ?_))
   | ((with_reducible refine exLv e2 ?_))
   | ((with_reducible apply ob); ((first | rfl | assumption | omega | (unfold maxLen2; omega) | (dsimp only; omega) | (simp only [LN]; omega) | (simp; done) | (simp; omega)))))
  all_goals (conv => whnf)
  all_goals (first | (exfalso; omega) | skip)
  refine hcNorm [.var plX.D, .var (.agg [prfI PL, .int .i64 0]), .row .leaf (setsL [2, 3]), .var (.agg [.int .i64 3, .sl 2 0 2]), .row .leaf (setsL [3]), .var (.agg [.int .i64 3, .sl 4 0 1]), .var (.agg [.int .i64 8, .nils])] rfl ?_
  refine Val.call hob (.step 4 .leaf (setsL [3]) rfl rfl (.refl _)) (.cons _ _ _ _ (show LeD _ exBX.D (.agg [.int .i64 3, .sl 4 0 1]) from .agg _ _ (.cons _ _ _ _ (.refl _) (.cons _ _ _ _ (leRow (ds := setsL [3]) rfl rfl) .nil)) rfl) .nil) rfl ?_
  rintro r rfl
  all_goals (conv => whnf)
  all_goals (first | (exfalso; omega) | skip)
  refine hcNorm [.var plX.D, .var (.agg [prfI PL, .int .i64 0]), .row .leaf (setsL [2, 3]), .var (.agg [.int .i64 3, .sl 2 0 2]), .frz .leaf (setsL [3]), .var (.agg [.int .i64 3, .sl 4 0 1]), .var (.agg [.int .i64 8, .nils]), .var (.agg [rowsD [[0, 1], [2]], .int .i64 0])] rfl ?_
  refine Val.call hoA (.step 2 .leaf (setsL [2, 3]) rfl rfl (.refl _)) (.cons _ _ _ _ (show LeD _ exA.D (.agg [.int .i64 3, .sl 2 0 2]) from .agg _ _ (.cons _ _ _ _ (.refl _) (.cons _ _ _ _ (leRow (ds := setsL [2, 3]) rfl rfl) .nil)) rfl) .nil) rfl ?_
  rintro r rfl
  all_goals (conv => whnf)
  all_goals (first | (exfalso; omega) | skip)
  refine hcNorm [.var plX.D, .var (.agg [prfI PL, .int .i64 0]), .frz .leaf (setsL [2, 3]), .var (.agg [.int .i64 3, .sl 2 0 2]), .frz .leaf (setsL [3]), .var (.agg [.int .i64 3, .sl 4 0 1]), .var (.agg [.int .i64 8, .nils]), .var (.agg [rowsD [[0, 1], [2]], .int .i64 0])] rfl ?_
  refine Val.call hoB (.refl _) (.cons _ _ _ _ (show LeD _ exBX.D (.agg [.int .i64 3, .sl 4 0 1]) from .agg _ _ (.cons _ _ _ _ (.refl _) (.cons _ _ _ _ (leRow (ds := setsL [3]) rfl rfl) .nil)) rfl) .nil) rfl ?_
  rintro r rfl
  all_goals (conv => whnf)
  all_goals (first | (exfalso; omega) | skip)
  refine hcNorm [.var plX.D, .var (.agg [prfI PL, .int .i64 0]), .frz .leaf (setsL [2, 3]), .var (.agg [.int .i64 3, .sl 2 0 2]), .frz .leaf (setsL [3]), .var (.agg [.int .i64 3, .sl 4 0 1]), .var (.agg [.int .i64 8, .nils]), .var (.agg [rowsD [[0, 1], [2]], .int .i64 0]), .row .leaf (intsL [0, 1]), .row .leaf (intsL [2]), .row .leaf [.sl 8 0 2, .sl 9 0 1]] rfl ?_
  refine Val.call hal (.step 8 .leaf (intsL [0, 1]) rfl rfl (.step 9 .leaf (intsL [2]) rfl rfl (frzRow 10 [.sl 8 0 2, .sl 9 0 1] (rowsL [[0, 1], [2]]) rfl rfl (.cons _ _ _ _ (leRow (ds := intsL [0, 1]) rfl rfl) (.cons _ _ _ _ (leRow (ds := intsL [2]) rfl rfl) .nil)) rfl rfl (.step 10 .leaf (rowsL [[0, 1], [2]]) rfl rfl (.refl _))))) (.cons _ _ _ _ (.refl _) (.cons _ _ _ _ (leRow (ds := rowsL [[0, 1], [2]]) rfl rfl) .nil)) rfl ?_
  rintro r rfl
  all_goals (conv => whnf)
  all_goals (first | (exfalso; omega) | skip)
  refine hcNorm [.var plX.D, .var (.agg [prfI PL, .int .i64 0]), .frz .leaf (setsL [2, 3]), .var (.agg [.int .i64 3, .sl 2 0 2]), .frz .leaf (setsL [3]), .var (.agg [.int .i64 3, .sl 4 0 1]), .var (.agg [.int .i64 8, .nils]), .var (.agg [rowsD [[0, 1], [2]], .int .i64 0]), .frz .leaf (intsL [0, 1]), .frz .leaf (intsL [2]), .frz .leaf (rowsL [[0, 1], [2]])] rfl ?_
  refine Val.call hcA (.refl _) (.cons _ _ _ _ (show LeD _ exA.D (.agg [.int .i64 3, .sl 2 0 2]) from .agg _ _ (.cons _ _ _ _ (.refl _) (.cons _ _ _ _ (leRow (ds := setsL [2, 3]) rfl rfl) .nil)) rfl) (.cons _ _ _ _ (.agg _ _ (.cons _ _ _ _ (.nils _) .nil) rfl) .nil)) rfl ?_
  rintro r rfl
  all_goals (conv => whnf)
  all_goals (first | (exfalso; omega) | skip)
  refine hcNorm [.var plX.D, .var (.agg [prfI PL, .int .i64 0]), .frz .leaf (setsL [2, 3]), .var (.agg [.int .i64 3, .sl 2 0 2]), .frz .leaf (setsL [3]), .var (.agg [.int .i64 3, .sl 4 0 1]), .var (.agg [.int .i64 8, .nils]), .var (.agg [rowsD [[0, 1], [2]], .int .i64 0]), .frz .leaf (intsL [0, 1]), .frz .leaf (intsL [2]), .frz .leaf (rowsL [[0, 1], [2]])] rfl ?_
  refine Val.call vBigProved (.refl _) (.cons _ _ _ _ (show LeD _ bigI.D (.agg [.int .i64 8, .nils]) from .agg _ _ (.cons _ _ _ _ (.refl _) (.cons _ _ _ _ (.nils _) .nil)) rfl) .nil) rfl ?_
  rintro r rfl
  all_goals (conv => whnf)
  all_goals (first | (exfalso; omega) | skip)
  refine hcNorm [.var plX.D, .var (.agg [prfI PL, .int .i64 0]), .frz .leaf (setsL [2, 3]), .var (.agg [.int .i64 3, .sl 2 0 2]), .frz .leaf (setsL [3]), .var (.agg [.int .i64 3, .sl 4 0 1]), .var (.agg [.int .i64 8, .nils]), .var (.agg [rowsD [[0, 1], [2]], .int .i64 0]), .frz .leaf (intsL [0, 1]), .frz .leaf (intsL [2]), .frz .leaf (rowsL [[0, 1], [2]])] rfl ?_
  refine Val.call vBigOrder (.refl _) (.cons _ _ _ _ (show LeD _ bigI.D (.agg [.int .i64 8, .nils]) from .agg _ _ (.cons _ _ _ _ (.refl _) (.cons _ _ _ _ (.nils _) .nil)) rfl) .nil) rfl ?_
  rintro r rfl
  all_goals (conv => whnf)
  all_goals (first | (exfalso; omega) | skip)
  refine hcNorm [.var plX.D, .var (.agg [prfI PL, .int .i64 0]), .frz .leaf (setsL [2, 3]), .var (.agg [.int .i64 3, .sl 2 0 2]), .frz .leaf (setsL [3]), .var (.agg [.int .i64 3, .sl 4 0 1]), .var (.agg [.int .i64 8, .nils]), .var (.agg [rowsD [[0, 1], [2]], .int .i64 0]), .frz .leaf (intsL [0, 1]), .frz .leaf (intsL [2]), .frz .leaf (rowsL [[0, 1], [2]]), .row .leaf (intsL [1, 0, 2])] rfl ?_
  refine Val.call hi1 (.step 11 .leaf (intsL [1, 0, 2]) rfl rfl (.refl _)) (.cons _ _ _ _ (show LeD _ exBX.D (.agg [.int .i64 3, .sl 4 0 1]) from .agg _ _ (.cons _ _ _ _ (.refl _) (.cons _ _ _ _ (leRow (ds := setsL [3]) rfl rfl) .nil)) rfl) (.cons _ _ _ _ (leRow (ds := intsL [1, 0, 2]) rfl rfl) .nil)) rfl ?_
  rintro r rfl
  all_goals (conv => whnf)
  all_goals (first | (exfalso; omega) | skip)
  refine hcNorm [.var plX.D, .var (.agg [prfI PL, .int .i64 0]), .frz .leaf (setsL [2, 3]), .var (.agg [.int .i64 3, .sl 2 0 2]), .frz .leaf (setsL [3]), .var (.agg [.int .i64 3, .sl 4 0 1]), .var (.agg [.int .i64 8, .nils]), .var (.agg [rowsD [[0, 1], [2]], .int .i64 0]), .frz .leaf (intsL [0, 1]), .frz .leaf (intsL [2]), .frz .leaf (rowsL [[0, 1], [2]]), .frz .leaf (intsL [1, 0, 2]), .row .leaf (intsL [0, 2, 1])] rfl ?_
  refine Val.call hi2 (.step 12 .leaf (intsL [0, 2, 1]) rfl rfl (.refl _)) (.cons _ _ _ _ (show LeD _ exBX.D (.agg [.int .i64 3, .sl 4 0 1]) from .agg _ _ (.cons _ _ _ _ (.refl _) (.cons _ _ _ _ (leRow (ds := setsL [3]) rfl rfl) .nil)) rfl) (.cons _ _ _ _ (leRow (ds := intsL [0, 2, 1]) rfl rfl) .nil)) rfl ?_
  rintro r rfl
  all_goals (conv => whnf)
  all_goals (first | (exfalso; omega) | skip)
  refine hcNorm [.var plX.D, .var (.agg [prfI PL, .int .i64 0]), .frz .leaf (setsL [2, 3]), .var (.agg [.int .i64 3, .sl 2 0 2]), .frz .leaf (setsL [3]), .var (.agg [.int .i64 3, .sl 4 0 1]), .var (.agg [.int .i64 8, .nils]), .var (.agg [rowsD [[0, 1], [2]], .int .i64 0]), .frz .leaf (intsL [0, 1]), .frz .leaf (intsL [2]), .frz .leaf (rowsL [[0, 1], [2]]), .frz .leaf (intsL [1, 0, 2]), .frz .leaf (intsL [0, 2, 1]), .row .leaf (intsL [0, 1])] rfl ?_
  refine Val.call hi3 (.step 13 .leaf (intsL [0, 1]) rfl rfl (.refl _)) (.cons _ _ _ _ (show LeD _ exBX.D (.agg [.int .i64 3, .sl 4 0 1]) from .agg _ _ (.cons _ _ _ _ (.refl _) (.cons _ _ _ _ (leRow (ds := setsL [3]) rfl rfl) .nil)) rfl) (.cons _ _ _ _ (leRow (ds := intsL [0, 1]) rfl rfl) .nil)) rfl ?_
  rintro r rfl
  all_goals (conv => whnf)
  all_goals (first | (exfalso; omega) | skip)
  exact fC rfl rfl

end Go.Proofs.YthfcfdlbnfcboaaDoor.Pw

/- Changed proofs have no long lists (plain law). -/
set_option linter.unusedVariables false
set_option linter.unusedSimpArgs false
set_option maxHeartbeats 1000000
set_option maxRecDepth 10000
namespace Go.Proofs.YthfcfdlbnfcboaaDoor.Pw
open Go

def prfX (x : Inc) : List Lvl := (List.range x.V).map fun i => toI (lvK x i (x.V - i))
theorem prfX_len (x : Inc) : (prfX x).length = x.V := by simp [prfX]
theorem prfX_b {x : Inc} (hx : x.V ≤ 7) : ∀ l ∈ prfX x, l.1.length ≤ 7 ∧ l.2.length ≤ 7 := by
  intro l hl
  obtain ⟨i, _, rfl⟩ := List.mem_map.1 hl
  have := lvK_len x i (x.V - i)
  simp only [toI, List.length_map]
  omega
theorem ref_tb (x : Inc) (hx : x.V ≤ 7) : ∀ f m t, Dif m x.V → refM x x f m = some t → ∀ n, tbT n t
  | 0, m, t, hd, h, n => by
    unfold refM at h
    by_cases hf : Fails x x m
    · rw [if_pos hf] at h; cases h
      cases n with
      | zero => trivial
      | succ n => exact ⟨by simp [Tree.kids], by simp [Tree.kids]⟩
    · rw [if_neg hf] at h; cases h
  | f + 1, m, t, hd, h, n => by
    unfold refM at h
    by_cases hf : Fails x x m
    · rw [if_pos hf] at h; cases h
      cases n with
      | zero => trivial
      | succ n => exact ⟨by simp [Tree.kids], by simp [Tree.kids]⟩
    · rw [if_neg hf] at h
      cases ha : allS (fun p => refM x x f (m ++ [(p : Int)])) (restL x.V m) with
      | none => rw [ha] at h; cases h
      | some ts =>
        rw [ha] at h; cases h
        obtain ⟨h1, h2⟩ := allS_get ha
        have hrl := restL_len (V := x.V) (by omega) hd
        cases n with
        | zero => trivial
        | succ n =>
          refine ⟨by simp only [Tree.kids]; omega, fun u hu => ?_⟩
          obtain ⟨i, hi, rfl⟩ := List.getElem_of_mem (show u ∈ ts from hu)
          have hr : i < (restL x.V m).length := by omega
          exact ref_tb x hx f _ _ (dif_snoc (by omega) hd (List.getElem_mem hr)) (h2 i _ _ (List.getElem?_eq_getElem hr) (List.getElem?_eq_getElem hi)) n
theorem prvT_tb {x : Inc} (hx : x.V ≤ 7) {m : List Int} (hd : Dif m x.V) (n : Nat) : tbT n (prvT x x m) := by
  unfold prvT
  cases h : refM x x (x.V - m.length) m with
  | none =>
    cases n with
    | zero => trivial
    | succ n => exact ⟨by simp [Tree.kids], by simp [Tree.kids]⟩
  | some t => exact ref_tb x hx _ m t hd h n
theorem lvK_tb {x : Inc} (hx : x.V ≤ 7) (i : Nat) : ∀ k, i + k ≤ x.V → ∀ y ∈ (lvK x i k).2, ∀ n, tbT n y.2
  | 0, _, y, hy, _ => by cases hy
  | k + 1, hk, y, hy, n => by
    rw [lvK_succ] at hy
    cases hm : mapN x x (preI i (i + k)) with
    | some m => rw [hm] at hy; exact lvK_tb hx i k (by omega) y hy n
    | none =>
      rw [hm] at hy
      rcases List.mem_append.1 hy with h | h
      · exact lvK_tb hx i k (by omega) y h n
      · rw [List.mem_singleton.1 h]
        exact prvT_tb hx (pre_dif i (i + k) x.V (by omega) (by omega)) n
theorem prfX_tb {x : Inc} (hx : x.V ≤ 7) : ∀ l ∈ prfX x, ∀ u ∈ l.2, tbT 3 u.2 := by
  intro l hl u hu
  obtain ⟨i, hi, rfl⟩ := List.mem_map.1 hl
  obtain ⟨y, hy, rfl⟩ := List.mem_map.1 hu
  have := List.mem_range.1 hi
  exact lvK_tb hx i (x.V - i) (by omega) y hy 3
theorem chgV_len {l : Lvl} {z0 z2 z3 b : Nat} {g : List Int} (h : l.1.length ≤ b ∧ l.2.length ≤ b) : (chgV l z0 z2 z3 g).1.length ≤ b + 1 ∧ (chgV l z0 z2 z3 g).2.length ≤ b + 1 := by
  obtain ⟨h1, h2⟩ := h
  have hw : ∀ u, (withI l.2 u).length ≤ b + 1 := fun u => by simp [withI]; omega
  have hr : ∀ u, (reachI l.1 u).length ≤ b + 1 := fun u => by simp [reachI]; omega
  unfold chgV
  dsimp only
  repeat' split
  all_goals (refine ⟨?_, ?_⟩ <;> (first | exact hw _ | exact hr _ | omega | (simp; omega)))
theorem chgL_b {L : List Lvl} {z0 z1 z2 z3 b : Nat} {g : List Int} (h : ∀ l ∈ L, l.1.length ≤ b ∧ l.2.length ≤ b) : ∀ l ∈ chgL L z0 z1 z2 z3 g, l.1.length ≤ b + 1 ∧ l.2.length ≤ b + 1 := by
  have hm : ∀ l ∈ L, l.1.length ≤ b + 1 ∧ l.2.length ≤ b + 1 := fun l hl => by have := h l hl; omega
  intro l hl
  unfold chgL at hl
  cases hg : L[z1 % L.length]? with
  | none => rw [hg] at hl; exact hm l hl
  | some v =>
    rw [hg] at hl
    dsimp only at hl
    split at hl
    · exact hm l (List.mem_of_mem_take hl)
    · rcases List.mem_or_eq_of_mem_set hl with h1 | rfl
      · exact hm l h1
      · exact chgV_len (h v (List.mem_of_getElem? hg))

end Go.Proofs.YthfcfdlbnfcboaaDoor.Pw

/- GroupBothSides: WHATEVER IS ACCEPTED PROVES THE NUMBER OF AUTOMORPHISMS. -/
set_option linter.unusedVariables false
set_option linter.unusedSimpArgs false
set_option maxHeartbeats 4000000
set_option maxRecDepth 10000
namespace Go.Proofs.YthfcfdlbnfcboaaDoor.Pw
open Go

theorem tyU8 {n : Nat} {d : D} (h : TyD (cx 0 0) (n + 1) 5 d) : ∃ x : Nat, d = .int .u8 (x : Int) ∧ x < 256 := by
  obtain ⟨x, rfl, hx⟩ := h
  have hx : (decide (IntKind.u8.min ≤ x) && decide (x ≤ IntKind.u8.max)) = true := hx
  simp only [Bool.and_eq_true, decide_eq_true_eq] at hx
  have h1 : IntKind.u8.min = 0 := by decide
  have h2 : IntKind.u8.max = 255 := by decide
  exact ⟨x.toNat, by rw [Int.toNat_of_nonneg (by omega)], by omega⟩
theorem tyU8s {n : Nat} {d : D} (h : TyD (cx 0 0) (n + 2) 22 d) : ∃ l, d = bytesD l ∧ ∀ x ∈ l, x < 256 := by
  obtain ⟨ds, rfl, hds⟩ := h
  have : ∀ es : List D, (∀ x ∈ es, TyD (cx 0 0) (n + 1) 5 x) → ∃ l, es = bytesL l ∧ ∀ x ∈ l, x < 256 := by
    intro es
    induction es with
    | nil => intro _; exact ⟨[], rfl, by simp⟩
    | cons d es ih =>
      intro h
      obtain ⟨l, rfl, hl⟩ := ih (fun x hx => h x (by simp [hx]))
      obtain ⟨x, rfl, hx⟩ := tyU8 (h d (by simp))
      exact ⟨x :: l, rfl, by intro y hy; rcases List.mem_cons.1 hy with rfl | hy; exact hx; exact hl y hy⟩
  obtain ⟨l, rfl, hl⟩ := this ds hds
  exact ⟨l, rfl, hl⟩
theorem tyRaw {d : D} (h : TyD (cx 0 0) 6 24 d) : ∃ l, d = .agg [bytesD l] ∧ ∀ x ∈ l, x < 256 := by
  obtain ⟨ds, rfl, hl, hds⟩ := h
  match ds, hl with
  | [e], _ =>
    obtain ⟨l, rfl, hl⟩ := tyU8s (hds 0 22 e rfl rfl)
    exact ⟨l, rfl, hl⟩
theorem tyU84 {d : D} (h : TyD (cx 0 0) 6 62 d) : ∃ z0 z1 z2 z3 : Nat, d = .agg [.int .u8 (z0 : Int), .int .u8 (z1 : Int), .int .u8 (z2 : Int), .int .u8 (z3 : Int)] ∧ z0 < 256 ∧ z1 < 256 ∧ z2 < 256 ∧ z3 < 256 := by
  obtain ⟨ds, rfl, hl, hds⟩ := h
  match ds, hl with
  | [a, b, c, e], _ =>
    obtain ⟨z0, rfl, h0⟩ := tyU8 (hds a (by simp))
    obtain ⟨z1, rfl, h1⟩ := tyU8 (hds b (by simp))
    obtain ⟨z2, rfl, h2⟩ := tyU8 (hds c (by simp))
    obtain ⟨z3, rfl, h3⟩ := tyU8 (hds e (by simp))
    exact ⟨z0, z1, z2, z3, rfl, h0, h1, h2, h3⟩
theorem exEl {l : List D} {n : Nat} {d : D} {k : D → Prop} (h : l[n]? = some d) (hk : k d) : ∃ x, l[n]? = some x ∧ k x := ⟨d, h, hk⟩
theorem exEl2 {l : List D} {n : Nat} {d : D} {R : D → D → Prop} (h : l[n]? = some d) (hk : ∃ x, R d x) : ∃ e x, l[n]? = some e ∧ R e x := by
  obtain ⟨x, hx⟩ := hk
  exact ⟨d, x, h, hx⟩
theorem vBothSides (lx ly : List Nat) (z0 z1 z2 z3 : Nat) (hlx : ∀ x ∈ lx, x < 256) (hly : ∀ x ∈ ly, x < 256) (hz0 : z0 < 256) (hz1 : z1 < 256) (hz2 : z2 < 256) (hz3 : z3 < 256) :
    Val Tryd.prog 4 [.agg [bytesD lx], .agg [bytesD ly], .agg [.int .u8 (z0 : Int), .int .u8 (z1 : Int), .int .u8 (z2 : Int), .int .u8 (z3 : Int)]] (fun r => r = .bool true) := by
  have hmx := vMadeR lx hlx
  have hmy := vMadeR ly hly
  have hfx := limX_fam lx (most := 7) (by omega) (by omega)
  have hfy := limX_fam ly (most := 7) (by omega) (by omega)
  generalize limX lx 7 = X at hmx hfx
  generalize limX ly 7 = Y at hmy hfy
  have hpx := vProved X hfx
  have hpy := vProved Y hfy
  have hox := vLawOrder X hfx.ok hfx.v7
  rw [show ((List.range X.V).map fun i => toI (lvK X i (X.V - i))) = prfX X from rfl] at hpx
  rw [show ((List.range Y.V).map fun i => toI (lvK Y i (Y.V - i))) = prfX Y from rfl] at hpy
  have hxl := prfX_len X
  have hyl := prfX_len Y
  have hv1 := hfx.ok.v1
  have hv7 := hfx.v7
  have hw1 := hfy.ok.v1
  have hw7 := hfy.v7
  have hsh := vShuffled X.V [z3, z2, z1, z0, z3, z1, z2] (by intro x hx; simp at hx; omega) (by omega)
  generalize shufK [z3, z2, z1, z0, z3, z1, z2] X.V = g at hsh
  have hbx := prfX_b hfx.v7
  have hby := prfX_b hfy.v7
  have hcx := vRChanged (prfX X) z0 z1 z2 z3 g (by omega) (by omega) (fun l hl => by have := hbx l hl; omega) (prfX_tb hfx.v7) hz0 hz1 hz2 hz3
  have hcy := vRChanged (prfX Y) z0 z1 z2 z3 g (by omega) (by omega) (fun l hl => by have := hby l hl; omega) (prfX_tb hfy.v7) hz0 hz1 hz2 hz3
  have hk1 := vChecked X hfx (chgL (prfX X) z0 z1 z2 z3 g) (fun l hl => by have := chgL_b hbx l hl; omega)
  have hk2 := vChecked X hfx (prfX Y) (fun l hl => by have := hby l hl; omega)
  have hk3 := vChecked X hfx (chgL (prfX Y) z0 z1 z2 z3 g) (fun l hl => by have := chgL_b hby l hl; omega)
  have hn1 := chkN_ord hfx (chgL (prfX X) z0 z1 z2 z3 g)
  have hn2 := chkN_ord hfx (prfX Y)
  have hn3 := chkN_ord hfx (chgL (prfX Y) z0 z1 z2 z3 g)
  generalize chgL (prfX X) z0 z1 z2 z3 g = L1 at hcx hk1 hn1
  generalize chgL (prfX Y) z0 z1 z2 z3 g = L3 at hcy hk3 hn3
  generalize prfX X = PX at *
  generalize prfX Y = PY at *
  generalize chkN X L1 = n1 at hk1 hn1
  generalize chkN X PY = n2 at hk2 hn2
  generalize chkN X L3 = n3 at hk3 hn3
  generalize ordK X X.V = N at *
  obtain ⟨c1, hc1⟩ : ∃ c : Int, (if n1 = 0 then 200 else 0) = c := ⟨_, rfl⟩
  obtain ⟨c2, hc2⟩ : ∃ c : Int, (if n2 = 0 then 200 else 0) = c := ⟨_, rfl⟩
  obtain ⟨c3, hc3⟩ : ∃ c : Int, (if n3 = 0 then 200 else 0) = c := ⟨_, rfl⟩
  rw [hc1] at hk1
  rw [hc2] at hk2
  rw [hc3] at hk3
  have hg1 : (n1 = N ∧ c1 = 0) ∨ (n1 = 0 ∧ c1 = 200) := by split at hc1 <;> omega
  have hg2 : (n2 = N ∧ c2 = 0) ∨ (n2 = 0 ∧ c2 = 200) := by split at hc2 <;> omega
  have hg3 : (n3 = N ∧ c3 = 0) ∨ (n3 = 0 ∧ c3 = 200) := by split at hc3 <;> omega
  refine Val.ofV ?_
  refine hc_ofS (okc Tryd.f4.ntmps 0) (fn := Tryd.f4) (cd := _) rfl rfl rfl rfl rfl rfl (fun hbd => ?_)
  repeat' (
   conv => whnf
   first
   | ((with_reducible refine hcI ?_); refine Val.call vExamples (.refl _) (ler _ _) rfl ?_; rintro r rfl))
  all_goals (conv => whnf)
  refine hcNorm [.var (.agg [bytesD lx]), .var (.agg [bytesD ly]), .var (.agg [.int .u8 (z0 : Int), .int .u8 (z1 : Int), .int .u8 (z2 : Int), .int .u8 (z3 : Int)])] rfl ?_
  refine Val.call hmx (.refl _) (ler _ _) rfl ?_
  rintro r rfl
  all_goals (conv => whnf)
  all_goals (first | (exfalso; omega) | skip)
  refine hcNorm [.var (.agg [bytesD lx]), .var (.agg [bytesD ly]), .var (.agg [.int .u8 (z0 : Int), .int .u8 (z1 : Int), .int .u8 (z2 : Int), .int .u8 (z3 : Int)]), .var X.D] rfl ?_
  refine Val.call hmy (.refl _) (ler _ _) rfl ?_
  rintro r rfl
  all_goals (conv => whnf)
  all_goals (first | (exfalso; omega) | skip)
  refine hcNorm [.var (.agg [bytesD lx]), .var (.agg [bytesD ly]), .var (.agg [.int .u8 (z0 : Int), .int .u8 (z1 : Int), .int .u8 (z2 : Int), .int .u8 (z3 : Int)]), .var X.D, .var Y.D] rfl ?_
  refine Val.call hpx (.refl _) (ler _ _) rfl ?_
  rintro r rfl
  all_goals (conv => whnf)
  all_goals (first | (exfalso; omega) | skip)
  refine hcNorm [.var (.agg [bytesD lx]), .var (.agg [bytesD ly]), .var (.agg [.int .u8 (z0 : Int), .int .u8 (z1 : Int), .int .u8 (z2 : Int), .int .u8 (z3 : Int)]), .var X.D, .var Y.D, .var (.agg [prfI PX, .int .i64 0])] rfl ?_
  refine Val.call hpy (.refl _) (ler _ _) rfl ?_
  rintro r rfl
  all_goals (conv => whnf)
  all_goals (first | (exfalso; omega) | skip)
  refine hcNorm [.var (.agg [bytesD lx]), .var (.agg [bytesD ly]), .var (.agg [.int .u8 (z0 : Int), .int .u8 (z1 : Int), .int .u8 (z2 : Int), .int .u8 (z3 : Int)]), .var X.D, .var Y.D, .var (.agg [prfI PX, .int .i64 0]), .var (.agg [prfI PY, .int .i64 0])] rfl ?_
  refine Val.call hox (.refl _) (ler _ _) rfl ?_
  rintro r rfl
  repeat' (
   conv => whnf
   first
   | ((with_reducible apply ob); ((first | rfl | assumption | omega | (unfold maxLen2; omega) | (dsimp only; omega) | (simp only [LN]; omega) | (simp; done) | (simp; omega)))))
  all_goals (conv => whnf)
  all_goals (first | (exfalso; omega) | skip)
  refine hcNorm [.var (.agg [bytesD lx]), .var (.agg [bytesD ly]), .var (.agg [.int .u8 (z0 : Int), .int .u8 (z1 : Int), .int .u8 (z2 : Int), .int .u8 (z3 : Int)]), .var X.D, .var Y.D, .var (.agg [prfI PX, .int .i64 0]), .var (.agg [prfI PY, .int .i64 0]), .var (.agg [iD N, .int .i64 0]), .row .leaf (bytesL [z3, z2, z1, z0, z3, z1, z2])] rfl ?_
  refine Val.call hsh (.step 8 .leaf (bytesL [z3, z2, z1, z0, z3, z1, z2]) rfl rfl (.refl _)) (.cons _ _ _ _ (.refl _) (.cons _ _ _ _ (leRow rfl rfl) .nil)) rfl ?_
  rintro r rfl
  repeat' (
   conv => whnf
   first
   | ((with_reducible refine pcI ?_); refine Val.pure hcx (ler _ _) rfl rfl ?_)
   | ((with_reducible refine pcI ?_); refine Val.pure hk1 (ler _ _) rfl rfl ?_)
   | ((with_reducible refine hcI ?_); refine Val.call hk2 (.refl _) (ler _ _) rfl ?_; rintro r rfl)
   | ((with_reducible refine pcI ?_); refine Val.pure hcy (ler _ _) rfl rfl ?_)
   | ((with_reducible refine pcI ?_); refine Val.pure hk3 (ler _ _) rfl rfl ?_)
   | ((with_reducible apply drT 8); rfl))
  all_goals (conv => whnf)
  all_goals (first | (exfalso; omega) | skip)
  obtain ⟨es, hes⟩ : ∃ es : List D, [.agg [iD n1, .int .i64 c1], .agg [iD n2, .int .i64 c2], .agg [iD n3, .int .i64 c3]] = es := ⟨_, rfl⟩
  have hesl : es.length = 3 := by rw [← hes]; rfl
  refine lpX (X := Nat) (fun i => [(7, .bool true), (12, .ptr 0 []), (17, .sl 1 0 3), (18, iD i)]) (fun i => [.var (.agg [iD N, .int .i64 0]), .row (.agg [.leaf, .leaf]) es]) (fun i => i ≤ 3) (fun i => 3 - i)
    ⟨_, nx (ρ := [7, 12]) 0 (by repeat (first | exact trivial | refine seC rfl rfl ?_ | refine seL (leRow rfl rfl) rfl ?_)) (shC rfl rfl (shR (ds := es) rfl (by rw [← hes]; rfl) (by rw [← hes]; rfl) trivial)) rfl rfl (Nat.lt_succ_self _) (Nat.zero_le _)⟩ ?_
  intro i hi
  have hall : ∀ j : Nat, j < 3 → es[j]? = some (.agg [iD N, .int .i64 0]) ∨ es[j]? = some (.agg [iD 0, .int .i64 200]) := by
    intro j hj
    rw [← hes]
    rcases j with _ | _ | _ | j
    · rcases hg1 with ⟨rfl, rfl⟩ | ⟨rfl, rfl⟩
      · exact .inl rfl
      · exact .inr rfl
    · rcases hg2 with ⟨rfl, rfl⟩ | ⟨rfl, rfl⟩
      · exact .inl rfl
      · exact .inr rfl
    · rcases hg3 with ⟨rfl, rfl⟩ | ⟨rfl, rfl⟩
      · exact .inl rfl
      · exact .inr rfl
    · omega
  clear hes
  rcases Nat.lt_or_ge i 3 with hlt | hge
  · rcases hall i hlt with he | he
    · have he2 : es[0 + ((i : Nat) : Int).toNat]? = some (.agg [iD N, .int .i64 0]) := by rw [Nat.zero_add]; exact he
      repeat' (
       conv => whnf
       first
       | refine ifd (fun h => ?_) (fun h => ?_)
       | refine ifb (fun h => ?_) (fun h => ?_)
       | with_reducible refine ivW (by omega) (by omega) ?_
       | ((with_reducible refine exEl he2 ?_))
       | ((with_reducible refine exEl2 he2 ?_))
       | ((with_reducible apply exSub); (rfl))
       | ((with_reducible apply drT 27); rfl)
       | ((with_reducible apply ob); ((first | rfl | assumption | omega | (unfold maxLen2; omega) | (dsimp only; omega) | (simp only [LN]; omega) | (simp; done) | (simp; omega)))))
      all_goals (conv => whnf)
      all_goals (first | (exfalso; omega) | skip)
      · exfalso; simp at h
      · exact nx0 (i + 1) (by repeat (first | exact trivial | refine se0 rfl ?_)) rfl (by omega) (by omega)
    · have he2 : es[0 + ((i : Nat) : Int).toNat]? = some (.agg [iD 0, .int .i64 200]) := by rw [Nat.zero_add]; exact he
      repeat' (
       conv => whnf
       first
       | refine ifd (fun h => ?_) (fun h => ?_)
       | with_reducible refine ivW (by omega) (by omega) ?_
       | ((with_reducible refine exEl he2 ?_))
       | ((with_reducible refine exEl2 he2 ?_))
       | ((with_reducible apply exSub); (rfl))
       | ((with_reducible apply drT 27); rfl)
       | ((with_reducible apply ob); ((first | rfl | assumption | omega | (unfold maxLen2; omega) | (dsimp only; omega) | (simp only [LN]; omega) | (simp; done) | (simp; omega)))))
      all_goals (conv => whnf)
      all_goals (first | (exfalso; omega) | skip)
      exact nx0 (i + 1) (by repeat (first | exact trivial | refine se0 rfl ?_)) rfl (by omega) (by omega)
  · repeat' (
     conv => whnf
     first
     | refine ifd (fun h => ?_) (fun h => ?_)
     | ((with_reducible apply drT 27); rfl)
     | ((with_reducible apply ob); ((first | rfl | assumption | omega | (unfold maxLen2; omega) | (dsimp only; omega) | (simp only [LN]; omega) | (simp; done) | (simp; omega)))))
    all_goals (conv => whnf)
    all_goals (first | (exfalso; omega) | skip)
    exact fC rfl rfl
/-- The law, of whatever data the types allow. -/
theorem vBothSides0 (g0 g1 g2 : D) (h0 : TyD (cx 0 0) 6 24 g0) (h1 : TyD (cx 0 0) 6 24 g1) (h2 : TyD (cx 0 0) 6 62 g2) : Val Tryd.prog 4 [g0, g1, g2] (fun r => r = .bool true) := by
  obtain ⟨lx, rfl, hlx⟩ := tyRaw h0
  obtain ⟨ly, rfl, hly⟩ := tyRaw h1
  obtain ⟨z0, z1, z2, z3, rfl, hz0, hz1, hz2, hz3⟩ := tyU84 h2
  exact vBothSides lx ly z0 z1 z2 z3 hlx hly hz0 hz1 hz2 hz3

end Go.Proofs.YthfcfdlbnfcboaaDoor.Pw
