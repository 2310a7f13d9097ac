/- Parts of the proof, merged: ZF ZG YS ZH ZI ZJ ZK YU YV YW. -/
import Derived.Test.YthfcfdlbnfcboaaDoorXc

set_option linter.unusedVariables false
set_option linter.unusedSimpArgs false
set_option maxHeartbeats 1000000
set_option maxRecDepth 10000
namespace Go.Proofs.YthfcfdlbnfcboaaDoor.Pw
open Go
theorem mul_len (a b : List Int) : (mulI a b).length = a.length := mulK_len a b _
theorem mul_get {a b : List Int} {k : Nat} (hk : k < a.length) : (mulI a b).getD k 0 = b.getD (a.getD k 0).toNat 0 := by
  have e : mulI a b = (List.range a.length).map (mulF a b) := mulK_map a b a.length
  rw [e, List.getD, List.getElem?_map, List.getElem?_range hk]; rfl
theorem pm_get {g : List Int} {n k : Nat} (hg : Pm g n) (hk : k < n) : 0 ≤ g.getD k 0 ∧ g.getD k 0 < n := by
  have h : k < g.length := by rw [hg.1]; exact hk
  rw [getD_of (List.getElem?_eq_getElem h)]
  exact hg.2.1 _ (List.getElem_mem h)
theorem ext_get {a b : List Int} {n : Nat} (ha : a.length = n) (hb : b.length = n) (h : ∀ k, k < n → a.getD k 0 = b.getD k 0) : a = b := by
  apply List.ext_getElem?
  intro k
  rcases Nat.lt_or_ge k n with hk | hk
  · have := h k hk
    have h1 : a[k]? = some a[k] := List.getElem?_eq_getElem (by omega)
    have h2 : b[k]? = some b[k] := List.getElem?_eq_getElem (by omega)
    rw [getD_of h1, getD_of h2] at this
    rw [h1, h2, this]
  · rw [List.getElem?_eq_none (by omega), List.getElem?_eq_none (by omega)]
theorem pm_eq {g : List Int} {n p q : Nat} (hg : Pm g n) (hp : p < n) (hq : q < n) (h : g.getD p 0 = g.getD q 0) : p = q := pm_inj hg hp hq (by rw [h])
theorem mul_cancel {a b c : List Int} {n : Nat} (ha : Pm a n) (hb : Pm b n) (hc : Pm c n) (h : mulI a c = mulI b c) : a = b := by
  refine ext_get ha.1 hb.1 fun k hk => ?_
  have e : (mulI a c).getD k 0 = (mulI b c).getD k 0 := by rw [h]
  rw [mul_get (by rw [ha.1]; exact hk), mul_get (by rw [hb.1]; exact hk)] at e
  have h1 := pm_get ha hk
  have h2 := pm_get hb hk
  have := pm_eq hc (by omega) (by omega) e
  omega
theorem mul_cancelL {a b c : List Int} {n : Nat} (ha : Pm a n) (hb : Pm b n) (hc : Pm c n) (h : mulI c a = mulI c b) : a = b := by
  have hs : ∀ q, q < n → ∃ p, p < n ∧ c.getD p 0 = (q : Int) := by
    intro q hq
    have hm : (q : Int) ∈ c := (pm_perm.1 hc).mem_iff.2 (by simp only [oneI, natsI, List.mem_map, List.mem_range]; exact ⟨q, hq, rfl⟩)
    obtain ⟨p, hp, e⟩ := List.getElem_of_mem hm
    exact ⟨p, by rw [← hc.1]; exact hp, by rw [getD_of (List.getElem?_eq_getElem hp)]; exact e⟩
  refine ext_get ha.1 hb.1 fun k hk => ?_
  obtain ⟨p, hp, e⟩ := hs k hk
  have e2 : (mulI c a).getD p 0 = (mulI c b).getD p 0 := by rw [h]
  rw [mul_get (by rw [hc.1]; exact hp), mul_get (by rw [hc.1]; exact hp), e] at e2
  simpa using e2
theorem trace_mul {a b : List Int} {V : Nat} (ha : Pm a V) (hb : Pm b V) (s : Nat) : traceB (mulI a b) s = traceB a (traceB b s) := by
  apply Nat.eq_of_testBit_eq
  intro q
  rw [traceB_bit, traceB_bit, traceB_bit, mul_len, ha.1, hb.1]
  by_cases h : q < V
  · have h1 := pm_get ha h
    rw [mul_get (by rw [ha.1]; exact h)]
    have h2 : (a.getD q 0).toNat < V := by omega
    rw [decide_eq_true h, decide_eq_true h2]; rfl
  · simp [h]
theorem aut_iff {x : Inc} (hx : x.Fam) {g : List Int} : Aut x g ↔ Pm g x.V ∧ x.B.Perm (x.B.map (traceB g)) := by
  have h1 := mapB_one hx
  unfold Aut OkM
  constructor
  · rintro ⟨hg, h⟩
    refine ⟨hg, ?_⟩
    rw [hg.1, h1] at h
    exact h
  · rintro ⟨hg, h⟩
    refine ⟨hg, ?_⟩
    rw [hg.1, h1]
    exact h
theorem aut_mul {x : Inc} (hx : x.Fam) {a b : List Int} (ha : Aut x a) (hb : Aut x b) : Aut x (mulI a b) := by
  rw [aut_iff hx] at ha hb ⊢
  refine ⟨mul_pm ha.1 hb.1, ?_⟩
  have h1 := hb.2.map (traceB a)
  rw [List.map_map] at h1
  refine (ha.2.trans h1).trans (List.Perm.of_eq ?_)
  exact List.map_congr_left fun s _ => (trace_mul ha.1 hb.1 s).symm
theorem aut_one {x : Inc} (hx : x.Fam) : Aut x (oneI x.V) := ⟨one_pm x.V, okM_one x x.V⟩
theorem inv_ex {m : List Int} {n : Nat} (hm : Pm m n) : ∃ h, Pm h n ∧ mulI m h = oneI n := by
  have h1 : ((permsA n).map (mulI m ·)).Nodup := (nd_map (fun a ha b hb e => mul_cancelL ((permsA_mem n a).1 ha) ((permsA_mem n b).1 hb) hm e)).2 (permsA_nodup n)
  have h2 : ∀ a ∈ (permsA n).map (mulI m ·), a ∈ permsA n := by
    intro a ha
    obtain ⟨b, hb, rfl⟩ := List.mem_map.1 ha
    exact (permsA_mem n _).2 (mul_pm hm ((permsA_mem n b).1 hb))
  have h4 : oneI n ∈ (permsA n).map (mulI m ·) := by
    refine Classical.byContradiction fun hn => ?_
    have := nd_le (oneI n :: (permsA n).map (mulI m ·)) (permsA n) (List.nodup_cons.2 ⟨hn, h1⟩) (by
      intro a ha
      rcases List.mem_cons.1 ha with rfl | ha
      · exact (permsA_mem n _).2 (one_pm n)
      · exact h2 a ha)
    simp at this
    omega
  obtain ⟨b, hb, e⟩ := List.mem_map.1 h4
  exact ⟨b, (permsA_mem n b).1 hb, e⟩
theorem aut_inv {x : Inc} (hx : x.Fam) {m h : List Int} (hm : Aut x m) (hh : Pm h x.V) (e : mulI m h = oneI x.V) : Aut x h := by
  rw [aut_iff hx] at hm ⊢
  refine ⟨hh, ?_⟩
  have hv := hx.v7
  have h1 : (x.B.map (traceB h)).map (traceB m) = x.B := by
    rw [List.map_map]
    conv => rhs; rw [← mapB_one hx]
    exact List.map_congr_left fun s _ => by show traceB m (traceB h s) = _; rw [← trace_mul hm.1 hh, e]
  have h2 : ((x.B.map (traceB h)).map (traceB m)).Perm (x.B.map (traceB m)) := by rw [h1]; exact hm.2
  have h3 := h2.map (fun b => movL m (bitsL b))
  have e1 : ((x.B.map (traceB h)).map (traceB m)).map (fun b => movL m (bitsL b)) = x.B.map (traceB h) := by
    rw [List.map_map]
    conv => rhs; rw [← List.map_id (x.B.map (traceB h))]
    refine List.map_congr_left fun b hb => ?_
    obtain ⟨s, _, rfl⟩ := List.mem_map.1 hb
    exact mov_trace (by omega) hm.1 (by have := trace_lt h s; rwa [hh.1] at this)
  have e2 : (x.B.map (traceB m)).map (fun b => movL m (bitsL b)) = x.B := by
    rw [List.map_map]
    conv => rhs; rw [← List.map_id x.B]
    exact List.map_congr_left fun b hb => mov_trace (by omega) hm.1 (hx.lt b hb)
  rw [e1, e2] at h3
  exact h3.symm
def autos (x : Inc) : List (List Int) := (permsA x.V).filter (isG x)
def preB (i j : Nat) (g : List Int) : Bool := decide (g.take (i + 1) = preI i j)
def stB (i : Nat) (g : List Int) : Bool := decide (g.take i = oneI i)
theorem autos_mem {x : Inc} (hx : x.Fam) (g : List Int) : g ∈ autos x ↔ Aut x g := by
  unfold autos
  rw [List.mem_filter, permsA_mem, isG_iff hx]
  exact ⟨fun h => h.2, fun h => ⟨h.1, h⟩⟩
theorem autos_nodup (x : Inc) : (autos x).Nodup := (permsA_nodup x.V).filter _
theorem take_one_iff {g : List Int} {i : Nat} (hl : i ≤ g.length) : g.take i = oneI i ↔ ∀ k, k < i → g.getD k 0 = (k : Int) := by
  constructor
  · intro h k hk
    have e : (g.take i).getD k 0 = g.getD k 0 := by simp [List.getD, List.getElem?_take, hk]
    rw [← e, h, one_getD i k hk]
  · intro h
    refine ext_get (n := i) (by simp; omega) (one_len i) fun k hk => ?_
    have e : (g.take i).getD k 0 = g.getD k 0 := by simp [List.getD, List.getElem?_take, hk]
    rw [e, h k hk, one_getD i k hk]
theorem take_pre_iff {g : List Int} {i j : Nat} (hl : i < g.length) : g.take (i + 1) = preI i j ↔ g.take i = oneI i ∧ g.getD i 0 = (j : Int) := by
  have h1 : g[i]? = some g[i] := List.getElem?_eq_getElem hl
  rw [List.take_add_one, h1, getD_of h1]
  unfold preI
  constructor
  · intro h
    have := List.append_inj' h (by simp)
    exact ⟨this.1, by simpa using this.2⟩
  · rintro ⟨h2, h3⟩
    rw [h2, h3]; rfl
theorem split_len {α : Type} (f : α → Nat) : ∀ (J : List Nat) (L : List α), J.Nodup → (∀ a ∈ L, f a ∈ J) → L.length = (J.map fun j => (L.filter fun a => decide (f a = j)).length).sum
  | [], L, _, h => by
    cases L with
    | nil => rfl
    | cons a L => have := h a List.mem_cons_self; cases this
  | j :: J, L, hJ, h => by
    obtain ⟨hj, hJ2⟩ := List.nodup_cons.1 hJ
    have ih := split_len f J (L.filter fun a => !decide (f a = j)) hJ2 (by
      intro a ha
      obtain ⟨h1, h2⟩ := List.mem_filter.1 ha
      rcases List.mem_cons.1 (h a h1) with h3 | h3
      · simp [h3] at h2
      · exact h3)
    have e : (J.map fun j' => ((L.filter fun a => !decide (f a = j)).filter fun a => decide (f a = j')).length) = J.map fun j' => (L.filter fun a => decide (f a = j')).length := by
      refine List.map_congr_left fun j' hj' => ?_
      rw [List.filter_filter]
      congr 1
      refine List.filter_congr fun a _ => ?_
      by_cases h4 : f a = j'
      · have : ¬ j' = j := fun e => hj (e ▸ hj')
        simp [h4, this]
      · simp [h4]
    rw [e] at ih
    rw [List.map_cons, List.sum_cons, ← ih]
    have := List.length_eq_countP_add_countP (fun a => decide (f a = j)) (l := L)
    rw [List.countP_eq_length_filter, List.countP_eq_length_filter] at this
    rw [this]
    congr 2
    refine List.filter_congr fun a _ => ?_
    simp
theorem sum_if (p : Nat → Bool) (c : Nat) : ∀ J : List Nat, (J.map fun j => if p j = true then c else 0).sum = J.countP p * c
  | [] => by simp
  | j :: J => by
    rw [List.map_cons, List.sum_cons, sum_if p c J, List.countP_cons]
    by_cases h : p j = true
    · simp [h, Nat.add_mul]; omega
    · simp [h]
theorem fib_len {x : Inc} (hx : x.Fam) {i j : Nat} (hij : i ≤ j) (hj : j < x.V) : ((autos x).filter (preB i j)).length = if (mapN x x (preI i j)).isSome = true then ((autos x).filter (preB i i)).length else 0 := by
  by_cases hr : (mapN x x (preI i j)).isSome = true
  · rw [if_pos hr]
    obtain ⟨m, hm, hmt⟩ := (mapN_iff hx.v7 hij hj).1 hr
    obtain ⟨h, hh, he⟩ := inv_ex hm.1
    have hha := aut_inv hx hm hh he
    have hl : ∀ g, Aut x g → i < g.length := fun g hg => by rw [hg.1.1]; omega
    obtain ⟨hm1, hm2⟩ := (take_pre_iff (hl m hm)).1 hmt
    have hm3 := (take_one_iff (by have := hl m hm; omega)).1 hm1
    have hh3 : ∀ k, k < i → h.getD k 0 = (k : Int) := fun k hk => by
      have e : (mulI m h).getD k 0 = (k : Int) := by rw [he, one_getD _ _ (by omega)]
      rw [mul_get (by have := hl m hm; omega), hm3 k hk] at e
      simpa using e
    have hh4 : h.getD j 0 = (i : Int) := by
      have e : (mulI m h).getD i 0 = (i : Int) := by rw [he, one_getD _ _ (by omega)]
      rw [mul_get (hl m hm), hm2] at e
      simpa using e
    have mem : ∀ (j' : Nat) (g : List Int), g ∈ (autos x).filter (preB i j') ↔ Aut x g ∧ (∀ k, k < i → g.getD k 0 = (k : Int)) ∧ g.getD i 0 = (j' : Int) := by
      intro j' g
      rw [List.mem_filter, autos_mem hx]
      constructor
      · rintro ⟨ha, hb⟩
        obtain ⟨h1, h2⟩ := (take_pre_iff (hl g ha)).1 (of_decide_eq_true hb)
        exact ⟨ha, (take_one_iff (by have := hl g ha; omega)).1 h1, h2⟩
      · rintro ⟨ha, h1, h2⟩
        exact ⟨ha, decide_eq_true ((take_pre_iff (hl g ha)).2 ⟨(take_one_iff (by have := hl g ha; omega)).2 h1, h2⟩)⟩
    have nd : ∀ j', ((autos x).filter (preB i j')).Nodup := fun j' => (autos_nodup x).filter _
    have leq : ∀ (a b : Nat) (c : List Int), Aut x c → (∀ g, g ∈ (autos x).filter (preB i a) → mulI g c ∈ (autos x).filter (preB i b)) → ((autos x).filter (preB i a)).length ≤ ((autos x).filter (preB i b)).length := by
      intro a b c hc hmap
      have h1 := nd_le (((autos x).filter (preB i a)).map (mulI · c)) ((autos x).filter (preB i b)) ((nd_map (fun u hu v hv e => mul_cancel ((mem a u).1 hu).1.1 ((mem a v).1 hv).1.1 hc.1 e)).2 (nd a)) (by
        intro u hu
        obtain ⟨v, hv, rfl⟩ := List.mem_map.1 hu
        exact hmap v hv)
      rwa [List.length_map] at h1
    refine Nat.le_antisymm (leq j i h hha fun g hg => ?_) (leq i j m hm fun g hg => ?_)
    · obtain ⟨h1, h2, h3⟩ := (mem j g).1 hg
      refine (mem i _).2 ⟨aut_mul hx h1 hha, fun k hk => ?_, ?_⟩
      · rw [mul_get (by have := hl g h1; omega), h2 k hk]
        simpa using hh3 k hk
      · rw [mul_get (hl g h1), h3]
        simpa using hh4
    · obtain ⟨h1, h2, h3⟩ := (mem i g).1 hg
      refine (mem j _).2 ⟨aut_mul hx h1 hm, fun k hk => ?_, ?_⟩
      · rw [mul_get (by have := hl g h1; omega), h2 k hk]
        simpa using hm3 k hk
      · rw [mul_get (hl g h1), h3]
        simpa using hm2
  · rw [if_neg hr]
    rw [List.length_eq_zero_iff, List.filter_eq_nil_iff]
    intro g hg hb
    exact hr ((mapN_iff hx.v7 hij hj).2 ⟨g, (autos_mem hx g).1 hg, of_decide_eq_true hb⟩)
theorem st_len {x : Inc} (hx : x.Fam) {i : Nat} (hi : i < x.V) : ((autos x).filter (stB i)).length = cntL x i i (x.V - i) * ((autos x).filter (stB (i + 1))).length := by
  have e1 : ((autos x).filter (stB (i + 1))) = (autos x).filter (preB i i) := List.filter_congr fun g _ => by unfold stB preB; rw [show preI i i = oneI (i + 1) from by unfold preI; exact one_snoc i]
  rw [e1]
  have hl : ∀ g, Aut x g → i < g.length := fun g hg => by rw [hg.1.1]; omega
  have h1 := split_len (fun g : List Int => (g.getD i 0).toNat) (List.range' i (x.V - i)) ((autos x).filter (stB i)) (show (List.range' i (x.V - i)).Nodup from List.nodup_range') (by
    intro g hg
    obtain ⟨ha, hb⟩ := List.mem_filter.1 hg
    have ha := (autos_mem hx g).1 ha
    have h2 := (take_one_iff (by have := hl g ha; omega)).1 (of_decide_eq_true hb)
    have h3 := pm_get ha.1 hi
    rw [List.mem_range'_1]
    refine ⟨?_, by omega⟩
    rcases Nat.lt_or_ge (g.getD i 0).toNat i with h4 | h4
    · have h5 := h2 _ h4
      have := pm_eq ha.1 (p := (g.getD i 0).toNat) (q := i) (by omega) hi (by rw [h5]; omega)
      omega
    · exact h4)
  rw [h1]
  have h2 : ((List.range' i (x.V - i)).map fun j => (((autos x).filter (stB i)).filter fun a => decide ((a.getD i 0).toNat = j)).length) = (List.range' i (x.V - i)).map fun j => if (fun q => (mapN x x (preI i q)).isSome) j = true then ((autos x).filter (preB i i)).length else 0 := by
    refine List.map_congr_left fun j hj => ?_
    obtain ⟨hj1, hj2⟩ := List.mem_range'_1.1 hj
    rw [← fib_len hx hj1 (by omega), List.filter_filter]
    congr 1
    refine List.filter_congr fun g hg => ?_
    have ha := (autos_mem hx g).1 hg
    have h3 := pm_get ha.1 hi
    have h4 := take_pre_iff (j := j) (hl g ha)
    unfold preB stB
    rw [Bool.eq_iff_iff, Bool.and_eq_true, decide_eq_true_eq, decide_eq_true_eq, decide_eq_true_eq, h4]
    constructor
    · rintro ⟨h5, h6⟩; exact ⟨h6, by omega⟩
    · rintro ⟨h5, h6⟩; exact ⟨by omega, h5⟩
  rw [h2, sum_if]
  rfl
theorem autos_len {x : Inc} (hx : x.Fam) : (autos x).length = ordK x x.V := by
  have key : ∀ i, i ≤ x.V → (autos x).length = ordK x i * ((autos x).filter (stB i)).length := by
    intro i
    induction i with
    | zero =>
      intro _
      rw [show ordK x 0 = 1 from rfl, Nat.one_mul]
      congr 1
      refine (List.filter_eq_self.2 fun g _ => ?_).symm
      simp [stB, oneI, natsI]
    | succ i ih =>
      intro h
      rw [ih (by omega), st_len hx (by omega), ordK_succ, Nat.mul_assoc]
  rw [key x.V (Nat.le_refl _)]
  have : ((autos x).filter (stB x.V)).length = 1 := by
    have hn : ((autos x).filter (stB x.V)).Nodup := (autos_nodup x).filter _
    have h1 := nd_le _ [oneI x.V] hn (by
      intro g hg
      obtain ⟨ha, hb⟩ := List.mem_filter.1 hg
      have ha := (autos_mem hx g).1 ha
      have := of_decide_eq_true hb
      rw [List.take_of_length_le (by rw [ha.1.1]; omega)] at this
      rw [this]; exact List.mem_singleton.2 rfl)
    have h2 : oneI x.V ∈ (autos x).filter (stB x.V) := List.mem_filter.2 ⟨(autos_mem hx _).2 (aut_one hx), decide_eq_true (List.take_of_length_le (by rw [one_len]; omega))⟩
    have h3 := List.length_pos_of_mem h2
    simp at h1
    omega
  rw [this, Nat.mul_one]
end Go.Proofs.YthfcfdlbnfcboaaDoor.Pw



set_option linter.unusedVariables false
set_option linter.unusedSimpArgs false
set_option maxHeartbeats 1000000
set_option maxRecDepth 10000
namespace Go.Proofs.YthfcfdlbnfcboaaDoor.Pw
open Go
end Go.Proofs.YthfcfdlbnfcboaaDoor.Pw



set_option linter.unusedVariables false
set_option linter.unusedSimpArgs false
set_option maxHeartbeats 4000000
set_option maxRecDepth 10000
namespace Go.Proofs.YthfcfdlbnfcboaaDoor.Pw
open Go
theorem ord_pos {x : Inc} (hx : x.Fam) : 1 ≤ ordK x x.V := by
  rw [← autos_len hx]
  exact List.length_pos_of_mem ((autos_mem hx _).2 (aut_one hx))
end Go.Proofs.YthfcfdlbnfcboaaDoor.Pw



set_option linter.unusedVariables false
set_option linter.unusedSimpArgs false
set_option maxHeartbeats 1000000
set_option maxRecDepth 10000
namespace Go.Proofs.YthfcfdlbnfcboaaDoor.Pw
open Go
theorem vFull (v : Nat) (hv : v ≤ 63) : Val Tryd.prog 57 [iD v] (fun r => r = sD (2 ^ v - 1)) := by
  refine Val.ofV ?_
  refine hc_ofS (okc Tryd.f57.ntmps 0) (fn := Tryd.f57) (cd := _) rfl rfl rfl rfl rfl rfl (fun hbd => ?_)
  repeat' (
   conv => whnf
   first
   | ((with_reducible apply ivShl); (rfl); (rfl); (omega); (focus ((repeat' (first | assumption | (exact hW _) | (unfold W64; first | omega | decide) | (exact Ws.get (by assumption) (by assumption)) | (exact wOne (by omega)) | (exact bit1_w (by omega)) | (exact wXorAnd (by assumption)) | (exact wSub (by assumption)) | apply wOr | (apply wAnd; assumption) | (apply wAnd2; assumption) | apply wShr)) <;> fail)))
   | ((with_reducible apply ivSub); (rfl); (rfl); (first | exact one_pos _ | omega); (focus ((repeat' (first | assumption | (exact hW _) | (unfold W64; first | omega | decide) | (exact Ws.get (by assumption) (by assumption)) | (exact wOne (by omega)) | (exact bit1_w (by omega)) | (exact wXorAnd (by assumption)) | (exact wSub (by assumption)) | apply wOr | (apply wAnd; assumption) | (apply wAnd2; assumption) | apply wShr)) <;> fail)))
   | ((with_reducible apply ob); ((first | rfl | assumption | omega | (unfold maxLen2; omega) | (dsimp only; omega) | (simp only [LN]; omega) | (simp; done) | (simp; omega)))))
  all_goals (conv => whnf)
  exact fC rfl (by rw [Nat.shiftLeft_eq, Nat.one_mul]; rfl)
end Go.Proofs.YthfcfdlbnfcboaaDoor.Pw



set_option linter.unusedVariables false
set_option linter.unusedSimpArgs false
set_option maxHeartbeats 1000000
set_option maxRecDepth 10000
namespace Go.Proofs.YthfcfdlbnfcboaaDoor.Pw
open Go
theorem mul_assoc {a b c : List Int} {n : Nat} (ha : Pm a n) (hb : Pm b n) (hc : Pm c n) : mulI (mulI a b) c = mulI a (mulI b c) := by
  refine ext_get (n := n) (by rw [mul_len, mul_len]; exact ha.1) (by rw [mul_len]; exact ha.1) fun k hk => ?_
  have ea := ha.1
  have eb := hb.1
  have h1 := pm_get ha hk
  rw [mul_get (by rw [mul_len]; omega), mul_get (by omega), mul_get (by omega), mul_get (by omega)]
theorem mul_one {a : List Int} {n : Nat} (ha : Pm a n) : mulI a (oneI n) = a := by
  refine ext_get (n := n) (by rw [mul_len]; exact ha.1) ha.1 fun k hk => ?_
  have ea := ha.1
  have h1 := pm_get ha hk
  rw [mul_get (by omega), one_getD _ _ (by omega)]
  omega
theorem one_mul {a : List Int} {n : Nat} (ha : Pm a n) : mulI (oneI n) a = a := by
  refine ext_get (n := n) (by rw [mul_len, one_len]) ha.1 fun k hk => ?_
  rw [mul_get (by rw [one_len]; omega), one_getD _ _ hk]
  rfl
theorem inv_left {g h : List Int} {n : Nat} (hg : Pm g n) (hh : Pm h n) (e : mulI g h = oneI n) : mulI h g = oneI n := by
  refine mul_cancel (mul_pm hh hg) (one_pm n) hh ?_
  rw [mul_assoc hh hg hh, e, mul_one hh, one_mul hh]
theorem split_gen {α β : Type} [DecidableEq β] (f : α → β) (c : Nat) : ∀ (J : List β) (L : List α), J.Nodup → (∀ a ∈ L, f a ∈ J) → (∀ j ∈ J, (L.filter fun a => decide (f a = j)).length = c) → L.length = c * J.length
  | [], L, _, h, _ => by
    cases L with
    | nil => rfl
    | cons a L => have := h a List.mem_cons_self; cases this
  | j :: J, L, hJ, h, hc => by
    obtain ⟨hj, hJ2⟩ := List.nodup_cons.1 hJ
    have e : ∀ j' ∈ J, ((L.filter fun a => !decide (f a = j)).filter fun a => decide (f a = j')).length = (L.filter fun a => decide (f a = j')).length := by
      intro j' hj'
      rw [List.filter_filter]
      congr 1
      refine List.filter_congr fun a _ => ?_
      by_cases h4 : f a = j'
      · have : ¬ j' = j := fun e => hj (e ▸ hj')
        simp [h4, this]
      · simp [h4]
    have ih := split_gen f c J (L.filter fun a => !decide (f a = j)) hJ2 (by
      intro a ha
      obtain ⟨h1, h2⟩ := List.mem_filter.1 ha
      rcases List.mem_cons.1 (h a h1) with h3 | h3
      · simp [h3] at h2
      · exact h3) (fun j' hj' => by rw [e j' hj']; exact hc j' (List.mem_cons_of_mem _ hj'))
    have h0 := hc j List.mem_cons_self
    have h5 := List.length_eq_countP_add_countP (fun a => decide (f a = j)) (l := L)
    rw [List.countP_eq_length_filter, List.countP_eq_length_filter, h0] at h5
    have h6 : (L.filter fun a => decide ¬(decide (f a = j)) = true) = L.filter fun a => !decide (f a = j) := List.filter_congr fun a _ => by simp
    rw [h6, ih] at h5
    rw [h5, List.length_cons, Nat.mul_add, Nat.mul_one]
    omega
end Go.Proofs.YthfcfdlbnfcboaaDoor.Pw



set_option linter.unusedVariables false
set_option linter.unusedSimpArgs false
set_option maxHeartbeats 1000000
set_option maxRecDepth 10000
namespace Go.Proofs.YthfcfdlbnfcboaaDoor.Pw
open Go
def OkM2 (a b : Inc) (m : List Int) : Prop := (a.B.map (traceB (oneI m.length))).Perm (b.B.map (traceB m))
theorem fails_iff2 (a b : Inc) {m : List Int} (hd : Dif m b.V) (hla : m.length ≤ a.V) (hv : a.V = b.V) : ¬ Fails a b m ↔ OkM2 a b m := by
  have h1 := one_dif m.length a.V hla
  unfold Fails tracesL OkM2
  rw [if_pos h1, if_pos hd, ← sortL_iff]
  simp [hv]
def Iso (a b : Inc) (g : List Int) : Prop := Pm g b.V ∧ a.V = b.V ∧ OkM2 a b g
theorem okM2_take {a b : Inc} {g : List Int} (h : OkM2 a b g) (k : Nat) (hk : k ≤ g.length) : OkM2 a b (g.take k) := by
  have h1 := h.map (fun t => t % 2 ^ k)
  unfold OkM2
  rw [List.map_map, List.map_map] at h1
  rw [List.length_take, Nat.min_eq_left hk]
  have e1 : a.B.map (traceB (oneI k)) = a.B.map ((fun t => t % 2 ^ k) ∘ traceB (oneI g.length)) := List.map_congr_left fun c _ => by
    show _ = traceB (oneI g.length) c % 2 ^ k
    rw [← trace_take _ _ _ (by rw [one_len]; exact hk), oneT _ _ hk]
  have e2 : b.B.map (traceB (g.take k)) = b.B.map ((fun t => t % 2 ^ k) ∘ traceB g) := List.map_congr_left fun c _ => trace_take _ _ _ hk
  rw [e1, e2]; exact h1
theorem iso_take {a b : Inc} {g : List Int} (h : Iso a b g) (k : Nat) : ¬ Fails a b (g.take k) := by
  have hgl := h.1.1
  have hv := h.2.1
  rw [fails_iff2 a b (dif_take h.1.2 k) (by rw [List.length_take]; omega) hv]
  rcases Nat.le_total k g.length with hk | hk
  · exact okM2_take h.2.2 k hk
  · rw [List.take_of_length_le hk]; exact h.2.2
theorem iso_next {V : Nat} (hV : V ≤ 7) {g m : List Int} (hg : Pm g V) (hm : g.take m.length = m) (hl : m.length < V) : ∃ p : Nat, p ∈ restL V m ∧ g.take (m.length + 1) = m ++ [(p : Int)] :=
  aut_next (x := ⟨V, []⟩) hV hg hm hl
theorem look_ne2 (a b : Inc) (hb : b.V ≤ 7) (g : List Int) (hg : Iso a b g) : ∀ f m, m.length + f = b.V → g.take m.length = m → lookA a b f m ≠ none
  | 0, m, hl, hm => by
    have h := iso_take hg m.length
    rw [hm] at h
    simp [lookA, h]
  | f + 1, m, hl, hm => by
    have h := iso_take hg m.length
    rw [hm] at h
    obtain ⟨p, hp, hp2⟩ := iso_next hb hg.1 hm (by omega)
    unfold lookA
    rw [if_neg h]
    intro hn
    exact look_ne2 a b hb g hg f (m ++ [(p : Int)]) (by simp; omega) (by rw [List.length_append]; exact hp2) (firstS_no hn p hp)
theorem lv_mem (x : Inc) (i : Nat) : ∀ (k j : Nat) (m : List Int), i ≤ j → j < i + k → mapN x x (preI i j) = some m → (j, m) ∈ (lvK x i k).1
  | 0, j, m, h1, h2, _ => by omega
  | k + 1, j, m, h1, h2, h3 => by
    rw [lvK_succ]
    rcases Nat.lt_or_ge j (i + k) with h | h
    · have ih := lv_mem x i k j m h1 h h3
      cases hm : mapN x x (preI i (i + k)) with
      | none => exact ih
      | some m' => exact List.mem_append_left _ ih
    · have : j = i + k := by omega
      subst this
      rw [h3]
      exact List.mem_append_right _ (List.mem_singleton.2 rfl)
theorem gens_mem {x : Inc} {i : Nat} {y : Nat × List Int} : ∀ k, i < k → y ∈ (lvK x i (x.V - i)).1 → y.2 ∈ gensK x k
  | 0, h, _ => by omega
  | k + 1, h, hy => by
    rw [gensK]
    rcases Nat.lt_or_ge i k with h1 | h1
    · exact List.mem_append_left _ (gens_mem k h1 hy)
    · have : i = k := by omega
      subst this
      exact List.mem_append_right _ (List.mem_map.2 ⟨y, hy, rfl⟩)
theorem gens_aut {x : Inc} (hx : x.V ≤ 7) : ∀ k, k ≤ x.V → ∀ g ∈ gensK x k, Aut x g
  | 0, _, g, hg => by cases hg
  | k + 1, hk, g, hg => by
    rcases List.mem_append.1 hg with h | h
    · exact gens_aut hx k (by omega) g h
    · obtain ⟨y, hy, rfl⟩ := List.mem_map.1 h
      exact lvK_aut hx k (x.V - k) (by omega) y hy
def Kept (gens : List (List Int)) (n : Nat) (S : Nat → Prop) : Prop := ∀ g ∈ gens, ∀ q, q < n → S q → S (g.getD q 0).toNat
theorem kept_aut {x : Inc} (hx : x.Fam) {S : Nat → Prop} (hS : Kept (gensK x x.V) x.V S) : ∀ d i a, i + d = x.V → Aut x a → (∀ k, k < i → a.getD k 0 = (k : Int)) → ∀ q, q < x.V → S q → S (a.getD q 0).toNat
  | 0, i, a, hi, ha, hf, q, hq, hs => by rw [hf q (by omega)]; exact hs
  | d + 1, i, a, hi, ha, hf, q, hq, hs => by
    have hai := pm_get ha.1 (k := i) (by omega)
    obtain ⟨j, hj⟩ : ∃ j : Nat, a.getD i 0 = (j : Int) := ⟨(a.getD i 0).toNat, by omega⟩
    have hij : i ≤ j := by
      rcases Nat.lt_or_ge j i with h | h
      · have h1 := hf j h
        have := pm_eq ha.1 (p := j) (q := i) (by omega) (by omega) (by rw [h1, hj])
        omega
      · exact h
    have hjV : j < x.V := by omega
    have hal : a.length = x.V := ha.1.1
    have ht : a.take (i + 1) = preI i j := (take_pre_iff (by omega)).2 ⟨(take_one_iff (by omega)).2 hf, hj⟩
    have hm := (mapN_iff hx.v7 hij hjV).2 ⟨a, ha, ht⟩
    obtain ⟨m, hm⟩ := Option.isSome_iff_exists.1 hm
    obtain ⟨hma, hmt⟩ := reach_aut hx hij hjV (map_reach hx hij hjV hm)
    have hmg : m ∈ gensK x x.V := gens_mem (y := (j, m)) x.V (by omega) (lv_mem x i (x.V - i) j m hij (by omega) hm)
    obtain ⟨h, hh, e⟩ := inv_ex hma.1
    have hb := aut_mul hx ha (aut_inv hx hma hh e)
    have hml : m.length = x.V := hma.1.1
    obtain ⟨hm1, hm2⟩ := (take_pre_iff (by omega)).1 hmt
    have hm3 := (take_one_iff (by omega)).1 hm1
    have hh3 : ∀ k, k < x.V → h.getD (m.getD k 0).toNat 0 = (k : Int) := fun k hk => by
      rw [← mul_get (by omega), e, one_getD _ _ hk]
    have hfix : ∀ k, k < i + 1 → (mulI a h).getD k 0 = (k : Int) := by
      intro k hk
      rw [mul_get (by omega)]
      rcases Nat.lt_or_ge k i with h1 | h1
      · have := hh3 k (by omega)
        rw [hm3 k h1] at this
        rw [hf k h1]
        exact this
      · have : k = i := by omega
        subst this
        have := hh3 k (by omega)
        rw [hm2] at this
        rw [hj]
        exact this
    have key := kept_aut hx hS d (i + 1) (mulI a h) (by omega) hb hfix q hq hs
    have e1 : mulI (mulI a h) m = a := by rw [mul_assoc ha.1 hh hma.1, inv_left hma.1 hh e, mul_one ha.1]
    have e2 : a.getD q 0 = m.getD ((mulI a h).getD q 0).toNat 0 := by
      conv => lhs; rw [← e1]
      exact mul_get (by rw [mul_len]; omega)
    rw [e2]
    have := pm_get hb.1 hq
    exact hS m hmg _ (by omega) key
def Rd (h : How) (y : Nat) : Prop := ∃ l, h[y]? = some (some l)
theorem rd_some (h : How) (y : Nat) : (h.getD y none).isSome = true ↔ Rd h y := by
  unfold Rd
  simp only [List.getD]
  cases hy : h[y]? with
  | none => simp
  | some o => cases o <;> simp
theorem orbS_in {n x : Nat} {g : List Int} {s : How × List Int} (hg : Pm g n) (hs : OrbOk n s) (hx : x < n) :
    (∀ y, Rd (orbS x g s).1 y → Rd s.1 y ∨ (y : Int) ∈ (orbS x g s).2) ∧ (∀ z ∈ s.2, z ∈ (orbS x g s).2) ∧ Rd (orbS x g s).1 (g.getD x 0).toNat := by
  have hr := pm_get hg hx
  have hql : (g.getD x 0).toNat < s.1.length := by rw [hs.len]; omega
  unfold orbS
  cases ho : s.1[(g.getD x 0).toNat] with
  | some l =>
    have ho2 : s.1[(g.getD x 0).toNat]? = some (some l) := by rw [List.getElem?_eq_getElem hql, ho]
    rw [ho2]
    exact ⟨fun y h => .inl h, fun z h => h, ⟨l, ho2⟩⟩
  | none =>
    have ho2 : s.1[(g.getD x 0).toNat]? = some none := by rw [List.getElem?_eq_getElem hql, ho]
    rw [ho2]
    dsimp only
    refine ⟨fun y h => ?_, fun z h => List.mem_append_left _ h, ⟨_, List.getElem?_set_self hql⟩⟩
    by_cases e : (g.getD x 0).toNat = y
    · right
      rw [← e]
      refine List.mem_append_right _ (List.mem_singleton.2 ?_)
      omega
    · left
      obtain ⟨l, hl⟩ := h
      rw [List.getElem?_set_ne e] at hl
      exact ⟨l, hl⟩
theorem orbT_in {n x : Nat} {gens : List (List Int)} {s : How × List Int} (hg : ∀ g ∈ gens, Pm g n) (hs : OrbOk n s) (hx : x < n) (hl : ∃ l, s.1[x]? = some (some l)) : ∀ k, k ≤ gens.length →
    (∀ y, Rd (orbT gens x s k).1 y → Rd s.1 y ∨ (y : Int) ∈ (orbT gens x s k).2) ∧ (∀ z ∈ s.2, z ∈ (orbT gens x s k).2) ∧ ∀ j, j < k → Rd (orbT gens x s k).1 ((gens.getD j []).getD x 0).toNat
  | 0, _ => ⟨fun y h => .inl h, fun z h => h, fun j hj => by omega⟩
  | k + 1, hk => by
    obtain ⟨i1, i2, i3⟩ := orbT_in hg hs hx hl k (by omega)
    have hT := orbT_ok hg hs hx hl k (by omega)
    have hgd : gens.getD k [] = gens[k] := getD_of (List.getElem?_eq_getElem (by omega))
    have hgk := hg _ (List.getElem_mem (l := gens) (n := k) (by omega))
    obtain ⟨s1, s2, s3⟩ := orbS_in hgk hT.1 hx
    have s4 := (orbS_ok hgk hT.1 hx hT.2.2).2.2
    unfold orbT
    rw [hgd]
    refine ⟨fun y h => ?_, fun z h => s2 z (i2 z h), fun j hj => ?_⟩
    · rcases s1 y h with h1 | h1
      · rcases i1 y h1 with h2 | h2
        · exact .inl h2
        · exact .inr (s2 _ h2)
      · exact .inr h1
    · rcases Nat.lt_or_ge j k with h1 | h1
      · obtain ⟨l, h2⟩ := i3 j h1
        exact ⟨l, s4 _ l h2⟩
      · have : j = k := by omega
        subst this
        rw [hgd]
        exact s3
theorem orbF_kept {n : Nat} {gens : List (List Int)} (hg : ∀ g ∈ gens, Pm g n) : ∀ f s, OrbOk n s → mesS s ≤ f → (∀ y, y < n → Rd s.1 y → (y : Int) ∈ s.2 ∨ ∀ g ∈ gens, Rd s.1 (g.getD y 0).toNat) → Kept gens n (Rd (orbF gens f s))
  | 0, (h, q), hs, hm, hc => fun g hg' y hy hr => by
    have : q = [] := by unfold mesS at hm; exact List.eq_nil_of_length_eq_zero (by dsimp only at hm; omega)
    subst this
    rcases hc y hy hr with h1 | h1
    · cases h1
    · exact h1 g hg'
  | f + 1, (h, []), hs, hm, hc => fun g hg' y hy hr => by
    rcases hc y hy hr with h1 | h1
    · cases h1
    · exact h1 g hg'
  | f + 1, (h, x :: q), hs, hm, hc => by
    obtain ⟨h0, h1, l, h2⟩ := hs.q x List.mem_cons_self
    have hs1 : OrbOk n (h, q) := ⟨hs.len, hs.pm, fun y hy => hs.q y (List.mem_cons_of_mem _ hy)⟩
    have hT := orbT_ok hg hs1 (x := x.toNat) (by omega) ⟨l, h2⟩ gens.length (Nat.le_refl _)
    have hI := orbT_in hg hs1 (x := x.toNat) (by omega) ⟨l, h2⟩ gens.length (Nat.le_refl _)
    have hK := orbT_keep hg hs1 (x := x.toNat) (by omega) ⟨l, h2⟩ gens.length (Nat.le_refl _)
    refine orbF_kept hg f _ hT.1 (Nat.le_trans hT.2.1 (by
      unfold mesS at hm ⊢
      simp only [List.length_cons] at hm ⊢
      omega)) ?_
    intro y hy hr
    by_cases hyx : y = x.toNat
    · right
      intro g hg'
      obtain ⟨j, hj, rfl⟩ := List.mem_iff_getElem.1 hg'
      have := hI.2.2 j hj
      rw [getD_of (List.getElem?_eq_getElem hj)] at this
      rw [hyx]
      exact this
    · rcases hI.1 y hr with h3 | h3
      · rcases hc y hy h3 with h4 | h4
        · rcases List.mem_cons.1 h4 with h5 | h5
          · omega
          · exact .inl (hI.2.1 _ h5)
        · right
          intro g hg'
          obtain ⟨l', h5⟩ := h4 g hg'
          exact ⟨l', hK _ l' h5⟩
      · exact .inl h3
theorem orbM_kept {n p : Nat} {gens : List (List Int)} (hg : ∀ g ∈ gens, Pm g n) (hp : p < n) : Kept gens n (Rd (orbM n p gens)) := by
  obtain ⟨h1, h2⟩ := orb0_ok hp
  refine orbF_kept hg _ _ h1 h2 fun y hy hr => .inl ?_
  obtain ⟨l, hl⟩ := hr
  by_cases e : p = y
  · subst e; exact List.mem_singleton.2 rfl
  · exfalso
    have : (orb0 n p)[y]? = some (some l) := hl
    unfold orb0 at this
    rw [List.getElem?_set_ne e] at this
    simp [List.getElem?_replicate] at this
def AutH (x : Inc) (p : Nat) (h : How) : Prop := ∀ (y : Nat) (l : List Int), h[y]? = some (some l) → Aut x l ∧ l.getD p 0 = (y : Int)
theorem orbS_aut {x : Inc} (hx : x.Fam) {p z : Nat} {g : List Int} {s : How × List Int} (hg : Aut x g) (hp : p < x.V) (hz : z < x.V) (hl : ∃ l, s.1[z]? = some (some l)) (h : AutH x p s.1) : AutH x p (orbS z g s).1 := by
  obtain ⟨l0, hl0⟩ := hl
  unfold orbS
  split
  · rename_i ho
    have hd : (s.1.getD z none).getD [] = l0 := by rw [getD_of hl0]; rfl
    rw [hd]
    intro y l hy
    dsimp only at hy
    by_cases e : (g.getD z 0).toNat = y
    · subst e
      have hlt : (g.getD z 0).toNat < s.1.length := by
        rcases Nat.lt_or_ge (g.getD z 0).toNat s.1.length with h1 | h1
        · exact h1
        · rw [List.getElem?_eq_none h1] at ho; cases ho
      rw [List.getElem?_set_self hlt] at hy
      cases hy
      obtain ⟨h1, h2⟩ := h z l0 hl0
      have h3 := pm_get hg.1 hz
      refine ⟨aut_mul hx h1 hg, ?_⟩
      rw [mul_get (by rw [h1.1.1]; omega), h2, Int.toNat_natCast]
      omega
    · rw [List.getElem?_set_ne e] at hy
      exact h y l hy
  · exact h
theorem orbT_aut {x : Inc} (hx : x.Fam) {p z : Nat} {gens : List (List Int)} {s : How × List Int} (hg : ∀ g ∈ gens, Aut x g) (hs : OrbOk x.V s) (hp : p < x.V) (hz : z < x.V) (hl : ∃ l, s.1[z]? = some (some l)) (h : AutH x p s.1) :
    ∀ k, k ≤ gens.length → AutH x p (orbT gens z s k).1
  | 0, _ => h
  | k + 1, hk => by
    have hgp : ∀ g ∈ gens, Pm g x.V := fun g h => (hg g h).1
    have hT := orbT_ok hgp hs hz hl k (by omega)
    have hgd : gens.getD k [] = gens[k] := getD_of (List.getElem?_eq_getElem (by omega))
    unfold orbT
    rw [hgd]
    exact orbS_aut hx (hg _ (List.getElem_mem _)) hp hz hT.2.2 (orbT_aut hx hg hs hp hz hl h k (by omega))
theorem orbF_aut {x : Inc} (hx : x.Fam) {p : Nat} {gens : List (List Int)} (hg : ∀ g ∈ gens, Aut x g) (hp : p < x.V) : ∀ f s, OrbOk x.V s → AutH x p s.1 → AutH x p (orbF gens f s)
  | 0, s, hs, h => h
  | f + 1, (h, []), hs, ha => ha
  | f + 1, (h, z :: q), hs, ha => by
    obtain ⟨h0, h1, l, h2⟩ := hs.q z List.mem_cons_self
    have hgp : ∀ g ∈ gens, Pm g x.V := fun g h => (hg g h).1
    have hs1 : OrbOk x.V (h, q) := ⟨hs.len, hs.pm, fun y hy => hs.q y (List.mem_cons_of_mem _ hy)⟩
    exact orbF_aut hx hg hp f _ (orbT_ok hgp hs1 (x := z.toNat) (by omega) ⟨l, h2⟩ gens.length (Nat.le_refl _)).1 (orbT_aut hx hg hs1 hp (by omega) ⟨l, h2⟩ ha gens.length (Nat.le_refl _))
theorem orbM_aut {x : Inc} (hx : x.Fam) {p : Nat} {gens : List (List Int)} (hg : ∀ g ∈ gens, Aut x g) (hp : p < x.V) : AutH x p (orbM x.V p gens) := by
  refine orbF_aut hx hg hp _ _ (orb0_ok hp).1 ?_
  intro y l hy
  have hy2 : (orb0 x.V p)[y]? = some (some l) := hy
  unfold orb0 at hy2
  by_cases e : p = y
  · subst e
    rw [List.getElem?_set_self (by simp; exact hp)] at hy2
    cases hy2
    exact ⟨aut_one hx, one_getD _ _ hp⟩
  · rw [List.getElem?_set_ne e] at hy2
    simp [List.getElem?_replicate] at hy2
def Rel (x : Inc) (p q : Nat) : Prop := ∃ a, Aut x a ∧ a.getD p 0 = (q : Int)
theorem rel_refl {x : Inc} (hx : x.Fam) {p : Nat} (hp : p < x.V) : Rel x p p := ⟨_, aut_one hx, one_getD _ _ hp⟩
theorem rel_trans {x : Inc} (hx : x.Fam) {p q r : Nat} (hp : p < x.V) (h : Rel x p q) (h' : Rel x q r) : Rel x p r := by
  obtain ⟨a, ha, e⟩ := h
  obtain ⟨b, hb, e'⟩ := h'
  exact ⟨_, aut_mul hx ha hb, by rw [mul_get (by rw [ha.1.1]; exact hp), e, Int.toNat_natCast, e']⟩
theorem rel_symm {x : Inc} (hx : x.Fam) {p q : Nat} (hp : p < x.V) (h : Rel x p q) : Rel x q p := by
  obtain ⟨a, ha, e⟩ := h
  obtain ⟨b, hb, e'⟩ := inv_ex ha.1
  refine ⟨b, aut_inv hx ha hb e', ?_⟩
  have : (mulI a b).getD p 0 = (p : Int) := by rw [e', one_getD _ _ hp]
  rwa [mul_get (by rw [ha.1.1]; exact hp), e, Int.toNat_natCast] at this
theorem orb_iff {x : Inc} (hx : x.Fam) {p q : Nat} (hp : p < x.V) (hq : q < x.V) : ((orbM x.V p (gensK x x.V)).getD q none).isSome = true ↔ Rel x p q := by
  have hga := gens_aut hx.v7 x.V (Nat.le_refl _)
  have hgp : ∀ g ∈ gensK x x.V, Pm g x.V := fun g h => (hga g h).1
  rw [rd_some]
  constructor
  · rintro ⟨l, hl⟩
    obtain ⟨h1, h2⟩ := orbM_aut hx hga hp q l hl
    exact ⟨l, h1, h2⟩
  · rintro ⟨a, ha, e⟩
    have h1 := kept_aut hx (orbM_kept hgp hp) x.V 0 a (by omega) ha (fun k hk => by omega) p hp ⟨_, (orbM_ok hgp hp).2.2⟩
    rw [e, Int.toNat_natCast] at h1
    exact h1
theorem lK_nd (h : How) : ∀ i, (lK h i).Nodup
  | 0 => List.nodup_nil
  | i + 1 => by
    have ih := lK_nd h i
    unfold lK
    split
    · refine List.nodup_append.2 ⟨ih, by simp, ?_⟩
      rintro a ha b hb rfl
      rw [List.mem_singleton.1 hb] at ha
      obtain ⟨j, h1, _, h2⟩ := (lK_mem h _ i).1 ha
      omega
    · exact ih
def clsL (x : Inc) (r : Nat) : List Int := lK (orbM x.V r (gensK x x.V)) x.V
theorem cls_mem {x : Inc} (hx : x.Fam) {r : Nat} (hr : r < x.V) (q : Int) : q ∈ clsL x r ↔ ∃ j : Nat, j < x.V ∧ Rel x r j ∧ (j : Int) = q := by
  unfold clsL
  rw [lK_mem]
  constructor
  · rintro ⟨j, h1, h2, h3⟩; exact ⟨j, h1, (orb_iff hx hr h1).1 h2, h3⟩
  · rintro ⟨j, h1, h2, h3⟩; exact ⟨j, h1, (orb_iff hx hr h1).2 h2, h3⟩
theorem doneK_get (h : How) (d : List Bool) (q : Nat) (hq : q < d.length) : ∀ i, ((doneK h d i).getD q false = true ↔ d.getD q false = true ∨ (q < i ∧ (h.getD q none).isSome = true))
  | 0 => by simp [doneK]
  | i + 1 => by
    have ih := doneK_get h d q hq i
    have hl := doneK_len h d i
    unfold doneK
    split
    · rename_i hs
      by_cases e : i = q
      · subst e
        simp only [List.getD]
        rw [List.getElem?_set_self (by omega)]
        simp only [List.getD] at hs
        simp [hs]
      · have : ((doneK h d i).set i true).getD q false = (doneK h d i).getD q false := by
          simp only [List.getD]; rw [List.getElem?_set_ne e]
        rw [this, ih]
        constructor
        · rintro (h1 | ⟨h1, h2⟩)
          · exact .inl h1
          · exact .inr ⟨by omega, h2⟩
        · rintro (h1 | ⟨h1, h2⟩)
          · exact .inl h1
          · exact .inr ⟨by omega, h2⟩
    · rename_i hs
      rw [ih]
      constructor
      · rintro (h1 | ⟨h1, h2⟩)
        · exact .inl h1
        · exact .inr ⟨by omega, h2⟩
      · rintro (h1 | ⟨h1, h2⟩)
        · exact .inl h1
        · refine .inr ⟨?_, h2⟩
          rcases Nat.lt_succ_iff_lt_or_eq.1 h1 with h3 | rfl
          · exact h3
          · exact absurd h2 hs
structure OrbsOk (x : Inc) (p : Nat) (s : List (List Int) × List Bool) : Prop where
  len : s.2.length = x.V
  cls : ∀ o ∈ s.1, ∃ r, r < p ∧ r < x.V ∧ o = clsL x r
  dj : s.1.Pairwise fun o o' => ∀ q ∈ o, q ∉ o'
  dn : ∀ q, q < x.V → (s.2.getD q false = true ↔ ∃ o ∈ s.1, (q : Int) ∈ o)
  all : ∀ q, q < p → s.2.getD q false = true
theorem orbsK_ok {x : Inc} (hx : x.Fam) : ∀ p, p ≤ x.V → OrbsOk x p (orbsK x.V (gensK x x.V) p)
  | 0, _ => by
    refine ⟨by simp [orbsK], fun o ho => (by cases ho), List.Pairwise.nil, fun q hq => ?_, fun q hq => by omega⟩
    simp [orbsK, List.getD, List.getElem?_replicate, hq]
  | p + 1, hp => by
    have ih := orbsK_ok hx p (by omega)
    unfold orbsK
    split
    · rename_i hd
      exact ⟨ih.len, fun o ho => by obtain ⟨r, h1, h2⟩ := ih.cls o ho; exact ⟨r, by omega, h2⟩, ih.dj, ih.dn, fun q hq => by
        rcases Nat.lt_succ_iff_lt_or_eq.1 hq with h | rfl
        · exact ih.all q h
        · exact hd⟩
    · rename_i hd
      have hpV : p < x.V := by omega
      have hnew : ∀ q, q < x.V → ((doneK (orbM x.V p (gensK x x.V)) (orbsK x.V (gensK x x.V) p).2 x.V).getD q false = true ↔ (orbsK x.V (gensK x x.V) p).2.getD q false = true ∨ Rel x p q) := fun q hq => by
        rw [doneK_get _ _ q (by rw [ih.len]; exact hq), orb_iff hx hpV hq]
        simp [hq]
      refine ⟨by rw [doneK_len]; exact ih.len, ?_, ?_, ?_, ?_⟩
      · intro o ho
        rcases List.mem_append.1 ho with h | h
        · obtain ⟨r, h1, h2⟩ := ih.cls o h; exact ⟨r, by omega, h2⟩
        · exact ⟨p, by omega, hpV, List.mem_singleton.1 h⟩
      · refine List.pairwise_append.2 ⟨ih.dj, by simp, ?_⟩
        intro o ho o' ho' q hq hq'
        rw [List.mem_singleton.1 ho'] at hq'
        obtain ⟨j, h1, h2, rfl⟩ := (cls_mem hx hpV q).1 hq'
        obtain ⟨r, h3, h4, rfl⟩ := ih.cls o ho
        obtain ⟨j', h5, h6, h7⟩ := (cls_mem hx h4 _).1 hq
        have : j' = j := by omega
        subst this
        refine hd ((ih.dn p hpV).2 ⟨_, ho, (cls_mem hx h4 _).2 ⟨p, hpV, ?_, rfl⟩⟩)
        exact rel_trans hx h4 h6 (rel_symm hx hpV h2)
      · intro q hq
        rw [hnew q hq, ih.dn q hq]
        constructor
        · rintro (⟨o, h1, h2⟩ | h1)
          · exact ⟨o, List.mem_append_left _ h1, h2⟩
          · exact ⟨_, List.mem_append_right _ (List.mem_singleton.2 rfl), (cls_mem hx hpV _).2 ⟨q, hq, h1, rfl⟩⟩
        · rintro ⟨o, h1, h2⟩
          rcases List.mem_append.1 h1 with h | h
          · exact .inl ⟨o, h, h2⟩
          · rw [List.mem_singleton.1 h] at h2
            obtain ⟨j, h3, h4, h5⟩ := (cls_mem hx hpV _).1 h2
            have : j = q := by omega
            subst this
            exact .inr h4
      · intro q hq
        rw [hnew q (by omega)]
        rcases Nat.lt_succ_iff_lt_or_eq.1 hq with h | rfl
        · exact .inl (ih.all q h)
        · exact .inr (rel_refl hx hpV)
theorem orbX_ok {x : Inc} (hx : x.Fam) : OrbsOk x x.V (orbsK x.V (gensK x x.V) x.V) := orbsK_ok hx x.V (Nat.le_refl _)
theorem orbX_cls {x : Inc} (hx : x.Fam) {o : List Int} (ho : o ∈ orbX x) : ∃ r, r < x.V ∧ o = clsL x r := by
  obtain ⟨r, _, h⟩ := (orbX_ok hx).cls o ho
  exact ⟨r, h⟩
theorem orbX_dj {x : Inc} (hx : x.Fam) : (orbX x).Pairwise fun o o' => ∀ q ∈ o, q ∉ o' := (orbX_ok hx).dj
theorem orbX_all {x : Inc} (hx : x.Fam) {q : Nat} (hq : q < x.V) : ∃ o ∈ orbX x, (q : Int) ∈ o := ((orbX_ok hx).dn q hq).1 ((orbX_ok hx).all q hq)
end Go.Proofs.YthfcfdlbnfcboaaDoor.Pw



set_option linter.unusedVariables false
set_option linter.unusedSimpArgs false
set_option maxHeartbeats 1000000
set_option maxRecDepth 10000
namespace Go.Proofs.YthfcfdlbnfcboaaDoor.Pw
open Go
def degN (B : List Nat) (p : Nat) : Nat := B.countP fun b => b.testBit p
theorem deg_rel {x : Inc} (hx : x.Fam) {p q : Nat} (hp : p < x.V) (h : Rel x p q) : degN x.B p = degN x.B q := by
  obtain ⟨a, ha, e⟩ := h
  have h1 := ((aut_iff hx).1 ha).2
  unfold degN
  rw [h1.countP_eq, List.countP_map]
  refine List.countP_congr fun b hb => ?_
  show (traceB a b).testBit p = true ↔ _
  rw [traceB_bit, e, ha.1.1, decide_eq_true hp, Bool.true_and, Int.toNat_natCast]
def delN (p s : Nat) : Nat := (s &&& (2 ^ p - 1)) ||| ((s >>> (p + 1)) <<< p)
def insQ (p q : Nat) : Nat := if q < p then q else q + 1
def delQ (p q : Nat) : Nat := if q < p then q else q - 1
theorem del_bit (p s q : Nat) : (delN p s).testBit q = s.testBit (insQ p q) := by
  unfold delN insQ
  rw [Nat.testBit_or, Nat.testBit_and, Nat.testBit_two_pow_sub_one, Nat.testBit_shiftLeft, Nat.testBit_shiftRight]
  by_cases h : q < p
  · rw [if_pos h, decide_eq_true h, decide_eq_false (show ¬ q ≥ p by omega)]
    simp
  · rw [if_neg h, decide_eq_false h, decide_eq_true (show q ≥ p by omega), show p + 1 + (q - p) = q + 1 by omega]
    simp
theorem ins_del {p q : Nat} (h : q ≠ p) : insQ p (delQ p q) = q := by
  unfold delQ
  by_cases h1 : q < p
  · rw [if_pos h1]; unfold insQ; rw [if_pos h1]
  · rw [if_neg h1]; unfold insQ; rw [if_neg (by omega)]; omega
theorem ins_inj {p q r : Nat} (h : insQ p q = insQ p r) : q = r := by
  unfold insQ at h
  split at h <;> split at h <;> omega
theorem ins_ne (p q : Nat) : insQ p q ≠ p := by
  unfold insQ
  split <;> omega
theorem ins_lt {p q V : Nat} (h : q < V - 1) (hp : p < V) : insQ p q < V := by unfold insQ; split <;> omega
theorem del_lt {p q V : Nat} (h : q < V) (hp : p < V) (hne : q ≠ p) : delQ p q < V - 1 := by unfold delQ; split <;> omega
theorem delN_lt {p s V : Nat} (hs : s < 2 ^ V) (hp : p < V) : delN p s < 2 ^ (V - 1) := by
  refine Nat.lt_pow_two_of_testBit _ fun q hq => ?_
  rw [del_bit]
  cases hb : s.testBit (insQ p q) with
  | false => rfl
  | true =>
    have := bits_lt hs hb
    unfold insQ at this
    split at this <;> omega
def derI (x : Inc) (p : Nat) : Inc := ⟨x.V - 1, sortL ((x.B.filter fun s => s.testBit p).map (delN p))⟩
theorem der_ok {x : Inc} (hx : x.Fam) {p : Nat} (hp : p < x.V) (h1 : 1 < x.V) : (derI x p).Ok := by
  have hv := hx.ok.v
  have hv7 := hx.v7
  refine ⟨by show 1 ≤ x.V - 1; omega, by show x.V - 1 ≤ 16; omega, fun b hb => ?_, ?_⟩
  · obtain ⟨s, hs, rfl⟩ := List.mem_map.1 ((sortL_perm _).mem_iff.1 hb)
    have h2 := delN_lt (hx.lt s (List.mem_filter.1 hs).1) hp
    have h3 : 2 ^ (x.V - 1) ≤ 2 ^ 7 := Nat.pow_le_pow_right (by decide) (by omega)
    unfold W64; omega
  · show (sortL _).length ≤ 12
    rw [(sortL_perm _).length_eq, List.length_map]
    have := List.length_filter_le (fun s => s.testBit p) x.B
    have := hx.ok.n
    omega
def derG (V o p : Nat) (a : List Int) : List Int := (List.range (V - 1)).map fun q => ((delQ p (a.getD (insQ o q) 0).toNat : Nat) : Int)
theorem derG_len (V o p : Nat) (a : List Int) : (derG V o p a).length = V - 1 := by simp [derG]
theorem derG_get {V o p : Nat} {a : List Int} {q : Nat} (h : q < V - 1) : (derG V o p a).getD q 0 = ((delQ p (a.getD (insQ o q) 0).toNat : Nat) : Int) := by
  unfold derG
  simp [List.getD, h]
theorem derG_ne {V o p : Nat} {a : List Int} (ha : Pm a V) (ho : o < V) (e : a.getD o 0 = (p : Int)) {q : Nat} (hq : q < V - 1) : (a.getD (insQ o q) 0).toNat ≠ p := by
  intro h
  have h1 := ins_lt hq ho
  have h2 := pm_get ha h1
  exact ins_ne o q (pm_eq ha h1 ho (by rw [e]; omega))
theorem derG_pm {V o p : Nat} {a : List Int} (ha : Pm a V) (ho : o < V) (hp : p < V) (e : a.getD o 0 = (p : Int)) : Pm (derG V o p a) (V - 1 : Nat) := by
  refine ⟨derG_len _ _ _ _, ?_, ?_⟩
  · intro z hz
    obtain ⟨q, hq, rfl⟩ := List.mem_map.1 hz
    have hq := List.mem_range.1 hq
    have h2 := pm_get ha (ins_lt hq ho)
    have := del_lt (V := V) (show (a.getD (insQ o q) 0).toNat < V by omega) hp (derG_ne ha ho e hq)
    omega
  · unfold derG
    refine (nd_map fun q hq r hr h => ?_).2 List.nodup_range
    have hq := List.mem_range.1 hq
    have hr := List.mem_range.1 hr
    have h1 : delQ p (a.getD (insQ o q) 0).toNat = delQ p (a.getD (insQ o r) 0).toNat := by
      omega
    have h2 : (a.getD (insQ o q) 0).toNat = (a.getD (insQ o r) 0).toNat := by
      rw [← ins_del (derG_ne ha ho e hq), h1, ins_del (derG_ne ha ho e hr)]
    have h3 := pm_get ha (ins_lt hq ho)
    have h4 := pm_get ha (ins_lt hr ho)
    exact ins_inj (pm_eq ha (ins_lt hq ho) (ins_lt hr ho) (by omega))
theorem der_iso {x : Inc} (hx : x.Fam) {o p : Nat} (ho : o < x.V) (hp : p < x.V) (h : Rel x o p) : ∃ g, Iso (derI x o) (derI x p) g := by
  obtain ⟨a, ha, e⟩ := h
  have hpm := derG_pm ha.1 ho hp e
  refine ⟨derG x.V o p a, hpm, rfl, ?_⟩
  have h1 := ((aut_iff hx).1 ha).2
  have hv := hx.v7
  unfold OkM2
  rw [derG_len]
  have hone : ∀ s, s < 2 ^ (x.V - 1) → traceB (oneI (x.V - 1)) s = s := fun s hs => by rw [trace_one, Nat.mod_eq_of_lt hs]
  have e1 : (((derI x o).B).map (traceB (oneI (x.V - 1)))).Perm (((x.B.map (traceB a)).filter fun s => s.testBit o).map (delN o)) := by
    have e2 : ((derI x o).B).Perm ((x.B.filter fun s => s.testBit o).map (delN o)) := sortL_perm _
    refine (e2.map _).trans ?_
    rw [List.map_map]
    have e3 : (x.B.filter fun s => s.testBit o).map (traceB (oneI (x.V - 1)) ∘ delN o) = (x.B.filter fun s => s.testBit o).map (delN o) :=
      List.map_congr_left fun s hs => hone _ (delN_lt (hx.lt s (List.mem_filter.1 hs).1) ho)
    rw [e3]
    exact (h1.filter _).map _
  have e4 : (((derI x p).B).map (traceB (derG x.V o p a))).Perm (((x.B.filter fun s => s.testBit p).map (delN p)).map (traceB (derG x.V o p a))) := (sortL_perm _).map _
  refine e1.trans ((List.Perm.of_eq ?_).trans e4.symm)
  rw [List.filter_map, List.map_map, List.map_map]
  have e5 : x.B.filter ((fun s => s.testBit o) ∘ traceB a) = x.B.filter fun s => s.testBit p := by
    refine List.filter_congr fun s _ => ?_
    show (traceB a s).testBit o = _
    rw [traceB_bit, e, ha.1.1, decide_eq_true ho, Bool.true_and, Int.toNat_natCast]
  rw [e5]
  refine List.map_congr_left fun s hs => ?_
  have hs2 := List.mem_filter.1 hs
  refine Nat.eq_of_testBit_eq fun q => ?_
  show (delN o (traceB a s)).testBit q = (traceB (derG x.V o p a) (delN p s)).testBit q
  rw [del_bit, traceB_bit, traceB_bit, del_bit, derG_len, ha.1.1]
  by_cases hq : q < x.V - 1
  · have h2 := ins_lt hq ho
    rw [derG_get hq, decide_eq_true hq, decide_eq_true h2, Int.toNat_natCast, ins_del (derG_ne ha.1 ho e hq)]
  · rw [decide_eq_false hq, Bool.false_and]
    have : ¬ insQ o q < x.V := by unfold insQ; split <;> omega
    rw [decide_eq_false this, Bool.false_and]
theorem der_map {x : Inc} (hx : x.Fam) {o p : Nat} (ho : o < x.V) (hp : p < x.V) (h : Rel x o p) : (mapN (derI x o) (derI x p) []).isSome = true := by
  obtain ⟨g, hg⟩ := der_iso hx ho hp h
  have hv := hx.v7
  have := look_ne2 (derI x o) (derI x p) (by show x.V - 1 ≤ 7; omega) g hg (x.V - 1) [] (by show 0 + (x.V - 1) = x.V - 1; omega) (by simp)
  unfold mapN
  rw [Option.isSome_iff_ne_none]
  exact this
theorem cls_dvd {x : Inc} (hx : x.Fam) {r : Nat} (hr : r < x.V) : ∃ c, ordK x x.V = c * (clsL x r).length := by
  rw [← autos_len hx]
  have hmem : ∀ q : Int, q ∈ clsL x r ↔ ∃ j : Nat, j < x.V ∧ Rel x r j ∧ (j : Int) = q := cls_mem hx hr
  have fibm : ∀ (q : Int) (a : List Int), a ∈ (autos x).filter (fun a => decide (a.getD r 0 = q)) ↔ Aut x a ∧ a.getD r 0 = q := fun q a => by
    rw [List.mem_filter, autos_mem hx, decide_eq_true_eq]
  have leq : ∀ (q q' : Int) (c : List Int), Aut x c → (∀ a, Aut x a → a.getD r 0 = q → (mulI a c).getD r 0 = q') → ((autos x).filter (fun a => decide (a.getD r 0 = q))).length ≤ ((autos x).filter (fun a => decide (a.getD r 0 = q'))).length := by
    intro q q' c hc hm
    have h1 := nd_le (((autos x).filter (fun a => decide (a.getD r 0 = q))).map (mulI · c)) ((autos x).filter (fun a => decide (a.getD r 0 = q'))) ((nd_map (fun u hu v hv e => mul_cancel ((fibm q u).1 hu).1.1 ((fibm q v).1 hv).1.1 hc.1 e)).2 ((autos_nodup x).filter _)) (by
      intro u hu
      obtain ⟨v, hv, rfl⟩ := List.mem_map.1 hu
      obtain ⟨h2, h3⟩ := (fibm q v).1 hv
      exact (fibm q' _).2 ⟨aut_mul hx h2 hc, hm v h2 h3⟩)
    rwa [List.length_map] at h1
  refine ⟨((autos x).filter (fun a => decide (a.getD r 0 = (r : Int)))).length, split_gen (fun a : List Int => a.getD r 0) _ (clsL x r) (autos x) (lK_nd _ _) ?_ ?_⟩
  · intro a ha
    have ha := (autos_mem hx a).1 ha
    have h1 := pm_get ha.1 hr
    exact (hmem _).2 ⟨(a.getD r 0).toNat, by omega, ⟨a, ha, by omega⟩, by omega⟩
  · intro q hq
    obtain ⟨j, hj, ⟨b, hb, e⟩, rfl⟩ := (hmem q).1 hq
    obtain ⟨h, hh, e2⟩ := inv_ex hb.1
    have e3 : (mulI b h).getD r 0 = (r : Int) := by rw [e2, one_getD _ _ hr]
    rw [mul_get (by rw [hb.1.1]; exact hr), e, Int.toNat_natCast] at e3
    refine Nat.le_antisymm (leq _ _ h (aut_inv hx hb hh e2) fun a ha h1 => ?_) (leq _ _ b hb fun a ha h1 => ?_)
    · rw [mul_get (by rw [ha.1.1]; exact hr), h1, Int.toNat_natCast, e3]
    · rw [mul_get (by rw [ha.1.1]; exact hr), h1, Int.toNat_natCast, e]
theorem cls_pos {x : Inc} (hx : x.Fam) {r : Nat} (hr : r < x.V) : 0 < (clsL x r).length :=
  List.length_pos_of_mem ((cls_mem hx hr r).2 ⟨r, hr, rel_refl hx hr, rfl⟩)
theorem cls_len {x : Inc} (hx : x.Fam) (r : Nat) : (clsL x r).length ≤ x.V := lK_len _ _
def ofS (o : List Int) (v : Int) (d : List Int) : Nat → List Int
  | 0 => d
  | k + 1 => (ofS o v d k).set (o.getD k 0).toNat v
def ofK (L : List (List Int)) (n : Nat) : Nat → List Int
  | 0 => List.replicate n 0
  | i + 1 => ofS (L.getD i []) ((i : Int) + 1) (ofK L n i) (L.getD i []).length
theorem ofS_len (o : List Int) (v : Int) (d : List Int) : ∀ k, (ofS o v d k).length = d.length
  | 0 => rfl
  | k + 1 => by simp [ofS, ofS_len o v d k]
theorem ofK_len (L : List (List Int)) (n : Nat) : ∀ i, (ofK L n i).length = n
  | 0 => by simp [ofK]
  | i + 1 => by rw [ofK, ofS_len, ofK_len L n i]
theorem ofS_no {o : List Int} {v : Int} {d : List Int} {q : Nat} : ∀ k, (∀ j, j < k → (o.getD j 0).toNat ≠ q) → (ofS o v d k).getD q 0 = d.getD q 0
  | 0, _ => rfl
  | k + 1, h => by
    have h0 := h k (by omega)
    rw [ofS]
    have e : ((ofS o v d k).set (o.getD k 0).toNat v).getD q 0 = (ofS o v d k).getD q 0 := by
      simp only [List.getD] at h0 ⊢
      rw [List.getElem?_set_ne h0]
    rw [e]
    exact ofS_no k fun j hj => h j (by omega)
theorem ofS_yes {o : List Int} {v : Int} {d : List Int} {q : Nat} (hq : q < d.length) : ∀ k, (∃ j, j < k ∧ (o.getD j 0).toNat = q) → (ofS o v d k).getD q 0 = v
  | 0, ⟨j, hj, _⟩ => by omega
  | k + 1, ⟨j, hj, e⟩ => by
    rw [ofS]
    simp only [List.getD]
    by_cases h : (o.getD k 0).toNat = q
    · simp only [List.getD] at h
      rw [h, List.getElem?_set_self (by rw [ofS_len]; exact hq)]
      rfl
    · have hj2 : j < k := by
        rcases Nat.lt_succ_iff_lt_or_eq.1 hj with h1 | rfl
        · exact h1
        · exact absurd e h
      simp only [List.getD] at h
      rw [List.getElem?_set_ne h]
      exact ofS_yes hq k ⟨j, hj2, e⟩
theorem ofK_no {L : List (List Int)} {n q : Nat} (hq : q < n) : ∀ i, (∀ i', i' < i → ∀ j, j < (L.getD i' []).length → ((L.getD i' []).getD j 0).toNat ≠ q) → (ofK L n i).getD q 0 = 0
  | 0, _ => by simp [ofK, List.getD, List.getElem?_replicate, hq]
  | i + 1, h => by
    rw [ofK, ofS_no _ (h i (by omega))]
    exact ofK_no hq i fun i' hi' => h i' (by omega)
theorem ofK_yes {L : List (List Int)} {n q t : Nat} (hq : q < n) (hin : ∃ j, j < (L.getD t []).length ∧ ((L.getD t []).getD j 0).toNat = q) : ∀ i, t < i → (∀ i', t < i' → i' < i → ∀ j, j < (L.getD i' []).length → ((L.getD i' []).getD j 0).toNat ≠ q) → (ofK L n i).getD q 0 = (t : Int) + 1
  | 0, h, _ => by omega
  | i + 1, h, hno => by
    rw [ofK]
    by_cases e : t = i
    · subst e
      exact ofS_yes (by rw [ofK_len]; exact hq) _ hin
    · rw [ofS_no _ (hno i (by omega) (by omega))]
      exact ofK_yes hq hin i (by omega) fun i' h1 h2 => hno i' h1 (by omega)
theorem orbX_get {x : Inc} (hx : x.Fam) {i : Nat} (hi : i < (orbX x).length) : ∃ r, r < x.V ∧ (orbX x)[i]? = some (clsL x r) ∧ (orbX x).getD i [] = clsL x r := by
  obtain ⟨r, h1, h2⟩ := orbX_cls hx (List.getElem_mem hi)
  exact ⟨r, h1, by rw [List.getElem?_eq_getElem hi, h2], by rw [getD_of (List.getElem?_eq_getElem hi), h2]⟩
theorem cls_get {x : Inc} (hx : x.Fam) {r k : Nat} (hr : r < x.V) (hk : k < (clsL x r).length) : ∃ p : Nat, p < x.V ∧ Rel x r p ∧ (clsL x r)[k]? = some (p : Int) ∧ (clsL x r).getD k 0 = (p : Int) := by
  obtain ⟨p, h1, h2, h3⟩ := (cls_mem hx hr _).1 (List.getElem_mem hk)
  exact ⟨p, h1, h2, by rw [List.getElem?_eq_getElem hk, h3], by rw [getD_of (List.getElem?_eq_getElem hk), h3]⟩
theorem cls_ne {x : Inc} (hx : x.Fam) {i i' : Nat} (hi : i < (orbX x).length) (hi' : i' < (orbX x).length) (hne : i ≠ i') {q : Int} (h : q ∈ (orbX x).getD i []) : q ∉ (orbX x).getD i' [] := by
  rw [getD_of (List.getElem?_eq_getElem hi)] at h
  rw [getD_of (List.getElem?_eq_getElem hi')]
  have hp := List.pairwise_iff_getElem.1 (orbX_dj hx)
  intro h'
  rcases Nat.lt_or_ge i i' with h1 | h1
  · exact hp i i' hi hi' h1 q h h'
  · exact hp i' i hi' hi (by omega) q h' h
theorem mark_no {x : Inc} (hx : x.Fam) {i k p : Nat} (hi : i < (orbX x).length) (hk : k < ((orbX x).getD i []).length) (hp : ((orbX x).getD i []).getD k 0 = (p : Int)) (hpV : p < x.V) :
    (ofS ((orbX x).getD i []) ((i : Int) + 1) (ofK (orbX x) x.V i) k).getD p 0 = 0 := by
  obtain ⟨r, hr, g1, g2⟩ := orbX_get hx hi
  have hpm : (p : Int) ∈ (orbX x).getD i [] := by rw [← hp]; simp only [List.getD] at hk ⊢; rw [List.getElem?_eq_getElem hk]; exact List.getElem_mem hk
  rw [ofS_no, ofK_no hpV]
  · intro i' hi' j hj e
    have hi2 : i' < (orbX x).length := by omega
    obtain ⟨r', hr', g1', g2'⟩ := orbX_get hx hi2
    rw [g2'] at hj e
    obtain ⟨p', h1, h2, h3, h4⟩ := cls_get hx hr' hj
    rw [h4, Int.toNat_natCast] at e
    subst e
    have : (p' : Int) ∈ (orbX x).getD i' [] := by rw [g2']; exact List.mem_of_getElem? h3
    exact cls_ne hx hi2 hi (by omega) this hpm
  · intro j hj e
    rw [g2] at hk hp e
    obtain ⟨p', h1, h2, h3, h4⟩ := cls_get hx hr (show j < (clsL x r).length by omega)
    rw [h4, Int.toNat_natCast] at e
    subst e
    have h5 : (clsL x r)[k]? = some (p' : Int) := by rw [List.getElem?_eq_getElem hk, ← hp, getD_of (List.getElem?_eq_getElem hk)]
    have := List.pairwise_iff_getElem.1 (lK_nd (orbM x.V r (gensK x x.V)) x.V) j k (show j < (clsL x r).length by omega) hk hj
    refine this ?_
    have e1 := (List.getElem?_eq_some_iff.1 h3).2
    have e2 := (List.getElem?_eq_some_iff.1 h5).2
    exact e1.trans e2.symm
theorem mark_yes {x : Inc} (hx : x.Fam) {p : Nat} (hp : p < x.V) : ∃ i, i < (orbX x).length ∧ (p : Int) ∈ (orbX x).getD i [] ∧ (ofK (orbX x) x.V (orbX x).length).getD p 0 = (i : Int) + 1 := by
  obtain ⟨o, ho, hpo⟩ := orbX_all hx hp
  obtain ⟨i, hi, rfl⟩ := List.mem_iff_getElem.1 ho
  have e : (orbX x).getD i [] = (orbX x)[i] := getD_of (List.getElem?_eq_getElem hi)
  refine ⟨i, hi, by rw [e]; exact hpo, ?_⟩
  obtain ⟨k, hk, e2⟩ := List.mem_iff_getElem.1 hpo
  refine ofK_yes hp ⟨k, by rw [e]; exact hk, ?_⟩ _ hi ?_
  · rw [e, getD_of (List.getElem?_eq_getElem hk), e2]; rfl
  · intro i' h1 h2 j hj e3
    obtain ⟨r', hr', g1', g2'⟩ := orbX_get hx h2
    rw [g2'] at hj e3
    obtain ⟨p', h3, h4, h5, h6⟩ := cls_get hx hr' hj
    rw [h6, Int.toNat_natCast] at e3
    subst e3
    have : (p' : Int) ∈ (orbX x).getD i' [] := by rw [g2']; exact List.mem_of_getElem? h5
    exact cls_ne hx h2 hi (by omega) this (by rw [e]; exact hpo)
theorem mark_aut {x : Inc} (hx : x.Fam) {p : Nat} (hp : p < x.V) {a : List Int} (ha : Aut x a) : (ofK (orbX x) x.V (orbX x).length).getD (a.getD p 0).toNat 0 = (ofK (orbX x) x.V (orbX x).length).getD p 0 := by
  have h1 := pm_get ha.1 hp
  obtain ⟨i, hi, hpi, e⟩ := mark_yes hx hp
  obtain ⟨i', hi', hpi', e'⟩ := mark_yes hx (p := (a.getD p 0).toNat) (by omega)
  obtain ⟨r, hr, g1, g2⟩ := orbX_get hx hi
  have h3 : (((a.getD p 0).toNat : Nat) : Int) ∈ (orbX x).getD i [] := by
    rw [g2] at hpi ⊢
    obtain ⟨j, j1, j2, j3⟩ := (cls_mem hx hr _).1 hpi
    have : j = p := by omega
    subst this
    exact (cls_mem hx hr _).2 ⟨(a.getD j 0).toNat, by omega, rel_trans hx hr j2 ⟨a, ha, by omega⟩, rfl⟩
  by_cases h : i = i'
  · subst h; rw [e, e']
  · exact absurd hpi' (cls_ne hx hi hi' h h3)
end Go.Proofs.YthfcfdlbnfcboaaDoor.Pw



set_option linter.unusedVariables false
set_option linter.unusedSimpArgs false
set_option maxHeartbeats 1000000
set_option maxRecDepth 10000
namespace Go.Proofs.YthfcfdlbnfcboaaDoor.Pw
open Go
def outB (p b : Nat) : Bool := !b.testBit p
def pt1F (p : Nat) : D := .func 81 [.ref .leaf (iD p), .ref .leaf (.bool true)]
theorem vPt1 (p b : Nat) (hb : W64 b) (hp : p < 64) : Val Tryd.prog 81 [sD b, .ref .leaf (iD p), .ref .leaf (.bool true)] (fun r => r = .bool (outB p b)) := by
  have hh := vHas b p hb hp
  have ht : tb b p = b.testBit p := by unfold tb; rfl
  rw [ht] at hh
  refine Val.ofV ?_
  refine hc_ofS (okc Tryd.f81.ntmps 0) (fn := Tryd.f81) (cd := _) rfl rfl rfl rfl rfl rfl (fun hbd => ?_)
  repeat' (
   conv => whnf
   first
   | ((with_reducible refine pcI ?_); refine Val.pure hh (ler _ _) rfl rfl ?_)
   | ((with_reducible apply drT 4); rfl))
  all_goals (conv => whnf)
  refine fC rfl (congrArg D.bool ?_)
  unfold outB
  cases b.testBit p <;> rfl
theorem vIdxU (p : Nat) (l : List Nat) (hw : Ws l) (hp : p < 64) (hl : l.length ≤ 1000000) : Val Tryd.prog 91 [setsD l, pt1F p] (fun r => r = .int .i64 (match l.findIdx? (outB p) with | some i => (i : Int) | none => -1)) := by
  have hl0 := setsL_len l
  refine Val.ofV ?_
  refine hc_ofS (okc Tryd.f91.ntmps 0) (fn := Tryd.f91) (cd := _) rfl rfl rfl rfl rfl rfl (fun hbd => ?_)
  all_goals (conv => whnf)
  refine lpX (X := Nat) (fun k => [(0, setsD l), (1, pt1F p), (7, iD (setsL l).length), (8, iD k)]) (fun _ => []) (fun k => k ≤ l.length ∧ ∀ i g, i < k → l[i]? = some g → outB p g = false) (fun k => l.length - k) ⟨_, nx0 0 (by repeat (first | exact trivial | refine se0 rfl ?_)) rfl (Nat.lt_succ_self _) ⟨Nat.zero_le _, by omega⟩⟩ ?_
  rintro k ⟨hk, he⟩
  rcases Nat.lt_or_ge k l.length with hlt | hge
  · obtain ⟨g, hg⟩ : ∃ g, l[k]? = some g := ⟨l[k], List.getElem?_eq_getElem hlt⟩
    have hgd : (setsL l)[k]? = some (sD g) := by simp [setsL, hg]
    have hb := vPt1 p g (Ws.get hg hw) hp
    cases hbd : outB p g with
    | true =>
      rw [hbd] at hb
      repeat' (
       conv => whnf
       first
       | ((with_reducible refine hcI ?_); refine Val.call hb (.refl _) (ler _ _) rfl ?_; rintro r rfl)
       | (with_reducible refine ⟨sD g, by first | exact hgd | (simpa using hgd), ?_⟩)
       | refine ifd (fun h => ?_) (fun h => ?_)
       | ((with_reducible apply ob); ((first | rfl | assumption | omega | (unfold maxLen2; omega) | (dsimp only; omega) | (simp only [LN]; omega) | (simp; done) | (simp; omega)))))
      all_goals (conv => whnf)
      · refine fC rfl (congrArg (D.int .i64) ?_)
        have e : l.findIdx? (outB p) = some k := List.findIdx?_eq_some_iff_getElem.2 ⟨hlt, by
          rw [List.getElem?_eq_getElem hlt] at hg; cases hg; exact hbd, fun j hj hc => by
          rw [he j l[j] hj (List.getElem?_eq_getElem (by omega))] at hc; cases hc⟩
        rw [e]
      · exact absurd hlt (by omega)
    | false =>
      rw [hbd] at hb
      repeat' (
       conv => whnf
       first
       | ((with_reducible refine hcI ?_); refine Val.call hb (.refl _) (ler _ _) rfl ?_; rintro r rfl)
       | (with_reducible refine ⟨sD g, by first | exact hgd | (simpa using hgd), ?_⟩)
       | refine ifd (fun h => ?_) (fun h => ?_)
       | with_reducible refine ivW (by omega) (by omega) ?_
       | ((with_reducible apply ob); ((first | rfl | assumption | omega | (unfold maxLen2; omega) | (dsimp only; omega) | (simp only [LN]; omega) | (simp; done) | (simp; omega)))))
      all_goals (conv => whnf)
      · exact nx0 (k + 1) (by repeat (first | exact trivial | refine se0 rfl ?_)) rfl (by omega) ⟨by omega, fun i g1 hi h1 => by
          rcases Nat.lt_succ_iff_lt_or_eq.1 hi with h2 | rfl
          · exact he i g1 h2 h1
          · rw [hg] at h1; cases h1; exact hbd⟩
      · exact absurd hlt (by omega)
  · repeat' (
     conv => whnf
     first
     | refine ifd (fun h => ?_) (fun h => ?_)
     | ((with_reducible refine exU (by omega) ?_); intro y hy; (try simp only [Int.toNat_natCast, Nat.zero_add] at hy); (try have hyr := hR _ (List.mem_of_getElem? hy)))
     | ((with_reducible apply ob); ((first | rfl | assumption | omega | (unfold maxLen2; omega) | (dsimp only; omega) | (simp only [LN]; omega) | (simp; done) | (simp; omega)))))
    all_goals (conv => whnf)
    · exact absurd h (by omega)
    · refine fC rfl (congrArg (D.int .i64) ?_)
      have e : l.findIdx? (outB p) = none := List.findIdx?_eq_none_iff.2 fun g hg => by
        obtain ⟨i, hi, rfl⟩ := List.getElem_of_mem hg
        exact he i _ (by omega) (List.getElem?_eq_getElem hi)
      rw [e]
def keepB (p : Nat) (l : List Nat) : List Nat := l.filter fun s => s.testBit p
theorem keep_snoc {p : Nat} {l : List Nat} {k b : Nat} (h : l[k]? = some b) : keepB p (l.take (k + 1)) = if outB p b = true then keepB p (l.take k) else keepB p (l.take k) ++ [b] := by
  unfold keepB outB
  rw [List.take_add_one, h, List.filter_append]
  cases hb : b.testBit p <;> simp [hb]
theorem keep_le (p : Nat) (l : List Nat) (k : Nat) : (keepB p (l.take k)).length ≤ k := by
  have := List.length_filter_le (fun s => s.testBit p) (l.take k)
  rw [List.length_take] at this
  unfold keepB; omega
theorem row_step {row l : List Nat} {i j b : Nat} (h1 : row.length = l.length) (h2 : row.drop j = l.drop j) (hij : i ≤ j) (hj : j < l.length) :
    (row.set i b).length = l.length ∧ (row.set i b).take (i + 1) = row.take i ++ [b] ∧ (row.set i b).drop (j + 1) = l.drop (j + 1) := by
  refine ⟨by simp [h1], ?_, ?_⟩
  · rw [List.take_add_one, List.getElem?_set_self (by omega), List.take_set_of_le (Nat.le_refl _)]
    rfl
  · rw [List.drop_set_of_lt (by omega), ← List.drop_drop, ← List.drop_drop, h2]
theorem hcDel (p : Nat) (l : List Nat) (hw : Ws l) (hp : p < 64) (hl : l.length ≤ 1000) : HC Tryd.prog 79 [.sl 0 0 l.length, pt1F p] [.row .leaf (setsL l)] (fun r H' => Fin (∃ Z, r = .sl 0 0 (keepB p l).length ∧ H' = [.row .leaf (setsL (keepB p l ++ Z))])) := by
  have hl0 := setsL_len l
  have hI := vIdxU p l hw hp (by omega)
  cases hf : l.findIdx? (outB p) with
  | none =>
    rw [hf] at hI
    dsimp only at hI
    refine hc_ofS (okc Tryd.f79.ntmps 1) (fn := Tryd.f79) (cd := _) rfl rfl rfl rfl rfl rfl (fun hbd => ?_)
    all_goals (conv => whnf)
    refine HC.borrow hI (.step 0 .leaf (setsL l) rfl (cl_sets _) (.refl _)) (.cons _ _ _ _ (leRow rfl hl0) (.cons _ _ _ _ (.refl _) .nil)) rfl ?_
    rintro r H0 ⟨rfl, _, rfl⟩
    refine ⟨rfl, ?_⟩
    have hk : keepB p l = l := List.filter_eq_self.2 fun b hb => by
      have := List.findIdx?_eq_none_iff.1 hf b hb
      simpa [outB] using this
    all_goals (conv => whnf)
    exact fin_in ⟨[], by rw [hk]; rfl, by rw [hk, List.append_nil]⟩
  | some i0 =>
    rw [hf] at hI
    dsimp only at hI
    refine hc_ofS (okc Tryd.f79.ntmps 1) (fn := Tryd.f79) (cd := _) rfl rfl rfl rfl rfl rfl (fun hbd => ?_)
    all_goals (conv => whnf)
    refine HC.borrow hI (.step 0 .leaf (setsL l) rfl (cl_sets _) (.refl _)) (.cons _ _ _ _ (leRow rfl hl0) (.cons _ _ _ _ (.refl _) .nil)) rfl ?_
    rintro r H0 ⟨rfl, _, rfl⟩
    refine ⟨rfl, ?_⟩
    obtain ⟨hi0, hi1, hi2⟩ := List.findIdx?_eq_some_iff_getElem.1 hf
    have hkt : keepB p (l.take i0) = l.take i0 := List.filter_eq_self.2 fun b hb => by
      obtain ⟨j, hj, rfl⟩ := List.mem_iff_getElem.1 hb
      rw [List.length_take] at hj
      have := hi2 j (by omega)
      rw [List.getElem_take]
      simpa [outB] using this
    have hk1 : keepB p (l.take (i0 + 1)) = l.take i0 := by rw [keep_snoc (List.getElem?_eq_getElem hi0), if_pos hi1, hkt]
    have hk1l : (keepB p (l.take (i0 + 1))).length = i0 := by rw [hk1, List.length_take]; omega
    repeat' (
     conv => whnf
     first
     | with_reducible refine ivW (by omega) (by omega) ?_)
    all_goals (conv => whnf)
    all_goals (first | (exfalso; omega) | skip)
    refine lpX (X := Nat × List Nat) (fun y => [(0, .sl 0 0 l.length), (1, pt1F p), (5, iD (keepB p (l.take y.1)).length), (6, iD y.1)]) (fun y => [.row .leaf (setsL y.2)]) (fun y => y.1 ≤ l.length ∧ y.2.length = l.length ∧ y.2.take (keepB p (l.take y.1)).length = keepB p (l.take y.1) ∧ y.2.drop y.1 = l.drop y.1) (fun y => l.length - y.1)
      ⟨_, nx0 (X := Nat × List Nat) (i0 + 1, l) (by repeat (first | exact trivial | refine se0 rfl ?_ | refine se0 (by rw [hk1l]; rfl) ?_)) rfl (Nat.lt_succ_self _) ⟨by dsimp only; omega, rfl, by dsimp only; rw [hk1l, hk1], rfl⟩⟩ ?_
    rintro ⟨j, row⟩ ⟨hj, hrl, hrt, hrd⟩
    dsimp only at hj hrl hrt hrd ⊢
    have hkle := keep_le p l j
    have hrl0 := setsL_len row
    rcases Nat.lt_or_ge j l.length with hjl | hjg
    · have hlj : l[j]? = some l[j] := List.getElem?_eq_getElem hjl
      have hrj : row[j]? = some l[j] := by
        have h1 : (row.drop j)[0]? = (l.drop j)[0]? := by rw [hrd]
        have h2 : row[j]? = l[j]? := by simpa using h1
        rw [h2, hlj]
      have hrj2 : (setsL row)[0 + ((j : Nat) : Int).toNat]? = some (sD l[j]) := by simp [setsL, hrj]
      have hb := vPt1 p l[j] (Ws.get hlj hw) hp
      have hks := keep_snoc (p := p) hlj
      cases hbd : outB p l[j] with
      | true =>
        rw [hbd] at hb hks
        rw [if_pos rfl] at hks
        repeat' (
         conv => whnf
         first
         | ((with_reducible refine hcI ?_); refine Val.call hb (.refl _) (ler _ _) rfl ?_; rintro r rfl)
         | (with_reducible refine ⟨sD l[j], hrj2, ?_⟩)
         | refine ifd (fun h => ?_) (fun h => ?_)
         | with_reducible refine ivW (by omega) (by omega) ?_
         | ((with_reducible apply ob); ((first | rfl | assumption | omega | (unfold maxLen2; omega) | (dsimp only; omega) | (simp only [LN]; omega) | (simp; done) | (simp; omega)))))
        all_goals (conv => whnf)
        all_goals (first | (exfalso; omega) | skip)
        exact nx0 (X := Nat × List Nat) (j + 1, row) (by rw [hks]; repeat (first | exact trivial | refine se0 rfl ?_)) rfl (by dsimp only; omega) ⟨by dsimp only; omega, hrl, by dsimp only; rw [hks]; exact hrt, by dsimp only; rw [← List.drop_drop, ← List.drop_drop, hrd]⟩
      | false =>
        rw [hbd] at hb hks
        rw [if_neg (by simp)] at hks
        obtain ⟨g1, g2, g3⟩ := row_step (b := l[j]) hrl hrd hkle hjl
        repeat' (
         conv => whnf
         first
         | ((with_reducible refine hcI ?_); refine Val.call hb (.refl _) (ler _ _) rfl ?_; rintro r rfl)
         | (with_reducible refine ⟨sD l[j], hrj2, ?_⟩)
         | refine ifd (fun h => ?_) (fun h => ?_)
         | with_reducible refine ivW (by omega) (by omega) ?_
         | ((with_reducible apply ob); ((first | rfl | assumption | omega | (unfold maxLen2; omega) | (dsimp only; omega) | (simp only [LN]; omega) | (simp; done) | (simp; omega)))))
        all_goals (conv => whnf)
        all_goals (first | (exfalso; omega) | skip)
        have hkl : (keepB p (l.take (j + 1))).length = (keepB p (l.take j)).length + 1 := by rw [hks]; simp
        refine nx0 (X := Nat × List Nat) (j + 1, row.set (keepB p (l.take j)).length l[j]) (by dsimp only; rw [hkl]; repeat (first | exact trivial | refine se0 rfl ?_)) ?_ (by dsimp only; omega) ⟨by dsimp only; omega, g1, by dsimp only; rw [hks, List.length_append, List.length_singleton, g2, hrt], g3⟩
        show [Ob.row Sh.leaf (setsL (row.set (keepB p (l.take j)).length l[j]))] = [Ob.row Sh.leaf ((setsL row).set (0 + (((keepB p (l.take j)).length : Nat) : Int).toNat) (sD l[j]))]
        simp [setsL, List.map_set]
    · have hjl : j = l.length := by omega
      subst hjl
      rw [List.take_length] at hrt hkle
      repeat' (
       conv => whnf
       first
       | refine ifd (fun h => ?_) (fun h => ?_)
       | ((with_reducible refine exU (by omega) ?_); intro y hy; (try simp only [Int.toNat_natCast, Nat.zero_add] at hy); (try have hyr := hR _ (List.mem_of_getElem? hy)))
       | ((with_reducible apply ob); ((first | rfl | assumption | omega | (unfold maxLen2; omega) | (dsimp only; omega) | (simp only [LN]; omega) | (simp; done) | (simp; omega)))))
      all_goals (conv => whnf)
      all_goals (first | (exfalso; omega) | skip)
      have hs : (setsL row).take (keepB p l).length = setsL (keepB p l) := by
        have := congrArg setsL hrt
        simpa [setsL, List.map_take] using this
      refine fin_in ⟨List.replicate (l.length - (keepB p l).length) 0 ++ row.drop ((keepB p l).length + (l.length - (keepB p l).length)), ?_, ?_⟩
      · rw [List.take_length]; simp [oneR]
      · rw [List.take_length]
        simp only [Int.toNat_natCast, Nat.zero_add]
        rw [hs]
        show [Ob.row Sh.leaf (setsL (keepB p l) ++ (List.replicate (l.length - (keepB p l).length) (.int .u64 0) ++ List.drop ((keepB p l).length + (l.length - (keepB p l).length)) (setsL row)))] = _
        simp [setsL, sD]
theorem hcDel0 (p : Nat) (hp : p < 64) : HC Tryd.prog 79 [.nils, pt1F p] [] (fun r H' => Fin (r = .nils ∧ H' = [])) := by
  have hI := vIdxU p [] (fun x hx => by cases hx) hp (by simp)
  refine hc_ofS (okc Tryd.f79.ntmps 0) (fn := Tryd.f79) (cd := _) rfl rfl rfl rfl rfl rfl (fun hbd => ?_)
  all_goals (conv => whnf)
  refine HC.borrow hI (.refl _) (.cons _ _ _ _ (.nils _) (.cons _ _ _ _ (.refl _) .nil)) rfl ?_
  rintro r H0 ⟨rfl, _, rfl⟩
  refine ⟨rfl, ?_⟩
  all_goals (conv => whnf)
  exact fin_in ⟨rfl, rfl⟩
theorem hcCloneU (l : List Nat) (hl : l.length ≤ 1000000) : HC Tryd.prog 80 [setsD l] [] (fun r H' => Fin ((r = .nils ∧ H' = [] ∧ l = []) ∨ (r = .sl 1 0 l.length ∧ H' = [.dead, .row .leaf (setsL l)]))) := by
  have hl0 := setsL_len l
  refine hc_ofS (okc Tryd.f80.ntmps 0) (fn := Tryd.f80) (cd := _) rfl rfl rfl rfl rfl rfl (fun hbd => ?_)
  repeat' (
   conv => whnf
   first
   | ((with_reducible refine nilBo (fun hnil => ?_) ?_))
   | ((with_reducible apply ob); ((first | rfl | assumption | omega | (unfold maxLen2; omega) | (dsimp only; omega) | (simp only [LN]; omega) | (simp; done) | (simp; omega)))))
  all_goals (conv => whnf)
  · exact fin_in (.inl ⟨rfl, rfl, by simpa [setsL] using hnil⟩)
  · refine fin_in (.inr ⟨?_, rfl⟩)
    show D.sl (0 + 1) 0 (0 + (setsL l).length) = _
    rw [hl0, Nat.zero_add, Nat.zero_add]
theorem delN_w {p s : Nat} (hs : W64 s) : W64 (delN p s) := by
  unfold W64 at *
  refine Nat.lt_pow_two_of_testBit (n := 64) _ fun q hq => ?_
  rw [del_bit]
  cases hb : s.testBit (insQ p q) with
  | false => rfl
  | true =>
    have := bits_lt (V := 64) hs hb
    unfold insQ at this
    split at this <;> omega
theorem vPt2 (p s : Nat) (hs : W64 s) (hp : p ≤ 62) : Val Tryd.prog 83 [sD s, .ref .leaf (iD p)] (fun r => r = sD (delN p s)) := by
  have hF := vFull p (by omega)
  have hf : W64 (2 ^ p - 1) := by
    unfold W64
    have := Nat.pow_le_pow_right (n := 2) (by omega) (show p ≤ 63 by omega)
    omega
  have hsh : W64 ((s >>> (p + 1)) <<< p) := by
    unfold W64 at hs ⊢
    rw [Nat.shiftRight_eq_div_pow, Nat.shiftLeft_eq]
    have h1 : s / 2 ^ (p + 1) * 2 ^ p ≤ s / 2 ^ (p + 1) * 2 ^ (p + 1) := Nat.mul_le_mul_left _ (Nat.pow_le_pow_right (by omega) (by omega))
    have h2 := Nat.div_mul_le_self s (2 ^ (p + 1))
    omega
  refine Val.ofV ?_
  refine hc_ofS (okc Tryd.f83.ntmps 0) (fn := Tryd.f83) (cd := _) rfl rfl rfl rfl rfl rfl (fun hbd => ?_)
  repeat' (
   conv => whnf
   first
   | ((with_reducible refine pcI ?_); refine Val.pure hF (ler _ _) rfl rfl ?_)
   | with_reducible refine ivW (by omega) (by omega) ?_
   | ((with_reducible apply ivAnd); (rfl); (rfl); (focus ((repeat' (first | assumption | (exact hW _) | (unfold W64; first | omega | decide) | (exact Ws.get (by assumption) (by assumption)) | (exact wOne (by omega)) | (exact bit1_w (by omega)) | (exact wXorAnd (by assumption)) | (exact wSub (by assumption)) | apply wOr | (apply wAnd; assumption) | (apply wAnd2; assumption) | apply wShr)) <;> fail)); (focus ((repeat' (first | assumption | (exact hW _) | (unfold W64; first | omega | decide) | (exact Ws.get (by assumption) (by assumption)) | (exact wOne (by omega)) | (exact bit1_w (by omega)) | (exact wXorAnd (by assumption)) | (exact wSub (by assumption)) | apply wOr | (apply wAnd; assumption) | (apply wAnd2; assumption) | apply wShr)) <;> fail)))
   | ((with_reducible apply ivOr); (rfl); (rfl); (focus ((repeat' (first | assumption | (exact hW _) | (unfold W64; first | omega | decide) | (exact Ws.get (by assumption) (by assumption)) | (exact wOne (by omega)) | (exact bit1_w (by omega)) | (exact wXorAnd (by assumption)) | (exact wSub (by assumption)) | apply wOr | (apply wAnd; assumption) | (apply wAnd2; assumption) | apply wShr)) <;> fail)); (focus ((repeat' (first | assumption | (exact hW _) | (unfold W64; first | omega | decide) | (exact Ws.get (by assumption) (by assumption)) | (exact wOne (by omega)) | (exact bit1_w (by omega)) | (exact wXorAnd (by assumption)) | (exact wSub (by assumption)) | apply wOr | (apply wAnd; assumption) | (apply wAnd2; assumption) | apply wShr)) <;> fail)))
   | ((with_reducible apply ivShl); (rfl); (rfl); (omega); (focus ((repeat' (first | assumption | (exact hW _) | (unfold W64; first | omega | decide) | (exact Ws.get (by assumption) (by assumption)) | (exact wOne (by omega)) | (exact bit1_w (by omega)) | (exact wXorAnd (by assumption)) | (exact wSub (by assumption)) | apply wOr | (apply wAnd; assumption) | (apply wAnd2; assumption) | apply wShr)) <;> fail)))
   | ((with_reducible apply ivShrI); (rfl); (omega); (omega))
   | ((with_reducible apply drT 10); rfl)
   | ((with_reducible apply ob); ((first | rfl | assumption | omega | (unfold maxLen2; omega) | (dsimp only; omega) | (simp only [LN]; omega) | (simp; done) | (simp; omega)))))
  all_goals (conv => whnf)
  refine fC rfl ?_
  have e : ((p : Int) + 1).toNat = p + 1 := by omega
  rw [e]
  rfl
def delB (p : Nat) (l : List Nat) : List Nat := l.map (delN p)
theorem vMadeP (v p : Nat) (l : List Nat) (hl : Ws l) (hll : l.length ≤ 12) (hp : p ≤ 62) :
    Val Tryd.prog 56 [iD v, setsD l, .func 83 [.ref .leaf (iD p)]] (fun r => r = (Inc.mk v (sortL (delB p l))).D) := by
  have hl0 := setsL_len l
  refine Val.ofV ?_
  refine hc_ofS (okc Tryd.f56.ntmps 0) (fn := Tryd.f56) (cd := _) rfl rfl rfl rfl rfl rfl (fun hbd => ?_)
  all_goals (conv => whnf)
  refine lpX (X := Nat) (fun k => [(2, .func 83 [.ref .leaf (iD p)]), (6, .ptr 0 []), (7, .ptr 1 []), (12, setsD l), (13, iD (setsL l).length), (14, iD k)]) (fun k => [.var (.agg [.int .i64 0, .nils]), .var (.agg [iD v, accD 2 k])] ++ accO .leaf (fun k => setsL (delB p (l.take k))) k) (fun k => k ≤ l.length) (fun k => l.length - k) ⟨_, nx (ρ := [0, 1]) 0 (by repeat (first | exact trivial | refine seC rfl rfl ?_ | refine seL (leRow rfl rfl) rfl ?_)) (by repeat (first | exact trivial | refine shC rfl rfl ?_)) rfl rfl (Nat.lt_succ_self _) (Nat.zero_le _)⟩ ?_
  intro k hk
  have hW : ∀ y, W64 y → W64 (delN p y) := fun y hy => delN_w hy
  cases k with
  | zero =>
    repeat' (
     conv => whnf
     first
     | refine ifd (fun h => ?_) (fun h => ?_)
     | with_reducible refine ivW (by omega) (by omega) ?_
     | ((with_reducible refine exU (by omega) ?_); intro y hy; (try simp only [Int.toNat_natCast, Nat.zero_add] at hy); (try have hyr := hR _ (List.mem_of_getElem? hy)))
     | ((with_reducible refine pcI ?_); refine Val.pure (vPt2 p _ (Ws.get (by assumption) hl) hp) (ler _ _) rfl rfl ?_)
     | ((with_reducible apply drT 6); rfl)
     | ((with_reducible apply ob); ((first | rfl | assumption | omega | (unfold maxLen2; omega) | (dsimp only; omega) | (simp only [LN]; omega) | (simp; done) | (simp; omega)))))
    all_goals (conv => whnf)
    · exact nx 1 [0, 1, 3] (by repeat (first | exact trivial | refine seC rfl rfl ?_ | refine seL (leRow rfl rfl) rfl ?_)) (shC rfl rfl (shC rfl rfl (shR rfl (by simp [setsL, sD, delB, List.take_add_one, hy]) (cl_sets _) trivial))) rfl rfl (by omega) (by omega)
    · refine HC.val hcSort0 (.refl _) (ler _ _) rfl ?_
      intro r H' hq
      obtain ⟨rfl, rfl⟩ := fin_out hq
      refine ⟨rfl, rfl, ?_⟩
      conv => whnf
      have hB1 : l = [] := List.length_eq_zero_iff.1 (by omega)
      exact fin_in ⟨_, .agg [iD v, setsD []], .refl _, .agg _ _ (.cons _ _ _ _ (.refl _) (.cons _ _ _ _ (.nils _) .nil)) rfl, rfl, by rw [hB1]; rfl⟩
  | succ k =>
    have hmk : (setsL (delB p (l.take (k + 1)))).length = k + 1 := by simp [delB]; omega
    repeat' (
     conv => whnf
     first
     | refine ifd (fun h => ?_) (fun h => ?_)
     | with_reducible refine ivW (by omega) (by omega) ?_
     | ((with_reducible refine exU (by omega) ?_); intro y hy; (try simp only [Int.toNat_natCast, Nat.zero_add] at hy); (try have hyr := hR _ (List.mem_of_getElem? hy)))
     | ((with_reducible refine pcI ?_); refine Val.pure (vPt2 p _ (Ws.get (by assumption) hl) hp) (ler _ _) rfl rfl ?_)
     | ((with_reducible apply drT 6); rfl)
     | ((with_reducible apply ob); ((first | rfl | assumption | omega | (unfold maxLen2; omega) | (dsimp only; omega) | (simp only [LN]; omega) | (simp; done) | (simp; omega)))))
    all_goals (conv => whnf)
    · exact nx (k + 1 + 1) [0, 1, 4] (by repeat (first | exact trivial | refine seC rfl rfl ?_ | refine seL (leRow rfl rfl) rfl ?_)) (shC rfl rfl (shC rfl rfl (shR rfl (by show _ = setsL (delB p (l.take (k + 1 + 1))); rw [List.take_add_one (i := k + 1) (l := l), hy, List.take_of_length_le (by rw [List.drop_zero, hmk]; omega)]; simp [setsL, sD, delB]) (cl_sets _) trivial))) rfl rfl (by omega) (by omega)
    · have hmk2 : (delB p (l.take (k + 1))).length = k + 1 := by rw [← setsL_len]; exact hmk
      have hs := hcSort (delB p (l.take (k + 1))) (by omega)
      rw [hmk2] at hs
      refine rowCall 2 hs rfl (cl_sets _) (cl_sets _) rfl rfl ?_
      conv => whnf
      have hB1 : k + 1 = l.length := by omega
      have hs2 : sortL (delB p (l.take (k + 1))) = sortL (delB p l) := by rw [hB1, List.take_length]
      refine fin_in ⟨_, .agg [iD v, setsD (sortL (delB p (l.take (k + 1))))], .step 2 .leaf _ rfl (cl_sets _) (.refl _), .agg _ _ (.cons _ _ _ _ (.refl _) (.cons _ _ _ _ (leRow rfl ?_) .nil)) rfl, ?_, ?_⟩
      · rw [setsL_len, (sortL_perm _).length_eq, hmk2]
      · simp [clD, clDs, setsD, cl_sets]; rfl
      · rw [hs2]; rfl
theorem vPart (x : Inc) (p : Nat) (hV1 : 1 < x.V) (hV : x.V ≤ 16) (hB : Ws x.B) (hBl : x.B.length ≤ 12) (hp : p < x.V) : Val Tryd.prog 62 [x.D, iD p, .bool true] (fun r => r = .tuple [(derI x p).D, .int .i64 0]) := by
  have hC := hcCloneU x.B (by omega)
  have hkw : Ws (keepB p x.B) := fun s hs => hB s (List.mem_filter.1 hs).1
  have hkl : (keepB p x.B).length ≤ 12 := Nat.le_trans (List.length_filter_le _ _) hBl
  have hM := vMadeP (x.V - 1) p (keepB p x.B) hkw hkl (by omega)
  have ev : iD (x.V - 1) = .int .i64 ((x.V : Int) - 1) := by unfold iD; congr 1; omega
  rw [ev] at hM
  have hD := hcDel p x.B hB (by omega) (by omega)
  have hD0 := hcDel0 p (by omega)
  refine Val.ofV ?_
  refine hc_ofS (okc Tryd.f62.ntmps 0) (fn := Tryd.f62) (cd := _) rfl rfl rfl rfl rfl rfl (fun hbd => ?_)
  repeat' (
   conv => whnf
   first
   | refine ifd (fun h => ?_) (fun h => ?_))
  all_goals (conv => whnf)
  all_goals (first | (exfalso; omega) | skip)
  refine hcNorm [.var x.D, .var (iD p), .var (.bool true), .var (.agg [.int .i64 0, .nils])] rfl ?_
  refine HC.frame [] hC (.refl _) trivial rfl (by simp) (ler _ _) rfl ?_
  intro r H0 hq _
  rcases fin_out hq with ⟨rfl, rfl, hnil⟩ | ⟨rfl, rfl⟩
  · have hkn : keepB p x.B = [] := by rw [hnil]; rfl
    rw [hkn] at hM
    all_goals (conv => whnf)
    refine hcNorm [.var x.D, .var (iD p), .var (.bool true), .var (.agg [.int .i64 0, .nils])] rfl ?_
    refine HC.frame [] hD0 (.fvar 1 (iD p) rfl rfl (.fvar 2 (.bool true) rfl rfl (.refl _))) trivial rfl (by simp) (.cons _ _ _ _ (.refl _) (.cons _ _ _ _ (.func _ _ _ (.cons _ _ _ _ (show LeD _ (.ref (shape (iD p)) (iD p)) (.ptr 1 []) from .fvar 1 _ rfl) (.cons _ _ _ _ (show LeD _ (.ref (shape (.bool true)) (.bool true)) (.ptr 2 []) from .fvar 2 _ rfl) .nil))) .nil)) rfl ?_
    intro r H0 hq _
    obtain ⟨rfl, rfl⟩ := fin_out hq
    repeat' (
     conv => whnf
     first
     | with_reducible refine ivW (by omega) (by omega) ?_)
    all_goals (conv => whnf)
    refine hcNorm [.var x.D, .fvar (iD p), .fvar (.bool true), .var (.agg [.int .i64 0, .nils])] rfl ?_
    refine Val.call hM (.refl _) (.cons _ _ _ _ (.refl _) (.cons _ _ _ _ (.nils _) (.cons _ _ _ _ (.func _ _ _ (.cons _ _ _ _ (show LeD _ (.ref (shape (iD p)) (iD p)) (.ptr 1 []) from .fvar 1 _ rfl) .nil)) .nil))) rfl ?_
    rintro r rfl
    all_goals (conv => whnf)
    exact fC rfl (by unfold derI; rw [show (x.B.filter fun s => s.testBit p) = [] from hkn]; rfl)
  · all_goals (conv => whnf)
    refine hcNorm [.var x.D, .var (iD p), .var (.bool true), .var (.agg [.int .i64 0, .nils]), .dead, .row .leaf (setsL x.B)] (by show [_, _, _, _, Ob.dead, Ob.row .leaf (renDs [4, 5] (setsL x.B))] = _; rw [ren_cls _ _ (cl_sets _)]) ?_
    refine HC.frame [5] hD (.fvar 1 (iD p) rfl rfl (.fvar 2 (.bool true) rfl rfl (.refl _))) (shR rfl rfl (cl_sets _) trivial) rfl (by simp) (.cons _ _ _ _ (.refl _) (.cons _ _ _ _ (.func _ _ _ (.cons _ _ _ _ (show LeD _ (.ref (shape (iD p)) (iD p)) (.ptr 1 []) from .fvar 1 _ rfl) (.cons _ _ _ _ (show LeD _ (.ref (shape (.bool true)) (.bool true)) (.ptr 2 []) from .fvar 2 _ rfl) .nil))) .nil)) rfl ?_
    intro r H0 hq _
    obtain ⟨Z, rfl, rfl⟩ := fin_out hq
    have e5 : renDs [5] (setsL (keepB p x.B ++ Z)) = setsL (keepB p x.B ++ Z) := ren_cls _ _ (cl_sets _)
    repeat' (
     conv => whnf
     first
     | with_reducible refine ivW (by omega) (by omega) ?_)
    all_goals (conv => whnf)
    refine hcNorm [.var x.D, .fvar (iD p), .fvar (.bool true), .var (.agg [.int .i64 0, .nils]), .dead, .row .leaf (setsL (keepB p x.B ++ Z))] (by show [_, _, _, _, _, Ob.row .leaf (renDs [5] (setsL (keepB p x.B ++ Z)))] = _; rw [e5]) ?_
    refine Val.call hM (.step 5 .leaf (setsL (keepB p x.B ++ Z)) rfl (cl_sets _) (.refl _)) (.cons _ _ _ _ (.refl _) (.cons _ _ _ _ (leCut rfl (by simp) (by simp [setsL])) (.cons _ _ _ _ (.func _ _ _ (.cons _ _ _ _ (show LeD _ (.ref (shape (iD p)) (iD p)) (.ptr 1 []) from .fvar 1 _ rfl) .nil)) .nil))) rfl ?_
    rintro r rfl
    all_goals (conv => whnf)
    exact fC rfl rfl
theorem vDerived (x : Inc) (p : Nat) (hV1 : 1 < x.V) (hV : x.V ≤ 16) (hB : Ws x.B) (hBl : x.B.length ≤ 12) (hp : p < x.V) : Val Tryd.prog 31 [x.D, iD p] (fun r => r = .tuple [(derI x p).D, .int .i64 0]) := by
  have h := vPart x p hV1 hV hB hBl hp
  refine Val.ofV ?_
  refine hc_ofS (okc Tryd.f31.ntmps 0) (fn := Tryd.f31) (cd := _) rfl rfl rfl rfl rfl rfl (fun hbd => ?_)
  repeat' (
   conv => whnf
   first
   | ((with_reducible refine hcI ?_); refine Val.call h (.refl _) (ler _ _) rfl ?_; rintro r rfl))
  all_goals (conv => whnf)
  exact fC rfl rfl
end Go.Proofs.YthfcfdlbnfcboaaDoor.Pw



set_option linter.unusedVariables false
set_option linter.unusedSimpArgs false
set_option maxHeartbeats 4000000
set_option maxRecDepth 10000
namespace Go.Proofs.YthfcfdlbnfcboaaDoor.Pw
open Go
theorem exl4 {α : Type} {l : List α} (h : l.length = 4) : ∃ o0 o1 o2 o3, l = [o0, o1, o2, o3] := by
  match l, h with
  | [a, b, c, d], _ => exact ⟨a, b, c, d, rfl⟩
theorem itPts4 (s : Nat) (hs : W64 s) (g : Nat) (hg : g < 4) (J : Nat → List Ob → Prop) (Q : D → List Ob → Prop)
    (hJ : ∀ k H, J k H → ∃ o0 o1 o2 o3, H = [o0, o1, o2, o3] ∧ ∀ o ∈ H, inO 4 o = true)
    (hyl : ∀ k p H, J k H → (bitsL s)[k]? = some p → YC Tryd.prog g [iD p] H (fun r H' => Fin (H'.length = 4 ∧ (∀ o ∈ H', inO 4 o = true) ∧ ((r = .bool true ∧ J (k + 1) H') ∨ (r = .bool false ∧ Q (.tuple []) H')))))
    (hend : ∀ H, J (bitsL s).length H → Q (.tuple []) H) (H0 : List Ob) (h0 : J 0 H0) :
    HC Tryd.prog 61 [sD s, .yld g] H0 Q := by
  obtain ⟨o0, o1, o2, o3, rfl, hin⟩ := hJ 0 H0 h0
  refine HC.view (Q0 := fun r H' => Fin (∃ Hc Y, H' = Hc ++ Y ∧ Hc.length = 4 ∧ (∀ o ∈ Hc, inO 4 o = true) ∧ r = .tuple [] ∧ Q r Hc)) ?_ ?_
  · refine hc_ofS (okc Tryd.f61.ntmps 4) (fn := Tryd.f61) (cd := _) rfl rfl rfl rfl rfl rfl (fun hbd => ?_)
    all_goals (conv => whnf)
    refine lpX (X := Nat × Nat × List Ob) (fun x => [(1, .yld g), (4, sD x.2.1)]) (fun x => x.2.2) (fun x => W64 x.2.1 ∧ bitsL x.2.1 = (bitsL s).drop x.1 ∧ J x.1 x.2.2 ∧ x.1 ≤ (bitsL s).length) (fun x => (bitsL x.2.1).length) ⟨_, nx0 (0, s, [o0, o1, o2, o3]) (by repeat (first | exact trivial | refine se0 rfl ?_)) rfl (Nat.lt_succ_self _) ⟨hs, rfl, h0, Nat.zero_le _⟩⟩ ?_
    rintro ⟨j, x, Hc⟩ ⟨hx, hb, hj, hjle⟩
    dsimp only at hx hb hj hjle ⊢
    clear hin h0
    obtain ⟨o0, o1, o2, o3, rfl, hin⟩ := hJ _ _ hj
    cases hbx : bitsL x with
    | nil =>
      have hx0 := bitsL_nil hx hbx
      subst hx0
      conv => whnf
      rw [hbx] at hb
      have hjl : j = (bitsL s).length := by
        have := congrArg List.length hb
        rw [List.length_drop] at this
        simp only [List.length_nil] at this
        omega
      exact fin_in ⟨[o0, o1, o2, o3], [], rfl, rfl, hin, rfl, hend _ (hjl ▸ hj)⟩
    | cons i t =>
      obtain ⟨hi, hlow, hpred, hi64⟩ := bitsL_cons hbx
      have hx1 : 1 ≤ x := by
        rcases Nat.eq_zero_or_pos x with e | e
        · rw [e] at hi; simp at hi
        · exact e
      have hjl : j < (bitsL s).length := by
        have := congrArg List.length hb
        rw [hbx, List.length_drop] at this
        simp only [List.length_cons] at this
        omega
      rw [hbx] at hb
      have hji : (bitsL s)[j]? = some i := by
        have := congrArg (fun l => l[0]?) hb
        simpa [List.getElem?_drop] using this.symm
      have hjt : t = (bitsL s).drop (j + 1) := by
        have := congrArg List.tail hb
        simpa using this
      repeat' (
       conv => whnf
       first
       | refine ifn (fun h => ?_) (fun h => ?_)
       | ((with_reducible refine hcI ?_); refine Val.call (vTz x i hx hi hlow) (.refl _) (ler _ _) rfl ?_; rintro r rfl)
       | refine nfI ?_)
      all_goals (conv => whnf)
      · refine yldCall (Hc := [o0, o1, o2, o3]) (Y := []) (Y1 := []) (hyl j i _ hj hji) hg (.refl _) hin (ler _ _) rfl ?_
        intro r H' hq
        obtain ⟨hl', hin', hcase⟩ := fin_out hq
        refine ⟨hl', hin', by rcases hcase with ⟨rfl, _⟩ | ⟨rfl, _⟩ <;> rfl, ?_⟩
        rcases hcase with ⟨rfl, hJ'⟩ | ⟨rfl, hQ'⟩
        · clear hin hj
          obtain ⟨o0, o1, o2, o3, rfl, hin⟩ := hJ _ _ hJ'
          repeat' (
           conv => whnf
           first
           | ((with_reducible apply ivAnd); (rfl); (rfl); (focus ((repeat' (first | assumption | (exact hW _) | (unfold W64; first | omega | decide) | (exact Ws.get (by assumption) (by assumption)) | (exact wOne (by omega)) | (exact bit1_w (by omega)) | (exact wXorAnd (by assumption)) | (exact wSub (by assumption)) | apply wOr | (apply wAnd; assumption) | (apply wAnd2; assumption) | apply wShr)) <;> fail)); (focus ((repeat' (first | assumption | (exact hW _) | (unfold W64; first | omega | decide) | (exact Ws.get (by assumption) (by assumption)) | (exact wOne (by omega)) | (exact bit1_w (by omega)) | (exact wXorAnd (by assumption)) | (exact wSub (by assumption)) | apply wOr | (apply wAnd; assumption) | (apply wAnd2; assumption) | apply wShr)) <;> fail)))
           | ((with_reducible apply ivSub); (rfl); (rfl); (first | exact one_pos _ | omega); (focus ((repeat' (first | assumption | (exact hW _) | (unfold W64; first | omega | decide) | (exact Ws.get (by assumption) (by assumption)) | (exact wOne (by omega)) | (exact bit1_w (by omega)) | (exact wXorAnd (by assumption)) | (exact wSub (by assumption)) | apply wOr | (apply wAnd; assumption) | (apply wAnd2; assumption) | apply wShr)) <;> fail))))
          all_goals (conv => whnf)
          refine nx0 (j + 1, x &&& (x - 1), [o0, o1, o2, o3]) (by repeat (first | exact trivial | refine se0 rfl ?_)) rfl ?_ ⟨wAnd hx, hpred.trans hjt, hJ', hjl⟩
          show (bitsL (x &&& (x - 1))).length < (i :: t).length
          rw [hpred]; simp
        · all_goals (conv => whnf)
          exact fin_in ⟨H', _, rfl, hl', hin', rfl, hQ'⟩
      · exact absurd h (by omega)
  · intro r H' hq
    obtain ⟨Hc, Y, rfl, hl, hino, rfl, hq⟩ := fin_out hq
    refine ⟨Hc ++ Y, .tuple [], 4, .refl _, .refl _, Nat.le_refl _, by simp; omega, rfl, ?_, ?_⟩
    · rw [← hl, List.take_left]; rw [hl]; exact hino
    · rw [← hl, List.take_left]; exact hq
theorem itPtsF4 (s : Nat) (hs : W64 s) (g : Nat) (hg : g < 4) {H0 : List Ob} (lp : Ob) (pre0 : List Ob) (hH : H0 = pre0 ++ [lp]) (J : Nat → List Ob → Prop) (Q : D → List Ob → Prop)
    (hJ : ∀ k X, J k X → X.length + 1 = 4 ∧ ∀ o ∈ X, inO 4 o = true) (hlp : inO 4 lp = true)
    (hyl : ∀ k p X, J k X → (bitsL s)[k]? = some p → YC Tryd.prog g [iD p] (X ++ [lp]) (fun r H' => Fin ((r = .bool true ∧ ∃ X', H' = X' ++ [lp] ∧ J (k + 1) X') ∨ (r = .bool false ∧ H'.length = 4 ∧ (∀ o ∈ H', inO 4 o = true) ∧ Q (.tuple []) H'))))
    (hend : ∀ X, J (bitsL s).length X → Q (.tuple []) (X ++ [lp])) (h0 : J 0 pre0) :
    HC Tryd.prog 61 [sD s, .yld g] H0 Q := by
  have hin : ∀ k X, J k X → (X ++ [lp]).length = 4 ∧ ∀ o ∈ X ++ [lp], inO 4 o = true := by
    intro k X h
    obtain ⟨h1, h2⟩ := hJ k X h
    refine ⟨by simp; omega, fun o ho => ?_⟩
    rcases List.mem_append.1 ho with ho | ho
    · exact h2 o ho
    · simp at ho; subst ho; exact hlp
  refine itPts4 s hs g hg (fun k H => ∃ X, H = X ++ [lp] ∧ J k X) Q (fun k H h => ?_) (fun k p H h hp => ?_) (fun H h => ?_) H0 ⟨pre0, hH, h0⟩
  · obtain ⟨X, rfl, hj⟩ := h
    obtain ⟨h1, h2⟩ := hin k X hj
    obtain ⟨o0, o1, o2, o3, h3⟩ := exl4 h1
    exact ⟨o0, o1, o2, o3, h3, h2⟩
  · obtain ⟨X, rfl, hj⟩ := h
    refine YC.mono (hyl k p X hj hp) fun r H' hq => ?_
    rcases fin_out hq with ⟨h1, X', rfl, h3⟩ | ⟨h1, h2, h3, h4⟩
    · obtain ⟨h4, h5⟩ := hin _ _ h3
      exact fin_in ⟨h4, h5, .inl ⟨h1, X', rfl, h3⟩⟩
    · exact fin_in ⟨h2, h3, .inr ⟨h1, h4⟩⟩
  · obtain ⟨X, rfl, hj⟩ := h
    exact hend X hj
def dgR (V : Nat) (B l : List Nat) : List Int := (List.range V).map fun p => (degN B p : Int) + (if p ∈ l then 1 else 0)
theorem dgR_len (V : Nat) (B l : List Nat) : (dgR V B l).length = V := by simp [dgR]
theorem dgR_get {V : Nat} {B l : List Nat} {p : Nat} (h : p < V) : (dgR V B l)[p]? = some ((degN B p : Int) + (if p ∈ l then 1 else 0)) := by simp [dgR, h]
theorem dgR_set {V : Nat} {B l : List Nat} {p : Nat} (hp : p < V) (hn : p ∉ l) : (dgR V B l).set p ((degN B p : Int) + 1) = dgR V B (l ++ [p]) := by
  refine List.ext_getElem? fun q => ?_
  by_cases hq : q < V
  · by_cases e : p = q
    · subst e
      rw [List.getElem?_set_self (by rw [dgR_len]; exact hq), dgR_get hq]
      simp
    · rw [List.getElem?_set_ne e, dgR_get hq, dgR_get hq]
      simp only [List.mem_append, List.mem_singleton, Option.some.injEq]
      have : ¬ q = p := fun h => e h.symm
      simp [this]
  · rw [List.getElem?_eq_none (by rw [List.length_set, dgR_len]; omega), List.getElem?_eq_none (by rw [dgR_len]; omega)]
theorem dgR_next {V : Nat} {B : List Nat} {k b : Nat} (hV : V ≤ 64) (h : B[k]? = some b) : dgR V (B.take k) (bitsL b) = dgR V (B.take (k + 1)) [] := by
  refine List.map_congr_left fun p hp => ?_
  have hp := List.mem_range.1 hp
  rw [List.take_add_one, h]
  unfold degN
  rw [List.countP_append]
  simp only [Option.toList_some, List.countP_singleton, bitsL_mem, List.not_mem_nil, if_false]
  have : p < 64 := by omega
  cases b.testBit p <;> simp [this]
theorem bits_nd (b : Nat) : (bitsL b).Nodup := List.nodup_range.filter _
theorem bits_take {b k p : Nat} (h : (bitsL b)[k]? = some p) : (bitsL b).take (k + 1) = (bitsL b).take k ++ [p] ∧ p ∉ (bitsL b).take k := by
  have e : (bitsL b).take (k + 1) = (bitsL b).take k ++ [p] := by rw [List.take_add_one, h]; rfl
  refine ⟨e, fun hm => ?_⟩
  have h1 : ((bitsL b).take (k + 1)).Nodup := (bits_nd b).sublist (List.take_sublist _ _)
  rw [e] at h1
  exact (List.nodup_append.1 h1).2.2 p hm p (List.mem_singleton.2 rfl) rfl
theorem vDegrees (x : Inc) (hV1 : 1 ≤ x.V) (hV : x.V ≤ 16) (hB : Ws x.B) (hBl : x.B.length ≤ 12) (hlt : ∀ b ∈ x.B, b < 2 ^ x.V) : Val Tryd.prog 30 [x.D] (fun r => r = intsD ((List.range x.V).map fun p => (degN x.B p : Int))) := by
  have hl0 := setsL_len x.B
  refine Val.ofV ?_
  refine hc_ofS (okc Tryd.f30.ntmps 0) (fn := Tryd.f30) (cd := _) rfl rfl rfl rfl rfl rfl (fun hbd => ?_)
  repeat' (
   conv => whnf
   first
   | ((with_reducible apply ob); ((first | rfl | assumption | omega | (unfold maxLen2; omega) | (dsimp only; omega) | (simp only [LN]; omega) | (simp; done) | (simp; omega)))))
  all_goals (conv => whnf)
  refine lpX (X := Nat) (fun k => [(2, .nils), (3, .ptr 2 []), (11, setsD x.B), (12, iD (setsL x.B).length), (13, iD k)]) (fun k => [.var x.D, .row .leaf (intsL (dgR x.V (x.B.take k) [])), .var (.sl 1 0 x.V)]) (fun k => k ≤ x.B.length) (fun k => x.B.length - k)
    ⟨_, nx (ρ := [0, 1, 2]) 0 (by repeat (first | exact trivial | refine seC rfl rfl ?_ | refine seL (leRow rfl rfl) rfl ?_)) (shC rfl rfl (shR rfl (by show List.replicate x.V (D.int .i64 0) = _; refine List.ext_getElem? fun q => ?_; simp only [dgR, intsL, degN, List.take_zero, List.countP_nil, List.getElem?_replicate, List.getElem?_map, List.getElem?_range']; by_cases hq : q < x.V <;> simp [hq]) (cl_ints _) (shC rfl rfl trivial))) rfl rfl (Nat.lt_succ_self _) (Nat.zero_le _)⟩ ?_
  intro k hk
  rcases Nat.lt_or_ge k x.B.length with hkl | hkg
  · obtain ⟨b, hb⟩ : ∃ b, x.B[k]? = some b := ⟨_, List.getElem?_eq_getElem hkl⟩
    have hbw := Ws.get hb hB
    have hbl := hlt b (List.mem_of_getElem? hb)
    have hbd : (setsL x.B)[((k : Nat) : Int).toNat]? = some (sD b) := by simp [setsL, hb]
    repeat' (
     conv => whnf
     first
     | (with_reducible refine ⟨sD b, hbd, ?_⟩)
     | refine ifd (fun h => ?_) (fun h => ?_)
     | ((with_reducible apply ob); ((first | rfl | assumption | omega | (unfold maxLen2; omega) | (dsimp only; omega) | (simp only [LN]; omega) | (simp; done) | (simp; omega)))))
    all_goals (conv => whnf)
    all_goals (first | (exfalso; omega) | skip)
    have hst : ∀ (o : Ob), (∀ j, inO 4 (.row .leaf (intsL (dgR x.V (x.B.take k) ((bitsL b).take j)))) = true) := fun _ j => in_cls _ _ (cl_ints _)
    refine itPtsF4 b hbw 3 (by omega) _ [.var x.D, .row .leaf (intsL (dgR x.V (x.B.take k) [])), .var (.sl 1 0 x.V)] rfl (fun j X => X = [.var x.D, .row .leaf (intsL (dgR x.V (x.B.take k) ((bitsL b).take j))), .var (.sl 1 0 x.V)]) _ (fun j X h => by
      subst h
      refine ⟨rfl, fun o ho => ?_⟩
      simp only [List.mem_cons, List.not_mem_nil, or_false] at ho
      rcases ho with rfl | rfl | rfl
      · rfl
      · exact in_cls _ _ (cl_ints _)
      · rfl) rfl ?_ ?_ rfl
    · rintro j p X rfl hp
      obtain ⟨ht, hn⟩ := bits_take hp
      have hpV : p < x.V := bits_lt hbl ((bitsL_mem b p).1 (List.mem_of_getElem? hp)).2
      have hget : (intsL (dgR x.V (x.B.take k) ((bitsL b).take j)))[0 + ((p : Nat) : Int).toNat]? = some (.int .i64 (degN (x.B.take k) p : Int)) := by simp [intsL, dgR_get hpV, hn]
      have hdg : degN (x.B.take k) p ≤ 12 := by
        have h1 : degN (x.B.take k) p ≤ (x.B.take k).length := List.countP_le_length
        rw [List.length_take] at h1; omega
      have hdl : (intsL (dgR x.V (x.B.take k) ((bitsL b).take j))).length = x.V := by simp [dgR_len]
      refine yc_intro (okc Tryd.f30.ntmps 4) rfl rfl rfl rfl rfl ?_
      repeat' (
       conv => whnf
       first
       | (with_reducible refine ⟨.int .i64 (degN (x.B.take k) p : Int), hget, ?_⟩)
       | with_reducible refine ivW (by omega) (by omega) ?_
       | ((with_reducible apply ob); ((first | rfl | assumption | omega | (unfold maxLen2; omega) | (dsimp only; omega) | (simp only [LN]; omega) | (simp; done) | (simp; omega)))))
      all_goals (conv => whnf)
      all_goals (first | (exfalso; omega) | skip)
      have e : (intsL (dgR x.V (x.B.take k) ((bitsL b).take j))).set (0 + ((p : Nat) : Int).toNat) (.int .i64 ((degN (x.B.take k) p : Int) + 1)) = intsL (dgR x.V (x.B.take k) ((bitsL b).take (j + 1))) := by
        rw [ht, ← dgR_set hpV hn]; simp [intsL, List.map_set]
      refine fin_in (.inl ⟨rfl, [.var x.D, .row .leaf (intsL (dgR x.V (x.B.take k) ((bitsL b).take (j + 1)))), .var (.sl 1 0 x.V)], ?_, rfl⟩)
      rw [← e]
      rfl
    · rintro X rfl
      conv => whnf
      rw [List.take_length, dgR_next (by omega) hb]
      repeat' (
       conv => whnf
       first
       | with_reducible refine ivW (by omega) (by omega) ?_)
      all_goals (conv => whnf)
      exact nx (k + 1) [0, 1, 2] (by repeat (first | exact trivial | refine seC rfl rfl ?_ | refine seL (leRow rfl rfl) rfl ?_)) (shC rfl rfl (shR rfl rfl (cl_ints _) (shC rfl rfl trivial))) rfl rfl (by omega) (by omega)
  · repeat' (
     conv => whnf
     first
     | refine ifd (fun h => ?_) (fun h => ?_)
     | ((with_reducible refine exU (by omega) ?_); intro y hy; (try simp only [Int.toNat_natCast, Nat.zero_add] at hy); (try have hyr := hR _ (List.mem_of_getElem? hy)))
     | ((with_reducible apply ob); ((first | rfl | assumption | omega | (unfold maxLen2; omega) | (dsimp only; omega) | (simp only [LN]; omega) | (simp; done) | (simp; omega)))))
    all_goals (conv => whnf)
    all_goals (first | (exfalso; omega) | skip)
    have hke : k = x.B.length := by omega
    subst hke
    rw [List.take_length]
    exact fin_in ⟨_, intsD (dgR x.V x.B []), .step 1 .leaf (intsL (dgR x.V x.B [])) rfl (cl_ints _) (.refl _), leRow rfl (by simp [dgR_len]), by simp [intsD, clD, cl_ints], by unfold dgR; simp⟩
theorem vClone0 : Val Tryd.prog 66 [.nils] (fun r => r = .nils) := by
  refine Val.ofV ?_
  refine hc_ofS (okc Tryd.f66.ntmps 0) (fn := Tryd.f66) (cd := _) rfl rfl rfl rfl rfl rfl (fun hbd => ?_)
  all_goals (conv => whnf)
  exact fC rfl rfl
theorem vMap0 (a b : Inc) (ha : a.Ok) (hb : b.Ok) (ha7 : a.V ≤ 7) (hb7 : b.V ≤ 7) : Val Tryd.prog 32 [a.D, b.D, .nils] (fun r => r = mapD (mapN a b [])) := by
  have ha1 := ha.v1
  have hd : Dif [] b.V := ⟨fun x hx => (by cases hx), List.Pairwise.nil⟩
  have hl := hcLook a b ha hb ha7 hb7 a.V [] (by simp) hd
  have hll := lookA_len a b a.V []
  have ho := vOpen a b [] (by omega) (by omega) (by omega) hd
  have hc := vClone0
  refine Val.ofV ?_
  refine hc_ofS (okc Tryd.f32.ntmps 0) (fn := Tryd.f32) (cd := _) rfl rfl rfl rfl rfl rfl (fun hbd => ?_)
  repeat' (
   conv => whnf
   first
   | ((with_reducible refine hcI ?_); refine Val.call ho (.refl _) (.cons _ _ _ _ (.refl _) (.cons _ _ _ _ (.refl _) (.cons _ _ _ _ (.nils _) .nil))) rfl ?_; rintro r rfl)
   | ((with_reducible refine pcI ?_); refine Val.pure hc (ler _ _) rfl rfl ?_)
   | ((with_reducible apply drT 3); rfl))
  all_goals (conv => whnf)
  refine HC.frame [2, 0, 3] hl (.refl _) (shC rfl rfl (shC rfl rfl (shC rfl rfl trivial))) rfl (by simp) (.cons _ _ _ _ (.nils _) (.cons _ _ _ _ (.refl _) (.cons _ _ _ _ (.refl _) (.cons _ _ _ _ (.refl _) .nil)))) rfl ?_
  intro r H0' hq _
  obtain ⟨rfl, rfl⟩ := fin_out hq
  cases hlm : lookA a b a.V [] with
  | none =>
    have hm : mapN a b [] = none := hlm
    all_goals (conv => whnf)
    exact fC rfl (by rw [hm]; rfl)
  | some l =>
    have hm : mapN a b [] = some l := hlm
    have hne2 : intsL l ≠ [] := fun e => by
      have h1 := hll l hlm
      have := congrArg List.length e
      rw [intsL_len, h1, List.length_nil] at this
      simp at this
      omega
    repeat' (
     conv => whnf
     first
     | ((with_reducible apply nilNe); ((first | rfl | assumption | omega | (unfold maxLen2; omega) | (dsimp only; omega) | (simp only [LN]; omega) | (simp; done) | (simp; omega)))))
    all_goals (conv => whnf)
    exact fC rfl (by rw [hm]; rfl)
end Go.Proofs.YthfcfdlbnfcboaaDoor.Pw



set_option linter.unusedVariables false
set_option linter.unusedSimpArgs false
set_option maxHeartbeats 4000000
set_option maxRecDepth 10000
namespace Go.Proofs.YthfcfdlbnfcboaaDoor.Pw
open Go
theorem lvK_le (x : Inc) (i : Nat) : ∀ k, (lvK x i k).1.length ≤ k
  | 0 => by simp [lvK]
  | k + 1 => by
    have := lvK_le x i k
    unfold lvK
    split <;> simp <;> omega
theorem vOrbitsLaw (lx : List Nat) (hlx : ∀ x ∈ lx, x < 256) : Val Tryd.prog 6 [.agg [bytesD lx]] (fun r => r = .bool true) := by
  have hmx := vMadeR lx hlx
  have hfx := limX_fam lx (most := 7) (by omega) (by omega)
  generalize limX lx 7 = X at hmx hfx
  have hv1 := hfx.ok.v1
  have hv7 := hfx.v7
  have hox := vLawOrder X hfx.ok hfx.v7
  have hor := vLawOrbits X hfx.ok hfx.v7
  have hch := vGChain X hfx.ok hfx.v7
  have hdg := vDegrees X hv1 (by omega) hfx.ok.b hfx.ok.n hfx.lt
  have hob := ord_pos hfx
  have hdvd : ∀ r, r < X.V → ∃ c, ordK X X.V = c * (clsL X r).length := fun r hr => cls_dvd hfx hr
  generalize ordK X X.V = N at hox hob hdvd
  have hol := rowsL_len (orbX X)
  have holV : (orbX X).length ≤ X.V := (orbsK_len X.V (gensK X X.V) X.V).2
  obtain ⟨dg, hdge⟩ : ∃ dg : List Int, (List.range X.V).map (fun p => (degN X.B p : Int)) = dg := ⟨_, rfl⟩
  have hdl : (intsL dg).length = X.V := by rw [← hdge]; simp
  have hdp : ∀ p : Nat, p < X.V → (intsL dg)[((p : Nat) : Int).toNat]? = some (.int .i64 (degN X.B p : Int)) := by
    intro p hp; rw [← hdge]; simp [intsL, hp]
  rw [hdge] at hdg
  clear hdge
  refine Val.ofV ?_
  refine hc_ofS (okc Tryd.f6.ntmps 0) (fn := Tryd.f6) (cd := _) rfl rfl rfl rfl rfl rfl (fun hbd => ?_)
  repeat' (
   conv => whnf
   first
   | ((with_reducible refine hcI ?_); refine Val.call hmx (.refl _) (ler _ _) rfl ?_; rintro r rfl)
   | ((with_reducible refine hcI ?_); refine Val.call hox (.refl _) (ler _ _) rfl ?_; rintro r rfl)
   | ((with_reducible refine hcI ?_); refine Val.call hor (.refl _) (ler _ _) rfl ?_; rintro r rfl)
   | ((with_reducible refine hcI ?_); refine Val.call hch (.refl _) (ler _ _) rfl ?_; rintro r rfl)
   | ((with_reducible refine hcI ?_); refine Val.call hdg (.refl _) (ler _ _) rfl ?_; rintro r rfl)
   | refine ifn (fun h => ?_) (fun h => ?_)
   | ((with_reducible refine hcI ?_); refine Val.call vExamples (.refl _) (ler _ _) rfl ?_; rintro r rfl)
   | ((with_reducible apply ob); ((first | rfl | assumption | omega | (unfold maxLen2; omega) | (dsimp only; omega) | (simp only [LN]; omega) | (simp; done) | (simp; omega)))))
  all_goals (conv => whnf)
  all_goals (first | (exfalso; omega) | skip)
  refine lpX (X := Nat) (fun i => [(3, .bool true), (4, .ptr 1 []), (5, .ptr 2 []), (6, .ptr 3 []), (8, .ptr 4 []), (9, intsD dg), (10, .sl 5 0 X.V), (11, iD i)]) (fun i => [.var (.agg [bytesD lx]), .var X.D, .var (.agg [rowsD (orbX X), .int .i64 0]), .var (chainD X), .var (.agg [iD N, .int .i64 0]), .row .leaf (intsL (ofK (orbX X) X.V i))]) (fun i => i ≤ (orbX X).length) (fun i => (orbX X).length - i)
    ⟨_, nx (ρ := [0, 1, 2, 3, 4, 5]) 0 (by repeat (first | exact trivial | refine seC rfl rfl ?_ | refine seL (leRow rfl rfl) rfl ?_)) (shC rfl rfl (shC rfl rfl (shC rfl rfl (shC rfl rfl (shC rfl rfl (shR rfl (by show List.replicate X.V (D.int .i64 0) = _; simp [ofK, intsL]) (cl_ints _) trivial)))))) rfl rfl (Nat.lt_succ_self _) (Nat.zero_le _)⟩ ?_
  intro i hi
  have hkl := ofK_len (orbX X) X.V i
  rcases Nat.lt_or_ge i (orbX X).length with hlt | hge
  · obtain ⟨r, hr, hg, hgD⟩ := orbX_get hfx hlt
    obtain ⟨c0, hNc⟩ := hdvd r hr
    have hcp := cls_pos hfx hr
    have hcl := cls_len hfx r
    have hno : ∀ k p : Nat, k < (clsL X r).length → (clsL X r).getD k 0 = (p : Int) → p < X.V → (ofS (clsL X r) ((i : Int) + 1) (ofK (orbX X) X.V i) k).getD p 0 = 0 := by
      intro k p h1 h2 h3
      have := mark_no hfx hlt (k := k) (p := p) (by rw [hgD]; exact h1) (by rw [hgD]; exact h2) h3
      rwa [hgD] at this
    have hcg : ∀ k, k < (clsL X r).length → ∃ p : Nat, p < X.V ∧ Rel X r p ∧ (clsL X r)[k]? = some (p : Int) ∧ (clsL X r).getD k 0 = (p : Int) := fun k hk => cls_get hfx hr hk
    have hnext : ofK (orbX X) X.V (i + 1) = ofS (clsL X r) ((i : Int) + 1) (ofK (orbX X) X.V i) (clsL X r).length := by rw [ofK, hgD]
    have hor1 : (rowsL (orbX X))[((i : Nat) : Int).toNat]? = some (intsD (clsL X r)) := by simp [rowsL, hg]
    generalize clsL X r = c at *
    have hcl0 := intsL_len c
    have hmod : (N : Int).tmod ((intsL c).length : Int) = 0 := by
      rw [hcl0, hNc]
      exact Int.tmod_eq_zero_of_dvd ⟨c0, by rw [Int.natCast_mul, Int.mul_comm]⟩
    repeat' (
     conv => whnf
     first
     | (with_reducible refine ⟨_, hor1, ?_⟩)
     | (with_reducible refine ⟨_, hmod, ?_⟩)
     | refine ifd (fun h => ?_) (fun h => ?_)
     | ((with_reducible apply drT 16); rfl)
     | ((with_reducible apply ob); ((first | rfl | assumption | omega | (unfold maxLen2; omega) | (dsimp only; omega) | (simp only [LN]; omega) | (simp; done) | (simp; omega)))))
    all_goals (conv => whnf)
    all_goals (first | (exfalso; omega) | skip)
    refine lpX (X := Nat) (fun k => [(3, .bool true), (4, .ptr 1 []), (5, .ptr 2 []), (6, .ptr 3 []), (8, .ptr 4 []), (9, intsD dg), (10, .sl 5 0 X.V), (11, iD i), (12, iD k)]) (fun k => [.var (.agg [bytesD lx]), .var X.D, .var (.agg [rowsD (orbX X), .int .i64 0]), .var (chainD X), .var (.agg [iD N, .int .i64 0]), .row .leaf (intsL (ofS c ((i : Int) + 1) (ofK (orbX X) X.V i) k))]) (fun k => k ≤ c.length) (fun k => c.length - k)
      ⟨_, nx0 0 (by repeat (first | exact trivial | refine se0 rfl ?_)) rfl (Nat.lt_succ_self _) (Nat.zero_le _)⟩ ?_
    intro k hk
    have hsl := ofS_len c ((i : Int) + 1) (ofK (orbX X) X.V i) k
    rcases Nat.lt_or_ge k c.length with hkl2 | hkg
    · obtain ⟨p, hp, hrel, hck, hckD⟩ := hcg k hkl2
      obtain ⟨p0, hp0, hrel0, hc0, hc0D⟩ := hcg 0 hcp
      have hz := hno k p hkl2 hckD hp
      have hset : (ofS c ((i : Int) + 1) (ofK (orbX X) X.V i) k).set p ((i : Int) + 1) = ofS c ((i : Int) + 1) (ofK (orbX X) X.V i) (k + 1) := by rw [ofS, hckD]; rfl
      have hoff : (intsL (ofS c ((i : Int) + 1) (ofK (orbX X) X.V i) k))[0 + ((p : Nat) : Int).toNat]? = some (.int .i64 0) := by
        have hlen : p < (ofS c ((i : Int) + 1) (ofK (orbX X) X.V i) k).length := by omega
        simp only [List.getD, List.getElem?_eq_getElem hlen, Option.getD_some] at hz
        simp [intsL, List.getElem?_eq_getElem hlen, hz]
      generalize ofS c ((i : Int) + 1) (ofK (orbX X) X.V i) k = Wk at *
      have hWl := intsL_len Wk
      have hc1 : (intsL c)[((k : Nat) : Int).toNat]? = some (.int .i64 (p : Int)) := by simp [intsL, hck]
      have hc2 : (intsL c)[(0 : Int).toNat]? = some (.int .i64 (p0 : Int)) := by simp [intsL, hc0]
      have hdp1 := hdp p hp
      have hdp0 := hdp p0 hp0
      have hrr : Rel X p0 p := rel_trans hfx hp0 (rel_symm hfx hr hrel0) hrel
      rw [← deg_rel hfx hp0 hrr] at hdp1
      have hd1 : 1 < X.V → Val Tryd.prog 31 [X.D, iD p] (fun r => r = .tuple [(derI X p).D, .int .i64 0]) := fun h => vDerived X p h (by omega) hfx.ok.b hfx.ok.n hp
      have hd0 : 1 < X.V → Val Tryd.prog 31 [X.D, iD p0] (fun r => r = .tuple [(derI X p0).D, .int .i64 0]) := fun h => vDerived X p0 h (by omega) hfx.ok.b hfx.ok.n hp0
      have hmp : 1 < X.V → ∃ l, Val Tryd.prog 32 [(derI X p0).D, (derI X p).D, .nils] (fun r => r = mapD (some l)) := fun h => by
        have h1 := der_map hfx hp0 hp hrr
        obtain ⟨l, hl⟩ := Option.isSome_iff_exists.1 h1
        exact ⟨l, hl ▸ vMap0 _ _ (der_ok hfx hp0 h) (der_ok hfx hp h) (by show X.V - 1 ≤ 7; omega) (by show X.V - 1 ≤ 7; omega)⟩
      repeat' (
       conv => whnf
       first
       | (with_reducible refine ⟨_, hor1, ?_⟩)
       | (with_reducible refine ⟨_, hc1, ?_⟩)
       | (with_reducible refine ⟨_, hc2, ?_⟩)
       | (with_reducible refine ⟨_, hoff, ?_⟩)
       | (with_reducible refine ⟨_, hdp1, ?_⟩)
       | (with_reducible refine ⟨_, hdp0, ?_⟩)
       | refine ifd (fun h => ?_) (fun h => ?_)
       | refine ifn (fun h => ?_) (fun h => ?_)
       | with_reducible refine ivW (by omega) (by omega) ?_
       | ((with_reducible apply drT 13); rfl)
       | ((with_reducible apply drT 14); rfl)
       | ((with_reducible apply ob); ((first | rfl | assumption | omega | (unfold maxLen2; omega) | (dsimp only; omega) | (simp only [LN]; omega) | (simp; done) | (simp; omega)))))
      all_goals (conv => whnf)
      all_goals (first | (exfalso; omega) | skip)
      · have hV1 : 1 < X.V := by omega
        obtain ⟨l, hmp⟩ := hmp hV1
        have hd1 := hd1 hV1
        have hd0 := hd0 hV1
        repeat' (
         conv => whnf
         first
         | ((with_reducible refine pcI ?_); refine Val.pure hd0 (ler _ _) rfl rfl ?_)
         | ((with_reducible refine hcI ?_); refine Val.call hd1 (.refl _) (ler _ _) rfl ?_; rintro r rfl)
         | ((with_reducible refine hcI ?_); refine Val.call hmp (.refl _) (ler _ _) rfl ?_; rintro r rfl)
         | with_reducible refine ivW (by omega) (by omega) ?_)
        all_goals (conv => whnf)
        all_goals (first | (exfalso; omega) | skip)
        exact nx (k + 1) [0, 1, 2, 3, 4, 5] (by repeat (first | exact trivial | refine seC rfl rfl ?_ | refine seL (leRow rfl rfl) rfl ?_)) (shC rfl rfl (shC rfl rfl (shC rfl rfl (shC rfl rfl (shC rfl rfl (shR rfl (by rw [← hset]; simp [intsL, List.map_set]) (cl_ints _) trivial)))))) rfl rfl (by omega) (by omega)
      · exact nx (k + 1) [0, 1, 2, 3, 4, 5] (by repeat (first | exact trivial | refine seC rfl rfl ?_ | refine seL (leRow rfl rfl) rfl ?_)) (shC rfl rfl (shC rfl rfl (shC rfl rfl (shC rfl rfl (shC rfl rfl (shR rfl (by rw [← hset]; simp [intsL, List.map_set]) (cl_ints _) trivial)))))) rfl rfl (by omega) (by omega)
    · repeat' (
       conv => whnf
       first
       | (with_reducible refine ⟨_, hor1, ?_⟩)
       | refine ifd (fun h => ?_) (fun h => ?_)
       | refine ifn (fun h => ?_) (fun h => ?_)
       | with_reducible refine ivW (by omega) (by omega) ?_
       | ((with_reducible refine exI' (by omega) ?_); intro y hy; (try simp only [Int.toNat_natCast, Nat.zero_add] at hy); (try have hyr := hR _ (List.mem_of_getElem? hy)))
       | ((with_reducible apply drT 13); rfl)
       | ((with_reducible apply drT 14); rfl)
       | ((with_reducible apply ob); ((first | rfl | assumption | omega | (unfold maxLen2; omega) | (dsimp only; omega) | (simp only [LN]; omega) | (simp; done) | (simp; omega)))))
      all_goals (conv => whnf)
      all_goals (first | (exfalso; omega) | skip)
      have hkc : k = c.length := by omega
      subst hkc
      exact nx (i + 1) [0, 1, 2, 3, 4, 5] (by repeat (first | exact trivial | refine seC rfl rfl ?_ | refine seL (leRow rfl rfl) rfl ?_)) (shC rfl rfl (shC rfl rfl (shC rfl rfl (shC rfl rfl (shC rfl rfl (shR rfl (by rw [hnext]) (cl_ints _) trivial)))))) rfl rfl (by omega) (by omega)
  · repeat' (
     conv => whnf
     first
     | refine ifd (fun h => ?_) (fun h => ?_)
     | ((with_reducible apply drT 16); rfl)
     | ((with_reducible apply ob); ((first | rfl | assumption | omega | (unfold maxLen2; omega) | (dsimp only; omega) | (simp only [LN]; omega) | (simp; done) | (simp; omega)))))
    all_goals (conv => whnf)
    all_goals (first | (exfalso; omega) | skip)
    have hie : i = (orbX X).length := by omega
    subst hie
    have hW2 : ∀ p, p < X.V → (ofK (orbX X) X.V (orbX X).length).getD p 0 ≠ 0 := fun p hp => by
      obtain ⟨t, _, _, h3⟩ := mark_yes hfx hp
      omega
    have hW3 : ∀ a, Aut X a → ∀ p, p < X.V → (ofK (orbX X) X.V (orbX X).length).getD (a.getD p 0).toNat 0 = (ofK (orbX X) X.V (orbX X).length).getD p 0 := fun a ha p hp => mark_aut hfx hp ha
    generalize ofK (orbX X) X.V (orbX X).length = W at *
    have hWl := intsL_len W
    have hsl := stgL_len X X.V
    refine lpX (X := Nat) (fun i => [(3, .bool true), (4, .ptr 0 []), (6, .ptr 1 []), (10, .sl 2 0 X.V), (20, iD i)]) (fun i => [.var X.D, .var (chainD X), .row .leaf (intsL W)]) (fun i => i ≤ X.V) (fun i => X.V - i)
      ⟨_, nx (ρ := [1, 3, 5]) 0 (by repeat (first | exact trivial | refine seC rfl rfl ?_ | refine seL (leRow rfl rfl) rfl ?_)) (shC rfl rfl (shC rfl (in_cl _ _ rfl) (shR rfl rfl (cl_ints _) trivial))) rfl rfl (Nat.lt_succ_self _) (Nat.zero_le _)⟩ ?_
    intro i hi
    rcases Nat.lt_or_ge i X.V with hlt | hge
    · have hst : (stgL X X.V)[((i : Nat) : Int).toNat]? = some (stgD (lvK X i (X.V - i)).1) := by simp [stgL, hlt]
      have hys : ∀ y ∈ (lvK X i (X.V - i)).1, Aut X y.2 := fun y hy => gens_aut hv7 X.V (Nat.le_refl _) _ (gens_mem X.V hlt hy)
      have hyl : (lvK X i (X.V - i)).1.length ≤ X.V - i := lvK_le X i (X.V - i)
      generalize (lvK X i (X.V - i)).1 = ys at hst hys hyl
      have hrl := rowsL_len (repI ys)
      have hrl2 : (repI ys).length = ys.length := by simp [repI]
      repeat' (
       conv => whnf
       first
       | refine ifd (fun h => ?_) (fun h => ?_))
      all_goals (conv => whnf)
      all_goals (first | (exfalso; omega) | skip)
      refine lpX (X := Nat) (fun k => [(3, .bool true), (4, .ptr 0 []), (6, .ptr 1 []), (10, .sl 2 0 X.V), (20, iD i), (21, iD k)]) (fun k => [.var X.D, .var (chainD X), .row .leaf (intsL W)]) (fun k => k ≤ ys.length) (fun k => ys.length - k)
        ⟨_, nx0 0 (by repeat (first | exact trivial | refine se0 rfl ?_)) rfl (Nat.lt_succ_self _) (Nat.zero_le _)⟩ ?_
      intro k hk
      rcases Nat.lt_or_ge k ys.length with hkl | hkg
      · obtain ⟨y, hy⟩ : ∃ y, ys[k]? = some y := ⟨_, List.getElem?_eq_getElem hkl⟩
        have haut := hys y (List.mem_of_getElem? hy)
        have hm1 : (rowsL (repI ys))[((k : Nat) : Int).toNat]? = some (intsD y.2) := by simp [rowsL, repI, hy]
        generalize y.2 = m at haut hm1
        have hpm := haut.1
        have hml := hpm.1
        have hml2 := intsL_len m
        have hpv : Val Tryd.prog 16 [intsD m, iD X.V] (fun r => r = .bool true) := by
          have := vPerm m X.V
          rwa [decide_eq_true hpm] at this
        repeat' (
         conv => whnf
         first
         | (with_reducible refine ⟨_, hst, ?_⟩)
         | (with_reducible refine ⟨_, hm1, ?_⟩)
         | ((with_reducible refine hcI ?_); refine Val.call hpv (.refl _) (ler _ _) rfl ?_; rintro r rfl)
         | refine ifd (fun h => ?_) (fun h => ?_)
         | with_reducible refine ivW (by omega) (by omega) ?_
         | ((with_reducible apply ob); ((first | rfl | assumption | omega | (unfold maxLen2; omega) | (dsimp only; omega) | (simp only [LN]; omega) | (simp; done) | (simp; omega)))))
        all_goals (conv => whnf)
        all_goals (first | (exfalso; omega) | skip)
        refine lpX (X := Nat) (fun p => [(3, .bool true), (4, .ptr 0 []), (6, .ptr 1 []), (10, .sl 2 0 X.V), (20, iD i), (21, iD k), (22, intsD m), (23, iD p)]) (fun p => [.var X.D, .var (chainD X), .row .leaf (intsL W)]) (fun p => p ≤ X.V) (fun p => X.V - p)
          ⟨_, nx0 0 (by repeat (first | exact trivial | refine se0 rfl ?_)) rfl (Nat.lt_succ_self _) (Nat.zero_le _)⟩ ?_
        intro p hp
        rcases Nat.lt_or_ge p X.V with hpl | hpg
        · have h2 := hW2 p hpl
          have h3 := hW3 m haut p hpl
          have h4 := pm_get hpm hpl
          have hWp : (intsL W)[0 + ((p : Nat) : Int).toNat]? = some (.int .i64 (W.getD p 0)) := by
            have : p < W.length := by omega
            simp [intsL, List.getD, List.getElem?_eq_getElem this]
          have hmp : (intsL m)[((p : Nat) : Int).toNat]? = some (.int .i64 (m.getD p 0)) := by
            have : p < m.length := by omega
            simp [intsL, List.getD, List.getElem?_eq_getElem this]
          have hWm : (intsL W)[0 + (m.getD p 0).toNat]? = some (.int .i64 (W.getD p 0)) := by
            rw [← h3]
            have : (m.getD p 0).toNat < W.length := by omega
            have e := List.getElem?_eq_getElem this
            rw [Nat.zero_add, getD_of e]
            unfold intsL
            rw [List.getElem?_map, e]; rfl
          generalize W.getD p 0 = a at *
          generalize m.getD p 0 = b at *
          repeat' (
           conv => whnf
           first
           | (with_reducible refine ⟨_, hWp, ?_⟩)
           | (with_reducible refine ⟨_, hmp, ?_⟩)
           | (with_reducible refine ⟨_, hWm, ?_⟩)
           | refine ifd (fun h => ?_) (fun h => ?_)
           | refine ifn (fun h => ?_) (fun h => ?_)
           | with_reducible refine ivW (by omega) (by omega) ?_
           | ((with_reducible apply drT 17); rfl)
           | ((with_reducible apply ob); ((first | rfl | assumption | omega | (unfold maxLen2; omega) | (dsimp only; omega) | (simp only [LN]; omega) | (simp; done) | (simp; omega)))))
          all_goals (conv => whnf)
          all_goals (first | (exfalso; omega) | skip)
          exact nx0 (p + 1) (by repeat (first | exact trivial | refine se0 rfl ?_)) rfl (by omega) (by omega)
        · repeat' (
           conv => whnf
           first
           | refine ifd (fun h => ?_) (fun h => ?_)
           | refine ifn (fun h => ?_) (fun h => ?_)
           | with_reducible refine ivW (by omega) (by omega) ?_
           | ((with_reducible refine exI' (by omega) ?_); intro y hy; (try simp only [Int.toNat_natCast, Nat.zero_add] at hy); (try have hyr := hR _ (List.mem_of_getElem? hy)))
           | ((with_reducible apply drT 17); rfl)
           | ((with_reducible apply ob); ((first | rfl | assumption | omega | (unfold maxLen2; omega) | (dsimp only; omega) | (simp only [LN]; omega) | (simp; done) | (simp; omega)))))
          all_goals (conv => whnf)
          all_goals (first | (exfalso; omega) | skip)
          exact nx0 (k + 1) (by repeat (first | exact trivial | refine se0 rfl ?_)) rfl (by omega) (by omega)
      · repeat' (
         conv => whnf
         first
         | (with_reducible refine ⟨_, hst, ?_⟩)
         | refine ifd (fun h => ?_) (fun h => ?_)
         | with_reducible refine ivW (by omega) (by omega) ?_
         | ((with_reducible apply ob); ((first | rfl | assumption | omega | (unfold maxLen2; omega) | (dsimp only; omega) | (simp only [LN]; omega) | (simp; done) | (simp; omega)))))
        all_goals (conv => whnf)
        all_goals (first | (exfalso; omega) | skip)
        exact nx0 (i + 1) (by repeat (first | exact trivial | refine se0 rfl ?_)) rfl (by omega) (by omega)
    · repeat' (
       conv => whnf
       first
       | refine ifd (fun h => ?_) (fun h => ?_))
      all_goals (conv => whnf)
      all_goals (first | (exfalso; omega) | skip)
      exact fC rfl rfl
theorem vOrbits0 (g0 : D) (h0 : TyD (cx 0 0) 6 24 g0) : Val Tryd.prog 6 [g0] (fun r => r = .bool true) := by
  obtain ⟨lx, rfl, hlx⟩ := tyRaw h0
  exact vOrbitsLaw lx hlx
end Go.Proofs.YthfcfdlbnfcboaaDoor.Pw

