/- Parts of the proof, merged: MQ MR MS. -/
import Derived.Test.YthplmnpfaagciaaLg
import Derived.Test.YthplmnpfaagciaaLh
import Derived.Test.YthplmnpfaagciaaPd
/- Tables of best bounds: what again does, and what a table is that again leaves as it is (plain). -/
set_option linter.unusedVariables false
set_option linter.unusedSimpArgs false
namespace Go.Proofs.Ythplmnpfaagciaa.Pw
open Go

theorem getD_in {α : Type} {l : List α} {i : Nat} {d : α} (h : i < l.length) : l.getD i d = l[i] := by rw [List.getD, List.getElem?_eq_getElem h]; rfl
/-- What is known without a rule. -/
inductive Bs (K : List Known) (G : List Int) (n : Int) : Side → Int → Prop
  | known (k : Known) : k ∈ K → force k G = true → isC n ⟨k.n, k.d, k.up⟩ → Bs K G n ⟨k.n, k.d, k.up⟩ k.v
  | one (s : Side) : isC n s → (s.up = true ∨ s.d = 1) → Bs K G n s (2 ^ s.n.toNat)
  | two (s : Side) : isC n s → (s.up = false ∨ s.d = s.n) → Bs K G n s 2
theorem Bs.der {K : List Known} {G : List Int} {n : Int} {s : Side} {v : Int} (h : Bs K G n s v) : Der K G n s v := by
  cases h with
  | known k a b c => exact .known k a b c
  | one s a b => exact .one s a b
  | two s a b => exact .two s a b

/-- The value of a side in a table. -/
def tv (t : Tb) (s : Side) : Int := if s.up = true then gt2 t.hi s.n s.d else gt2 t.lo s.n s.d
def ag (n : Int) (t : Tb) (s : Side) : Int := if s.up = true then againHi n t s.n s.d else againLo n t s.n s.d

theorem od_is (d : Int) : (if d.tmod 2 = 1 then (1 : Int) else -1) = od d := rfl
theorem other_od (s : Side) : (otherS s).1 = s.n + od s.d ∧ (otherS s).2 = s.d + od s.d := by
  unfold otherS od
  split <;> constructor <;> simp <;> omega
theorem cell_isC {a b n : Int} {u : Bool} : isCell a b n = true ↔ isC n ⟨a, b, u⟩ := by
  unfold isCell isC
  simp [and_assoc]

/-- One candidate more, from below. -/
theorem max_cases {P : Int → Prop} {a v : Int} {c : Bool} (ha : P a) (hv : c = true → P v) : P (if c = true then max a v else a) := by
  cases c
  · simpa using ha
  · have := hv rfl
    simp only [if_true]
    rcases Int.le_total a v with h | h
    · rw [Int.max_eq_right h]; exact this
    · rw [Int.max_eq_left h]; exact ha
theorem min_cases {P : Int → Prop} {a v : Int} {c : Bool} (ha : P a) (hv : c = true → P v) : P (if c = true then min a v else a) := by
  cases c
  · simpa using ha
  · have := hv rfl
    simp only [if_true]
    rcases Int.le_total a v with h | h
    · rw [Int.min_eq_left h]; exact ha
    · rw [Int.min_eq_right h]; exact this
theorem max_ge {a v : Int} {c : Bool} : a ≤ (if c = true then max a v else a) ∧ (c = true → v ≤ (if c = true then max a v else a)) := by
  cases c
  · simp
  · simp; omega
theorem min_le {a v : Int} {c : Bool} : (if c = true then min a v else a) ≤ a ∧ (c = true → (if c = true then min a v else a) ≤ v) := by
  cases c
  · simp
  · simp; omega

theorem srcLo (m d : Int) : srcS 5 ⟨m, d, false⟩ = ⟨m - 1, d, false⟩ ∧ srcS 3 ⟨m, d, false⟩ = ⟨m + 1, d, false⟩ ∧ srcS 4 ⟨m, d, false⟩ = ⟨m, d + 1, false⟩ ∧ srcS 6 ⟨m, d, false⟩ = ⟨m + od d, d + od d, false⟩ := by
  have h := other_od ⟨m, d, false⟩
  simp only [srcS, stepS]
  refine ⟨?_, ?_, ?_, ?_⟩
  · simp; omega
  · simp
  · simp
  · simp only at h; rw [h.1, h.2]
theorem srcHi (m d : Int) : srcS 3 ⟨m, d, true⟩ = ⟨m - 1, d, true⟩ ∧ srcS 5 ⟨m, d, true⟩ = ⟨m + 1, d, true⟩ ∧ srcS 4 ⟨m, d, true⟩ = ⟨m, d - 1, true⟩ ∧ srcS 6 ⟨m, d, true⟩ = ⟨m + od d, d + od d, true⟩ := by
  have h := other_od ⟨m, d, true⟩
  simp only [srcS, stepS]
  refine ⟨?_, ?_, ?_, ?_⟩
  · simp
  · simp
  · simp
  · simp only at h; rw [h.1, h.2]

/-- What again yields can be derived, if the table's values can. -/
theorem again_der {K : List Known} {G : List Int} {n : Int} {t : Tb} (h : ∀ s, isC n s → Der K G n s (tv t s)) {s : Side} (hs : isC n s) : Der K G n s (ag n t s) := by
  obtain ⟨m, d, u⟩ := s
  have use : ∀ (r : Nat) (s' : Side) (v : Int), 3 ≤ r → r ≤ 6 → srcS r ⟨m, d, u⟩ = s' → isC n s' → valS r ⟨m, d, u⟩ (tv t s') = v → Der K G n ⟨m, d, u⟩ v := by
    intro r s' v h3 h6 he hc hv
    subst he; subst hv
    exact .rule r ⟨m, d, u⟩ _ hs h3 h6 hc (h _ hc)
  have own := h ⟨m, d, u⟩ hs
  cases u
  · obtain ⟨e5, e3, e4, e6⟩ := srcLo m d
    simp only [ag, if_false, Bool.false_eq_true]
    unfold againLo
    refine max_cases (P := fun v => Der K G n ⟨m, d, false⟩ v) (max_cases (P := fun v => Der K G n ⟨m, d, false⟩ v) (max_cases (P := fun v => Der K G n ⟨m, d, false⟩ v) (max_cases (P := fun v => Der K G n ⟨m, d, false⟩ v) ?_ ?_) ?_) ?_) ?_
    · simpa [tv] using own
    · exact fun hc => use 5 _ _ (by omega) (by omega) e5 (cell_isC.1 hc) (by simp [valS, tv])
    · exact fun hc => use 3 _ _ (by omega) (by omega) e3 (cell_isC.1 hc) (by simp [valS, tv, dbl])
    · exact fun hc => use 4 _ _ (by omega) (by omega) e4 (cell_isC.1 hc) (by simp [valS, tv])
    · exact fun hc => use 6 _ _ (by omega) (by omega) e6 (cell_isC.1 hc) (by simp [valS, tv])
  · obtain ⟨e3, e5, e4, e6⟩ := srcHi m d
    simp only [ag, if_true]
    unfold againHi
    refine min_cases (P := fun v => Der K G n ⟨m, d, true⟩ v) (min_cases (P := fun v => Der K G n ⟨m, d, true⟩ v) (min_cases (P := fun v => Der K G n ⟨m, d, true⟩ v) (min_cases (P := fun v => Der K G n ⟨m, d, true⟩ v) ?_ ?_) ?_) ?_) ?_
    · simpa [tv] using own
    · exact fun hc => use 3 _ _ (by omega) (by omega) e3 (cell_isC.1 hc) (by simp [valS, tv, dbl])
    · exact fun hc => use 5 _ _ (by omega) (by omega) e5 (cell_isC.1 hc) (by simp [valS, tv])
    · exact fun hc => use 4 _ _ (by omega) (by omega) e4 (cell_isC.1 hc) (by simp [valS, tv])
    · exact fun hc => use 6 _ _ (by omega) (by omega) e6 (cell_isC.1 hc) (by simp [valS, tv])

theorem againLo_ge (n : Int) (t : Tb) (m d : Int) : gt2 t.lo m d ≤ againLo n t m d ∧ (isCell (m - 1) d n = true → gt2 t.lo (m - 1) d ≤ againLo n t m d) ∧ (isCell (m + 1) d n = true → (gt2 t.lo (m + 1) d + 1).tdiv 2 ≤ againLo n t m d) ∧
    (isCell m (d + 1) n = true → gt2 t.lo m (d + 1) ≤ againLo n t m d) ∧ (isCell (m + od d) (d + od d) n = true → gt2 t.lo (m + od d) (d + od d) ≤ againLo n t m d) := by
  unfold againLo
  dsimp only
  have a1 := max_ge (a := gt2 t.lo m d) (v := gt2 t.lo (m - 1) d) (c := isCell (m - 1) d n)
  generalize (if isCell (m - 1) d n = true then max (gt2 t.lo m d) (gt2 t.lo (m - 1) d) else gt2 t.lo m d) = x1 at a1 ⊢
  have a2 := max_ge (a := x1) (v := (gt2 t.lo (m + 1) d + 1).tdiv 2) (c := isCell (m + 1) d n)
  generalize (if isCell (m + 1) d n = true then max x1 ((gt2 t.lo (m + 1) d + 1).tdiv 2) else x1) = x2 at a2 ⊢
  have a3 := max_ge (a := x2) (v := gt2 t.lo m (d + 1)) (c := isCell m (d + 1) n)
  generalize (if isCell m (d + 1) n = true then max x2 (gt2 t.lo m (d + 1)) else x2) = x3 at a3 ⊢
  have a4 := max_ge (a := x3) (v := gt2 t.lo (m + od d) (d + od d)) (c := isCell (m + od d) (d + od d) n)
  generalize (if isCell (m + od d) (d + od d) n = true then max x3 (gt2 t.lo (m + od d) (d + od d)) else x3) = x4 at a4 ⊢
  exact ⟨by omega, fun h => by have := a1.2 h; omega, fun h => by have := a2.2 h; omega, fun h => by have := a3.2 h; omega, fun h => a4.2 h⟩
theorem againHi_le (n : Int) (t : Tb) (m d : Int) : againHi n t m d ≤ gt2 t.hi m d ∧ (isCell (m - 1) d n = true → againHi n t m d ≤ 2 * gt2 t.hi (m - 1) d) ∧ (isCell (m + 1) d n = true → againHi n t m d ≤ gt2 t.hi (m + 1) d) ∧
    (isCell m (d - 1) n = true → againHi n t m d ≤ gt2 t.hi m (d - 1)) ∧ (isCell (m + od d) (d + od d) n = true → againHi n t m d ≤ gt2 t.hi (m + od d) (d + od d)) := by
  unfold againHi
  dsimp only
  have a1 := min_le (a := gt2 t.hi m d) (v := 2 * gt2 t.hi (m - 1) d) (c := isCell (m - 1) d n)
  generalize (if isCell (m - 1) d n = true then min (gt2 t.hi m d) (2 * gt2 t.hi (m - 1) d) else gt2 t.hi m d) = x1 at a1 ⊢
  have a2 := min_le (a := x1) (v := gt2 t.hi (m + 1) d) (c := isCell (m + 1) d n)
  generalize (if isCell (m + 1) d n = true then min x1 (gt2 t.hi (m + 1) d) else x1) = x2 at a2 ⊢
  have a3 := min_le (a := x2) (v := gt2 t.hi m (d - 1)) (c := isCell m (d - 1) n)
  generalize (if isCell m (d - 1) n = true then min x2 (gt2 t.hi m (d - 1)) else x2) = x3 at a3 ⊢
  have a4 := min_le (a := x3) (v := gt2 t.hi (m + od d) (d + od d)) (c := isCell (m + od d) (d + od d) n)
  generalize (if isCell (m + od d) (d + od d) n = true then min x3 (gt2 t.hi (m + od d) (d + od d)) else x3) = x4 at a4 ⊢
  exact ⟨by omega, fun h => by have := a1.2 h; omega, fun h => by have := a2.2 h; omega, fun h => by have := a3.2 h; omega, fun h => a4.2 h⟩
/-- again is no worse, and no worse than what a rule yields. -/
theorem again_ge (n : Int) (t : Tb) (s : Side) : better s (tv t s) (ag n t s) = false ∧ ∀ r, 3 ≤ r → r ≤ 6 → isC n (srcS r s) → better s (valS r s (tv t (srcS r s))) (ag n t s) = false := by
  obtain ⟨m, d, u⟩ := s
  cases u
  · obtain ⟨e5, e3, e4, e6⟩ := srcLo m d
    obtain ⟨a0, a1, a2, a3, a4⟩ := againLo_ge n t m d
    refine ⟨by simp [better, ag, tv]; omega, ?_⟩
    intro r h3 h6 hc
    have hr : r = 3 ∨ r = 4 ∨ r = 5 ∨ r = 6 := by omega
    rcases hr with rfl | rfl | rfl | rfl
    · rw [e3] at hc ⊢
      have := a2 (cell_isC.2 hc)
      simp [better, ag, tv, valS, dbl]; omega
    · rw [e4] at hc ⊢
      have := a3 (cell_isC.2 hc)
      simp [better, ag, tv, valS]; omega
    · rw [e5] at hc ⊢
      have := a1 (cell_isC.2 hc)
      simp [better, ag, tv, valS]; omega
    · rw [e6] at hc ⊢
      have := a4 (cell_isC.2 hc)
      simp [better, ag, tv, valS]; omega
  · obtain ⟨e3, e5, e4, e6⟩ := srcHi m d
    obtain ⟨a0, a1, a2, a3, a4⟩ := againHi_le n t m d
    refine ⟨by simp [better, ag, tv]; omega, ?_⟩
    intro r h3 h6 hc
    have hr : r = 3 ∨ r = 4 ∨ r = 5 ∨ r = 6 := by omega
    rcases hr with rfl | rfl | rfl | rfl
    · rw [e3] at hc ⊢
      have := a1 (cell_isC.2 hc)
      simp [better, ag, tv, valS, dbl]; omega
    · rw [e4] at hc ⊢
      have := a3 (cell_isC.2 hc)
      simp [better, ag, tv, valS]; omega
    · rw [e5] at hc ⊢
      have := a2 (cell_isC.2 hc)
      simp [better, ag, tv, valS]; omega
    · rw [e6] at hc ⊢
      have := a4 (cell_isC.2 hc)
      simp [better, ag, tv, valS]; omega

/-- A table on the way. -/
structure TabJ (K : List Known) (G : List Int) (n : Nat) (t : Tb) : Prop where
  rl : Rect n t.lo
  rh : Rect n t.hi
  bl : Bdd t.lo
  bh : Bdd t.hi
  der : ∀ s, isC n s → Der K G n s (tv t s)
  base : ∀ s v, Bs K G n s v → better s v (tv t s) = false
/-- A table that again leaves as it is has the best bounds. -/
theorem TabJ.best {K : List Known} {G : List Int} {n : Nat} {t : Tb} (h : TabJ K G n t) (hf : ∀ s, isC n s → ag n t s = tv t s) {s : Side} (hs : isC n s) : bst K G n s = tv t s := by
  refine IsBest.eq ⟨h.der s hs, ?_⟩
  intro w hw
  induction hw with
  | known k h1 h2 h3 => exact h.base _ _ (.known k h1 h2 h3)
  | one s h1 h2 => exact h.base _ _ (.one s h1 h2)
  | two s h1 h2 => exact h.base _ _ (.two s h1 h2)
  | rule r s v hs h3 h6 hc _ ih =>
    have h1 := ih hc
    rw [better_up (srcS_up r s)] at h1
    have h2 := (again_ge n t s).2 r h3 h6 hc
    rw [hf s hs] at h2
    exact nb_trans (valS_mono h1) h2

def updN (n : Nat) (t : Tb) (m d : Nat) : Tb := ⟨t.lo.set m ((t.lo.getD m []).set d (againLo n t m d)), t.hi.set m ((t.hi.getD m []).set d (againHi n t m d))⟩
theorem gt2_updN {n : Nat} {l : List (List Int)} (hl : Rect n l) {m d : Nat} (hm : m ≤ n) (hd : d ≤ n) (x : Int) (a b : Nat) : gt2 (l.set m ((l.getD m []).set d x)) a b = if a = m ∧ b = d then x else gt2 l a b := by
  unfold gt2
  simp only [Int.toNat_natCast, List.getD]
  have hml : m < l.length := by have := hl.1; omega
  have hdl : d < l[m].length := by have := hl.2 l[m] (List.getElem_mem hml); omega
  rw [List.getElem?_set]
  by_cases e : m = a
  · subst e
    rw [if_pos rfl, if_pos hml]
    simp only [Option.getD_some, List.getElem?_eq_getElem hml]
    rw [List.getElem?_set]
    by_cases e2 : d = b
    · subst e2; simp [hdl]
    · rw [if_neg e2, if_neg (fun h => e2 h.2.symm)]
  · rw [if_neg e, if_neg (fun h => e h.1.symm)]
theorem rect_updN {n : Nat} {l : List (List Int)} (hl : Rect n l) {m d : Nat} (hm : m ≤ n) (x : Int) : Rect n (l.set m ((l.getD m []).set d x)) := by
  have hml : m < l.length := by have := hl.1; omega
  refine ⟨by rw [List.length_set]; exact hl.1, ?_⟩
  intro r hr
  rcases List.mem_or_eq_of_mem_set hr with h | rfl
  · exact hl.2 r h
  · rw [List.length_set, getD_in hml]
    exact hl.2 _ (List.getElem_mem hml)
theorem bdd_updN {n : Nat} {l : List (List Int)} (hl : Rect n l) (hb : Bdd l) {m d : Nat} (hm : m ≤ n) {x : Int} (hx : -67108864 ≤ x ∧ x ≤ 67108864) : Bdd (l.set m ((l.getD m []).set d x)) := by
  have hml : m < l.length := by have := hl.1; omega
  intro r hr y hy
  rcases List.mem_or_eq_of_mem_set hr with h | rfl
  · exact hb r h y hy
  · rcases List.mem_or_eq_of_mem_set hy with h | rfl
    · rw [getD_in hml] at h
      exact hb _ (List.getElem_mem hml) y h
    · exact hx
theorem tv_upd {K : List Known} {G : List Int} {n : Nat} {t : Tb} (h : TabJ K G n t) {m d : Nat} (hm : m ≤ n) (hd : d ≤ n) {s : Side} (hs : isC n s) : tv (updN n t m d) s = if s.n = m ∧ s.d = d then ag n t s else tv t s := by
  obtain ⟨sn, sd, su⟩ := s
  have c1 := hs.1; have c2 := hs.2.1; have c3 := hs.2.2
  simp only at c1 c2 c3
  obtain ⟨a, rfl⟩ : ∃ a : Nat, sn = a := ⟨sn.toNat, by omega⟩
  obtain ⟨b, rfl⟩ : ∃ b : Nat, sd = b := ⟨sd.toNat, by omega⟩
  have e : ((a : Int) = m ∧ (b : Int) = d) ↔ (a = m ∧ b = d) := by omega
  cases su
  · simp only [tv, ag, updN, if_false, Bool.false_eq_true]
    rw [gt2_updN h.rl hm hd]
    by_cases he : a = m ∧ b = d
    · rw [if_pos he, if_pos (e.2 he), he.1, he.2]
    · rw [if_neg he, if_neg (fun h => he (e.1 h))]
  · simp only [tv, ag, updN, if_true]
    rw [gt2_updN h.rh hm hd]
    by_cases he : a = m ∧ b = d
    · rw [if_pos he, if_pos (e.2 he), he.1, he.2]
    · rw [if_neg he, if_neg (fun h => he (e.1 h))]
/-- The values of a table on the way. -/
theorem TabJ.bnd {K : List Known} {G : List Int} {n : Nat} {t : Tb} (hK : rightK K = true) (hn : n ≤ 8) (h : ∀ s, isC n s → Der K G n s (tv t s)) (hb : ∀ s v, Bs K G n s v → better s v (tv t s) = false) {s : Side} (hs : isC n s) : 1 ≤ tv t s ∧ tv t s ≤ 16777216 := by
  obtain ⟨hb1, hb2, hb3⟩ := isBest_bst (G := G) hK hn hs
  have h1 := hb1.2 _ (h s hs)
  have hp := two_pow (n := s.n) (by have := hs.1; have := hs.2.1; omega) (by have := hs.2.2; omega)
  cases hu : s.up
  · have h2 := hb s _ (.two s hs (.inl hu))
    simp [better, hu] at h1 h2
    omega
  · have h2 := hb s _ (.one s hs (.inl hu))
    simp [better, hu] at h1 h2
    omega
def muN (n : Nat) (t : Tb) : Nat := sumL (fun s => if s.up = true then (tv t s).toNat else (16777217 - tv t s).toNat) (sidesL n)
theorem TabJ.step {K : List Known} {G : List Int} {n : Nat} (hK : rightK K = true) (hn : n ≤ 8) {t : Tb} (h : TabJ K G n t) {m d : Nat} (h1 : 1 ≤ d) (h2 : d ≤ m) (h3 : m ≤ n) :
    TabJ K G n (updN n t m d) ∧ muN n (updN n t m d) ≤ muN n t ∧ (¬ (againLo n t m d = gt2 t.lo m d ∧ againHi n t m d = gt2 t.hi m d) → muN n (updN n t m d) < muN n t) := by
  have tvu := fun {s} (hs : isC n s) => tv_upd h h3 (show d ≤ n by omega) hs
  have hda : ∀ s, isC n s → Der K G n s (ag n t s) := fun s hs => again_der h.der hs
  have hba : ∀ s v, Bs K G n s v → better s v (ag n t s) = false := fun s v hv => nb_trans (h.base s v hv) (again_ge n t s).1
  have hder : ∀ s, isC n s → Der K G n s (tv (updN n t m d) s) := by
    intro s hs
    rw [tvu hs]
    split
    · exact hda s hs
    · exact h.der s hs
  have hbase : ∀ s v, Bs K G n s v → better s v (tv (updN n t m d) s) = false := by
    intro s v hv
    have hs : isC n s := by cases hv <;> assumption
    rw [tvu hs]
    split
    · exact hba s v hv
    · exact h.base s v hv
  have cm : ∀ u, isC n ⟨(m : Int), (d : Int), u⟩ := fun u => ⟨by simp only; omega, by simp only; omega, by simp only; omega⟩
  have agb : ∀ u, 1 ≤ ag n t ⟨m, d, u⟩ ∧ ag n t ⟨m, d, u⟩ ≤ 16777216 := by
    intro u
    have := TabJ.bnd hK hn hder hbase (cm u)
    have ht := tvu (cm u)
    rw [if_pos ⟨rfl, rfl⟩] at ht
    rwa [ht] at this
  have al := agb false
  have ah := agb true
  simp only [ag, if_false, Bool.false_eq_true, if_true] at al ah
  refine ⟨⟨rect_updN h.rl h3 _, rect_updN h.rh h3 _, bdd_updN h.rl h.bl h3 (by omega), bdd_updN h.rh h.bh h3 (by omega), hder, hbase⟩, ?_⟩
  have cel : ∀ s ∈ sidesL n, isC n s := fun s hs => isC_side hs
  have one : ∀ s, isC n s → (1 ≤ tv t s ∧ tv t s ≤ 16777216) ∧ better s (tv t s) (ag n t s) = false ∧ (s.n = m ∧ s.d = d → 1 ≤ ag n t s ∧ ag n t s ≤ 16777216) := by
    intro s hs
    refine ⟨TabJ.bnd hK hn h.der h.base hs, (again_ge n t s).1, ?_⟩
    rintro ⟨e1, e2⟩
    have := agb s.up
    rw [← e1, ← e2] at this
    exact this
  have hle : ∀ s ∈ sidesL n, (if s.up = true then (tv (updN n t m d) s).toNat else (16777217 - tv (updN n t m d) s).toNat) ≤ (if s.up = true then (tv t s).toNat else (16777217 - tv t s).toNat) := by
    intro s hs
    obtain ⟨o1, o2, o3⟩ := one s (cel s hs)
    rw [tvu (cel s hs)]
    by_cases e : s.n = m ∧ s.d = d
    · rw [if_pos e]
      have := o3 e
      cases hu : s.up <;> simp [better, hu] at o2 ⊢ <;> omega
    · rw [if_neg e]; exact Nat.le_refl _
  refine ⟨sum_leM _ hle, ?_⟩
  intro hne
  have hmem : ∀ u : Bool, (⟨m, d, u⟩ : Side) ∈ sidesL n := fun u => (mem_sides _ n).2 (cm u)
  by_cases e : againLo n t m d = gt2 t.lo m d
  · have e2 : againHi n t m d ≠ gt2 t.hi m d := fun e2 => hne ⟨e, e2⟩
    refine sum_ltM ⟨m, d, true⟩ ?_ _ hle (hmem true)
    obtain ⟨o1, o2, o3⟩ := one _ (cm true)
    have ht := tvu (cm true)
    rw [if_pos ⟨rfl, rfl⟩] at ht
    rw [ht]
    have o3 := o3 ⟨rfl, rfl⟩
    simp only [if_true, ag, tv, better] at o1 o2 o3 ⊢
    simp at o2
    omega
  · refine sum_ltM ⟨m, d, false⟩ ?_ _ hle (hmem false)
    obtain ⟨o1, o2, o3⟩ := one _ (cm false)
    have ht := tvu (cm false)
    rw [if_pos ⟨rfl, rfl⟩] at ht
    rw [ht]
    have o3 := o3 ⟨rfl, rfl⟩
    simp only [if_false, Bool.false_eq_true, ag, tv, better] at o1 o2 o3 ⊢
    simp at o2
    omega

end Go.Proofs.Ythplmnpfaagciaa.Pw

/- Made, with its value. -/
set_option linter.unusedVariables false
set_option linter.unusedSimpArgs false
namespace Go.Proofs.Ythplmnpfaagciaa.Pw
open Go

theorem t0_tab : TabJ [] [] 8 t0 := by
  have key : ((List.range 9).all fun m => (List.range 9).all fun d => !(decide (1 ≤ d) && decide (d ≤ m)) || (decide (gt2 t0.lo m d = if d = 1 then 2 ^ m else 2) && decide (gt2 t0.hi m d = if d = m then 2 else 2 ^ m))) = true := by decide +kernel
  have val : ∀ m d : Nat, 1 ≤ d → d ≤ m → m ≤ 8 → gt2 t0.lo m d = (if d = 1 then 2 ^ m else 2) ∧ gt2 t0.hi m d = (if d = m then 2 else 2 ^ m) := by
    intro m d h1 h2 h3
    have h4 := List.all_eq_true.1 (List.all_eq_true.1 key m (List.mem_range.2 (by omega))) d (List.mem_range.2 (by omega))
    simp only [h1, h2, decide_true, Bool.and_self, Bool.not_true, Bool.false_or, Bool.and_eq_true, decide_eq_true_eq] at h4
    exact h4
  have pw : ∀ m : Nat, 1 ≤ m → m ≤ 8 → (2 : Int) ≤ 2 ^ m := by
    intro m h1 h2
    have : m = 1 ∨ m = 2 ∨ m = 3 ∨ m = 4 ∨ m = 5 ∨ m = 6 ∨ m = 7 ∨ m = 8 := by omega
    rcases this with rfl | rfl | rfl | rfl | rfl | rfl | rfl | rfl <;> decide
  have cell : ∀ s, isC (8 : Nat) s → ∃ m d : Nat, s = ⟨m, d, s.up⟩ ∧ 1 ≤ d ∧ d ≤ m ∧ m ≤ 8 := by
    intro s hs
    have h1 := hs.1; have h2 := hs.2.1; have h3 := hs.2.2
    obtain ⟨sn, sd, su⟩ := s
    simp only at h1 h2 h3
    refine ⟨sn.toNat, sd.toNat, ?_, by omega, by omega, by omega⟩
    simp only [Side.mk.injEq, and_true]
    omega
  have hJ := t0_JB
  refine ⟨hJ.rl, hJ.rh, hJ.bl, hJ.bh, ?_, ?_⟩
  · intro s hs
    obtain ⟨m, d, e, h1, h2, h3⟩ := cell s hs
    rw [e] at hs ⊢
    cases s.up
    · have hv : tv t0 ⟨m, d, false⟩ = if d = 1 then 2 ^ m else 2 := by simp [tv, (val m d h1 h2 h3).1]
      rw [hv]
      split
      · next h => subst h; exact Der.one ⟨m, (1 : Nat), false⟩ hs (.inr rfl)
      · exact Der.two ⟨m, d, false⟩ hs (.inl rfl)
    · have hv : tv t0 ⟨m, d, true⟩ = if d = m then 2 else 2 ^ m := by simp [tv, (val m d h1 h2 h3).2]
      rw [hv]
      split
      · next h => subst h; exact Der.two ⟨d, d, true⟩ hs (.inr rfl)
      · exact Der.one ⟨m, d, true⟩ hs (.inl rfl)
  · intro s v hv
    have hs : isC (8 : Nat) s := by cases hv <;> assumption
    obtain ⟨m, d, e, h1, h2, h3⟩ := cell s hs
    have hp := pw m (by omega) h3
    have vl := (val m d h1 h2 h3).1
    have vh := (val m d h1 h2 h3).2
    have e1 : s.n = m := congrArg Side.n e
    have e2 : s.d = d := congrArg Side.d e
    cases hv with
    | known k hk => simp at hk
    | one _ _ h =>
      rw [e1]
      unfold tv better
      rw [e1, e2, vl, vh]
      cases hu : s.up
      · rw [hu, e2] at h
        have : d = 1 := by rcases h with h | h; (cases h); omega
        subst this
        simp
      · simp; split <;> omega
    | two _ _ h =>
      unfold tv better
      rw [e1, e2, vl, vh]
      cases hu : s.up
      · simp; split <;> omega
      · rw [hu, e1, e2] at h
        have : d = m := by rcases h with h | h; (cases h); omega
        subst this
        simp
theorem vWhole8X : Val Try.prog 23 [.int .i64 8, .list false sh5 [], .list false .leaf []] (fun r => ∃ t, JB t ∧ (∀ m d : Nat, 1 ≤ d → d ≤ m → m ≤ 8 → gt2 t.lo m d = bst [] [] (8 : Nat) ⟨m, d, false⟩ ∧ gt2 t.hi m d = bst [] [] (8 : Nat) ⟨m, d, true⟩) ∧ r = t.D) := by
  refine HC.ret (hcWhole8 (fun t => JB t ∧ TabJ [] [] 8 t) muB ⟨t0_JB, t0_tab⟩ (fun t h => ⟨h.1.rl, h.1.rh, h.1.bl, h.1.bh⟩) (fun t m d h1 h2 h3 h => ⟨⟨(stepsB t m d h1 h2 h3 h.1).1, (TabJ.step (by decide) (Nat.le_refl 8) h.2 h1 h2 h3).1⟩, (stepsB t m d h1 h2 h3 h.1).2⟩)) ?_
  rintro r H' ⟨t, ⟨hJ, hT⟩, hfix, rfl, rfl⟩
  have hbest : ∀ m d : Nat, 1 ≤ d → d ≤ m → m ≤ 8 → gt2 t.lo m d = bst [] [] (8 : Nat) ⟨m, d, false⟩ ∧ gt2 t.hi m d = bst [] [] (8 : Nat) ⟨m, d, true⟩ := by
    have hf : ∀ s, isC (8 : Nat) s → ag (8 : Nat) t s = tv t s := by
      intro s hs
      have h1 := hs.1; have h2 := hs.2.1; have h3 := hs.2.2
      obtain ⟨sn, sd, su⟩ := s
      simp only at h1 h2 h3
      obtain ⟨a, rfl⟩ : ∃ a : Nat, sn = a := ⟨sn.toNat, by omega⟩
      obtain ⟨b, rfl⟩ : ∃ b : Nat, sd = b := ⟨sd.toNat, by omega⟩
      have := hfix a b (by omega) (by omega) (by omega)
      cases su
      · exact this.1
      · exact this.2
    intro m d h1 h2 h3
    have hc : ∀ u, isC (8 : Nat) ⟨(m : Int), (d : Int), u⟩ := fun u => ⟨by simp only; omega, by simp only; omega, by simp only; omega⟩
    exact ⟨(hT.best hf (hc false)).symm, (hT.best hf (hc true)).symm⟩
  obtain ⟨lo, hi⟩ := t
  obtain ⟨A0, A1, A2, A3, A4, A5, A6, A7, A8, e1, ha0, ha1, ha2, ha3, ha4, ha5, ha6, ha7, ha8⟩ := rect9 hJ.rl
  obtain ⟨B0, B1, B2, B3, B4, B5, B6, B7, B8, e2, hb0, hb1, hb2, hb3, hb4, hb5, hb6, hb7, hb8⟩ := rect9 hJ.rh
  simp only at e1 e2
  subst e1; subst e2
  have fz := frzW (.agg [.sl 2 0 9, .sl 3 0 9]) A0 A1 A2 A3 A4 A5 A6 A7 A8 B0 B1 B2 B3 B4 B5 B6 B7 B8 ha0 ha1 ha2 ha3 ha4 ha5 ha6 ha7 ha8 hb0 hb1 hb2 hb3 hb4 hb5 hb6 hb7 hb8 []
  rw [List.append_nil] at fz
  obtain ⟨H1, hz, hz1, hz2⟩ := fz
  refine ⟨H1, _, hz, .agg _ _ (.cons _ _ _ _ hz1 (.cons _ _ _ _ hz2 .nil)) rfl, rfl, _, hJ, hbest, rfl⟩

/-- A known bound of a description, and all of them. -/
noncomputable def knX (x : Raw4) : Known :=
  ⟨1 + x.a % 8, 1 + x.b.tmod (1 + x.a % 8), decide (x.c % 2 = 1), if x.c % 2 = 1 then max 1 (bst [] [] (8 : Nat) ⟨1 + x.a % 8, 1 + x.b.tmod (1 + x.a % 8), true⟩ - x.d % 8) else bst [] [] (8 : Nat) ⟨1 + x.a % 8, 1 + x.b.tmod (1 + x.a % 8), false⟩ + x.d % 4, x.c / 2 % 4⟩
noncomputable def madeX (L : List Raw4) : List Known := (L.take 8).map knX

set_option maxHeartbeats 4000000 in
theorem vMadeX (f : Bool) (L : List Raw4) (hL : ∀ x ∈ L, x.ok) : Val Try.prog 10 [.agg [.list f sh44 (L.map Raw4.D)]] (fun r => r = knownsD false (madeX L)) := by
  refine HC.ret (Q0 := fun r H' => ∃ K, r = .sl 1 0 K.length ∧ H' = [.var (.agg [.list f sh44 (L.map Raw4.D)]), .row sh5 (K.map Known.D)] ∧ K = madeX L) ?_ ?_
  · refine hc_ofS (okc Try.f10.ntmps 0) (fn := Try.f10) (cd := _) rfl rfl rfl rfl rfl rfl (fun hbd => ?_)
    have hlen64 : L.length ≤ 9223372036854775807 := by simpa [maxInt] using hbd.1.1.1
    conv => whnf
    refine lp (fun n e H => ∃ (i : Nat) (K : List Known), i ≤ L.length ∧ i ≤ 8 ∧ n = 8 - i ∧ K.length = i ∧ (MadeR K ∧ K = (L.take i).map knX) ∧ H = [.var (.agg [.list f sh44 (L.map Raw4.D)]), .row sh5 (K.map Known.D)] ∧ e = [(4, .int .i64 i), (3, .sl 1 0 K.length), (1, .ptr 0 [])]) ?_ ?_
    · refine ⟨9, back 8 _ (by omega) ?_ ⟨0, [], by omega, by omega, rfl, rfl, ⟨⟨by simp, by simp⟩, rfl⟩, rfl, rfl⟩⟩
      exact se0 rfl (se0 rfl (se0 rfl trivial))
    · rintro n e H ⟨i, K, hi, hi8, rfl, hKi, ⟨hK, hKX⟩, rfl, rfl⟩
      conv => whnf
      refine ifb (fun h1 => ?_) (fun h1 => ?_)
      · have h1 : i < L.length := by
          have : decide ((i : Int) < ((L.map Raw4.D).length : Nat)) = true := h1
          simp at this; omega
        conv => whnf
        refine ifb (fun h2 => ?_) (fun h2 => ?_)
        · have h2 : i < 8 := by
            have : decide ((i : Int) < 8) = true := h2
            simp at this; omega
          obtain ⟨x, hx⟩ : ∃ x, L[i]? = some x := ⟨_, List.getElem?_eq_getElem h1⟩
          obtain ⟨⟨xa1, xa2⟩, ⟨xb1, xb2⟩, ⟨xc1, xc2⟩, ⟨xd1, xd2⟩⟩ := hL x (List.mem_of_getElem? hx)
          conv => whnf
          refine ob (by omega) ?_
          refine ⟨x.D, by rw [List.getElem?_map, show ((i : Int)).toNat = i from by omega, hx]; rfl, ?_⟩
          conv => whnf
          refine ob (by decide) ?_
          conv => whnf
          refine ob (by decide) ?_
          refine iv (x.a % 8) (Int.tmod_eq_emod_of_nonneg xa1) ?_
          conv => whnf
          refine iv (x.a % 8) (w64 (by omega) (by omega)) ?_
          conv => whnf
          refine iv (1 + x.a % 8) (w64 (by omega) (by omega)) ?_
          obtain ⟨N, hN, hN1, hN8⟩ : ∃ N : Nat, 1 + x.a % 8 = N ∧ 1 ≤ N ∧ N ≤ 8 := ⟨(1 + x.a % 8).toNat, by omega, by omega, by omega⟩
          rw [hN]
          conv => whnf
          refine ob (by decide) ?_
          conv => whnf
          refine iv x.b (w64 (by omega) (by omega)) ?_
          conv => whnf
          refine ob (by omega) ?_
          have hm1 := Int.tmod_nonneg (N : Int) xb1
          have hm2 := Int.tmod_lt_of_pos x.b (show (0 : Int) < N by omega)
          refine iv (x.b.tmod N) rfl ?_
          conv => whnf
          refine iv (1 + x.b.tmod N) (w64 (by omega) (by omega)) ?_
          obtain ⟨M, hM, hM1, hMN⟩ : ∃ M : Nat, 1 + x.b.tmod N = M ∧ 1 ≤ M ∧ M ≤ N := ⟨(1 + x.b.tmod N).toNat, by omega, by omega, by omega⟩
          rw [hM]
          conv => whnf
          refine Val.call vWhole8X (Frz.step 3 sh5 [] rfl rfl (Frz.step 4 .leaf [] rfl rfl (.refl _))) (.cons _ _ _ _ (.refl _) (.cons _ _ _ _ (LeD.frz 3 0 0 sh5 [] rfl (Nat.le_refl 0)) (.cons _ _ _ _ (LeD.frz 4 0 0 .leaf [] rfl (Nat.le_refl 0)) .nil))) rfl ?_
          rintro r ⟨t, hJ, hX, rfl⟩
          have hlo := hJ.lo N M hM1 hMN hN8
          have hxl := (hX N M hM1 hMN hN8).1
          have hxh := (hX N M hM1 hMN hN8).2
          have htake : L.take (i + 1) = L.take i ++ [x] := by rw [List.take_succ_eq_append_getElem h1]; rw [List.getElem?_eq_getElem h1] at hx; cases hx; rfl
          have hhi := hJ.hi N M hM1 hMN hN8
          obtain ⟨ra, ga1, ga2⟩ := rect_get hJ.rl N M (by omega) (by omega)
          obtain ⟨rb, gb1, gb2⟩ := rect_get hJ.rh N M (by omega) (by omega)
          conv => whnf
          refine ob (by decide) ?_
          conv => whnf
          refine ob (by decide) ?_
          refine iv (x.c % 2) (Int.tmod_eq_emod_of_nonneg xc1) ?_
          conv => whnf
          refine ob (by decide) ?_
          conv => whnf
          refine ob (by decide) ?_
          refine iv (x.c / 2) (by rw [Int.tdiv_eq_ediv_of_nonneg xc1]; exact w8 (by omega) (by omega)) ?_
          conv => whnf
          refine ob (by decide) ?_
          refine iv (x.c / 2 % 4) (Int.tmod_eq_emod_of_nonneg (by omega)) ?_
          conv => whnf
          refine iv (x.c / 2 % 4) (w64 (by omega) (by omega)) ?_
          conv => whnf
          refine ifb (fun hu => ?_) (fun hu => ?_)
          · have c1 : x.c % 2 = 1 := by
              have : decide (x.c % 2 = 1) = true := hu
              simp at this; omega
            conv => whnf
            refine drS 14 (by decide +kernel) ?_
            conv => whnf
            refine ob (by omega) ?_
            refine ⟨rowD rb, by rw [List.getElem?_map, gb1]; rfl, ?_⟩
            conv => whnf
            refine ob (by omega) ?_
            refine ⟨.int .i64 (gt2 t.hi N M), by rw [List.getElem?_map, gb2]; rfl, ?_⟩
            conv => whnf
            refine ob (by decide) ?_
            conv => whnf
            refine ob (by decide) ?_
            refine iv (x.d % 8) (Int.tmod_eq_emod_of_nonneg xd1) ?_
            conv => whnf
            refine iv (x.d % 8) (w64 (by omega) (by omega)) ?_
            conv => whnf
            refine iv (gt2 t.hi N M - x.d % 8) (w64 (by omega) (by omega)) ?_
            conv => whnf
            refine ob (Nat.le_refl 1) ?_
            conv => whnf
            refine ob (by simp) ?_
            refine ob (show K.length + 1 ≤ 2147483648 by omega) ?_
            conv => whnf
            refine iv ((i + 1 : Nat) : Int) (by rw [w64 (by omega) (by omega)]; omega) ?_
            conv => whnf
            refine ⟨8 - (i + 1), [(4, .int .i64 (i + 1 : Nat)), (3, .sl 1 0 (K ++ [(⟨N, M, decide (x.c % 2 = 1), max 1 (gt2 t.hi N M - x.d % 8), x.c / 2 % 4⟩ : Known)]).length), (1, .ptr 0 [])], [.var (.agg [.list f sh44 (L.map Raw4.D)]), .row sh5 ((K ++ [(⟨N, M, decide (x.c % 2 = 1), max 1 (gt2 t.hi N M - x.d % 8), x.c / 2 % 4⟩ : Known)]).map Known.D)], by omega, ⟨_, .refl _, .inr ⟨[0, 8], ⟨?_, ?_, rfl, rfl⟩⟩⟩, i + 1, _, by omega, by omega, rfl, by simp [hKi], ⟨?_, ?_⟩, rfl, rfl⟩
            · refine ⟨.refl _, rfl, ?_, rfl, .refl _, rfl, trivial⟩
              show LeD _ (.sl 8 0 (K ++ [_]).length) (.sl 8 0 (K.length + 1))
              simp only [List.length_append, List.length_cons, List.length_nil]; exact .refl _
            · refine ⟨rfl, rfl, ?_, ?_, trivial⟩
              · rw [show (K ++ [(⟨N, M, decide (x.c % 2 = 1), max 1 (gt2 t.hi N M - x.d % 8), x.c / 2 % 4⟩ : Known)]).map Known.D = ((K.map Known.D).drop 0).take K.length ++ [Known.D ⟨N, M, decide (x.c % 2 = 1), max 1 (gt2 t.hi N M - x.d % 8), x.c / 2 % 4⟩] from by simp [List.take_of_length_le]]
                simp only [renO]
                rw [ren_cls _ _ (by have := cl_knowns (K ++ [(⟨N, M, decide (x.c % 2 = 1), max 1 (gt2 t.hi N M - x.d % 8), x.c / 2 % 4⟩ : Known)]); simpa [List.take_of_length_le] using this)]
                rfl
              · exact in_cls _ _ (cl_knowns _)
            · refine ⟨by simp [hKi]; omega, ?_⟩
              intro k hk
              rcases List.mem_append.1 hk with hk | hk
              · exact hK.2 k hk
              · simp at hk
                subst hk
                exact ⟨⟨by show (1 : Int) ≤ M; omega, by show (M : Int) ≤ N; omega, by show (N : Int) ≤ 8; omega⟩, ⟨by show (1 : Int) ≤ max 1 (gt2 t.hi N M - x.d % 8); omega, by show max 1 (gt2 t.hi N M - x.d % 8) ≤ (1000 : Int); omega⟩, by show (0 : Int) ≤ x.c / 2 % 4; omega, by show x.c / 2 % 4 ≤ (3 : Int); omega⟩
            · rw [htake, List.map_append, ← hKX]
              refine congrArg (K ++ ·) ?_
              show [_] = [knX x]
              unfold knX
              rw [hN, hM, if_pos c1, ← hxh]
          · have c1 : x.c % 2 = 0 := by
              have : decide (x.c % 2 = 1) = false := hu
              simp at this; omega
            conv => whnf
            refine drS 13 (by decide +kernel) ?_
            conv => whnf
            refine ob (by omega) ?_
            refine ⟨rowD ra, by rw [List.getElem?_map, ga1]; rfl, ?_⟩
            conv => whnf
            refine ob (by omega) ?_
            refine ⟨.int .i64 (gt2 t.lo N M), by rw [List.getElem?_map, ga2]; rfl, ?_⟩
            conv => whnf
            refine ob (by decide) ?_
            conv => whnf
            refine ob (by decide) ?_
            refine iv (x.d % 4) (Int.tmod_eq_emod_of_nonneg xd1) ?_
            conv => whnf
            refine iv (x.d % 4) (w64 (by omega) (by omega)) ?_
            conv => whnf
            refine iv (gt2 t.lo N M + x.d % 4) (w64 (by omega) (by omega)) ?_
            conv => whnf
            refine ob (Nat.le_refl 1) ?_
            conv => whnf
            refine ob (by simp) ?_
            refine ob (show K.length + 1 ≤ 2147483648 by omega) ?_
            conv => whnf
            refine iv ((i + 1 : Nat) : Int) (by rw [w64 (by omega) (by omega)]; omega) ?_
            conv => whnf
            refine ⟨8 - (i + 1), [(4, .int .i64 (i + 1 : Nat)), (3, .sl 1 0 (K ++ [(⟨N, M, decide (x.c % 2 = 1), gt2 t.lo N M + x.d % 4, x.c / 2 % 4⟩ : Known)]).length), (1, .ptr 0 [])], [.var (.agg [.list f sh44 (L.map Raw4.D)]), .row sh5 ((K ++ [(⟨N, M, decide (x.c % 2 = 1), gt2 t.lo N M + x.d % 4, x.c / 2 % 4⟩ : Known)]).map Known.D)], by omega, ⟨_, .refl _, .inr ⟨[0, 8], ⟨?_, ?_, rfl, rfl⟩⟩⟩, i + 1, _, by omega, by omega, rfl, by simp [hKi], ⟨?_, ?_⟩, rfl, rfl⟩
            · refine ⟨.refl _, rfl, ?_, rfl, .refl _, rfl, trivial⟩
              show LeD _ (.sl 8 0 (K ++ [_]).length) (.sl 8 0 (K.length + 1))
              simp only [List.length_append, List.length_cons, List.length_nil]; exact .refl _
            · refine ⟨rfl, rfl, ?_, ?_, trivial⟩
              · rw [show (K ++ [(⟨N, M, decide (x.c % 2 = 1), gt2 t.lo N M + x.d % 4, x.c / 2 % 4⟩ : Known)]).map Known.D = ((K.map Known.D).drop 0).take K.length ++ [Known.D ⟨N, M, decide (x.c % 2 = 1), gt2 t.lo N M + x.d % 4, x.c / 2 % 4⟩] from by simp [List.take_of_length_le]]
                simp only [renO]
                rw [ren_cls _ _ (by have := cl_knowns (K ++ [(⟨N, M, decide (x.c % 2 = 1), gt2 t.lo N M + x.d % 4, x.c / 2 % 4⟩ : Known)]); simpa [List.take_of_length_le] using this)]
                rfl
              · exact in_cls _ _ (cl_knowns _)
            · refine ⟨by simp [hKi]; omega, ?_⟩
              intro k hk
              rcases List.mem_append.1 hk with hk | hk
              · exact hK.2 k hk
              · simp at hk
                subst hk
                exact ⟨⟨by show (1 : Int) ≤ M; omega, by show (M : Int) ≤ N; omega, by show (N : Int) ≤ 8; omega⟩, ⟨by show (1 : Int) ≤ gt2 t.lo N M + x.d % 4; omega, by show gt2 t.lo N M + x.d % 4 ≤ (1000 : Int); omega⟩, by show (0 : Int) ≤ x.c / 2 % 4; omega, by show x.c / 2 % 4 ≤ (3 : Int); omega⟩
            · rw [htake, List.map_append, ← hKX]
              refine congrArg (K ++ ·) ?_
              show [_] = [knX x]
              unfold knX
              rw [hN, hM, if_neg (by omega), ← hxl]
        · have : i = 8 := by
            have : decide ((i : Int) < 8) = false := h2
            simp at this; omega
          conv => whnf
          exact ⟨K, rfl, rfl, by rw [hKX, this]; rfl⟩
      · have : i = L.length := by
          have : decide ((i : Int) < ((L.map Raw4.D).length : Nat)) = false := h1
          simp at this; omega
        conv => whnf
        exact ⟨K, rfl, rfl, by rw [hKX, this, List.take_length]; unfold madeX; rw [List.take_of_length_le (by omega)]⟩
  · rintro r H' ⟨K, rfl, rfl, rfl⟩
    refine ⟨[.var (.agg [.list f sh44 (L.map Raw4.D)]), .frz sh5 ((madeX L).map Known.D)], knownsD false (madeX L), Frz.step 1 sh5 ((madeX L).map Known.D) rfl (cl_knowns (madeX L)) (.refl _), ?_, rfl, rfl⟩
    have := LeD.frz (H := [.var (.agg [.list f sh44 (L.map Raw4.D)]), .frz sh5 ((madeX L).map Known.D)]) 1 0 (madeX L).length sh5 ((madeX L).map Known.D) rfl (by simp)
    rw [show (((madeX L).map Known.D).drop 0).take (madeX L).length = (madeX L).map Known.D from by simp [List.take_of_length_le]] at this
    exact this

end Go.Proofs.Ythplmnpfaagciaa.Pw

/- TableMore: with more known bounds, and more granted lemmas, no bound gets worse, and what contradicts still does; for a lesser n no bound is better. For every input. -/
set_option linter.unusedVariables false
set_option linter.unusedSimpArgs false
namespace Go.Proofs.Ythplmnpfaagciaa.Pw
open Go

theorem madeX_R {L : List Raw4} (hL : ∀ x ∈ L, x.ok) : MadeR (madeX L) := by
  unfold madeX
  refine ⟨by rw [List.length_map, List.length_take]; omega, ?_⟩
  intro k hk
  obtain ⟨x, hx, rfl⟩ := List.mem_map.1 hk
  obtain ⟨⟨xa1, xa2⟩, ⟨xb1, xb2⟩, ⟨xc1, xc2⟩, ⟨xd1, xd2⟩⟩ := hL x (List.mem_of_mem_take hx)
  have hm1 := Int.tmod_nonneg (1 + x.a % 8) xb1
  have hm2 := Int.tmod_lt_of_pos x.b (show (0 : Int) < 1 + x.a % 8 by omega)
  unfold knX
  obtain ⟨N, hN⟩ : ∃ N, N = 1 + x.a % 8 := ⟨_, rfl⟩
  obtain ⟨M, hM⟩ : ∃ M, M = 1 + x.b.tmod N := ⟨_, rfl⟩
  rw [← hN] at hm1 hm2 ⊢
  rw [← hM]
  have hc : ∀ u, isC (8 : Nat) ⟨N, M, u⟩ := fun u => ⟨by simp only; omega, by simp only; omega, by simp only; omega⟩
  have hr : rightK [] = true := by decide
  obtain ⟨bl, l1, l2⟩ := isBest_bst (K := []) (G := []) hr (Nat.le_refl 8) (hc false)
  obtain ⟨bu, u1, u2⟩ := isBest_bst (K := []) (G := []) hr (Nat.le_refl 8) (hc true)
  have hp := two_pow (n := N) (by omega) (by omega)
  have hl : bst [] [] (8 : Nat) ⟨N, M, false⟩ ≤ 256 := by
    have := der_sound (K := []) (by simp) bl.1
    unfold Snd at this
    simp only [if_false, Bool.false_eq_true] at this
    obtain ⟨C, hC, hv⟩ := this
    have h2 := code_two N.toNat M.toNat (by omega) C hC
    have e : ((2 ^ N.toNat : Nat) : Int) = (2 : Int) ^ N.toNat := by rw [Int.natCast_pow]; rfl
    omega
  have hu : bst [] [] (8 : Nat) ⟨N, M, true⟩ ≤ 256 := by
    have := hi_le (K := []) (G := []) hr (Nat.le_refl 8) (Der.one ⟨N, M, true⟩ (hc true) (.inl rfl)) (hc true)
    simp only at this
    omega
  refine ⟨⟨by simp only; omega, by simp only; omega, by simp only; omega⟩, ?_, by simp only; omega, by simp only; omega⟩
  simp only
  split <;> constructor <;> omega

theorem more_le {K K' : List Known} {G G' : List Int} {n n' : Nat} (hR : rightK K = true) (hR' : rightK K' = true) (hs : ∀ k ∈ K, force k G = true → k ∈ K' ∧ force k G' = true) (hn : n ≤ n') (hn' : n' ≤ 8) {m d : Int} (h1 : 1 ≤ d) (h2 : d ≤ m) (h3 : m ≤ n) :
    bst K G n ⟨m, d, false⟩ ≤ bst K' G' n' ⟨m, d, false⟩ ∧ bst K' G' n' ⟨m, d, true⟩ ≤ bst K G n ⟨m, d, true⟩ := by
  have hc : ∀ u, isC n ⟨m, d, u⟩ := fun u => ⟨h1, h2, h3⟩
  have hc' : ∀ u, isC n' ⟨m, d, u⟩ := fun u => ⟨h1, h2, by simp only; omega⟩
  exact ⟨lo_le hR' hn' (der_more hs (by omega) (der_bst hR (by omega) (hc false))) (hc' false), hi_le hR' hn' (der_more hs (by omega) (der_bst hR (by omega) (hc true))) (hc' true)⟩
theorem more_ok {K K' : List Known} {G G' : List Int} {n n' : Nat} (hR : rightK K = true) (hR' : rightK K' = true) (hs : ∀ k ∈ K, force k G = true → k ∈ K' ∧ force k G' = true) (hn : n ≤ n') (hn' : n' ≤ 8) (h : okCells (cellsC K' G' n' n')) : okCells (cellsC K G n n) := by
  intro c hc
  obtain ⟨m, d, h1, h2, h3, rfl⟩ := (mem_cellsC n).1 hc
  have := more_le hR hR' hs hn hn' (m := m) (d := d) (by omega) (by omega) (by omega)
  have h4 := h _ ((mem_cellsC n').2 ⟨m, d, h1, h2, by omega, rfl⟩)
  simp only [cellM] at h4 ⊢
  omega

def rowI (m : Nat) : Nat → List (Nat × Nat)
  | 0 => []
  | k + 1 => rowI m k ++ [(m, k + 1)]
def cellI : Nat → List (Nat × Nat)
  | 0 => []
  | m + 1 => cellI m ++ rowI (m + 1) (m + 1)
theorem row_map {K : List Known} {G : List Int} {n m : Nat} : ∀ k, rowC K G n m k = (rowI m k).map fun p => cellM K G n p.1 p.2
  | 0 => rfl
  | k + 1 => by simp only [rowC, rowI, List.map_append, row_map k]; rfl
theorem cells_map {K : List Known} {G : List Int} {n : Nat} : ∀ k, cellsC K G n k = (cellI k).map fun p => cellM K G n p.1 p.2
  | 0 => rfl
  | k + 1 => by simp only [cellsC, cellI, List.map_append, cells_map k, row_map]
theorem cellI_ok : ∀ i, i < 36 → ∃ m d, (cellI 8)[i]? = some (m, d) ∧ 1 ≤ d ∧ d ≤ m ∧ m ≤ 8 ∧ (i < 21 → (cellI 6)[i]? = some (m, d) ∧ m ≤ 6) := by
  have key : ((List.range 36).all fun i => match (cellI 8)[i]? with
    | some (m, d) => decide (1 ≤ d) && decide (d ≤ m) && decide (m ≤ 8) && (!decide (i < 21) || (decide ((cellI 6)[i]? = some (m, d)) && decide (m ≤ 6)))
    | none => false) = true := by decide +kernel
  intro i hi
  have := List.all_eq_true.1 key i (List.mem_range.2 hi)
  cases h : (cellI 8)[i]? with
  | none => rw [h] at this; cases this
  | some p =>
    obtain ⟨m, d⟩ := p
    rw [h] at this
    simp only [Bool.and_eq_true, decide_eq_true_eq, Bool.or_eq_true, Bool.not_eq_true', decide_eq_false_iff_not] at this
    exact ⟨m, d, rfl, this.1.1.1, this.1.1.2, this.1.2, fun h => this.2.resolve_left (fun h2 => h2 h)⟩
theorem cmp_b {K K' : List Known} {G G' : List Int} (hR : rightK K = true) (hR' : rightK K' = true) (hs : ∀ k ∈ K, force k G = true → k ∈ K' ∧ force k G' = true) : ∀ i, i < 36 → ∃ x y, (cellsC K G 8 8)[i]? = some x ∧ (cellsC K' G' 8 8)[i]? = some y ∧ x.lo ≤ y.lo ∧ y.hi ≤ x.hi := by
  intro i hi
  obtain ⟨m, d, h, h1, h2, h3, _⟩ := cellI_ok i hi
  have := more_le hR hR' hs (Nat.le_refl 8) (Nat.le_refl 8) (m := m) (d := d) (by omega) (by omega) (by omega)
  exact ⟨cellM K G 8 m d, cellM K' G' 8 m d, by rw [cells_map, List.getElem?_map, h]; rfl, by rw [cells_map, List.getElem?_map, h]; rfl, this.1, this.2⟩
theorem cmp_c {K : List Known} {G : List Int} (hR : rightK K = true) : ∀ i, i < 21 → ∃ x z, (cellsC K G 8 8)[i]? = some x ∧ (cellsC K G 6 6)[i]? = some z ∧ z.lo ≤ x.lo ∧ x.hi ≤ z.hi := by
  intro i hi
  obtain ⟨m, d, h, h1, h2, h3, h4⟩ := cellI_ok i (by omega)
  obtain ⟨h5, h6⟩ := h4 hi
  have := more_le (G := G) (G' := G) hR hR (fun k a b => ⟨a, b⟩) (show 6 ≤ 8 by omega) (Nat.le_refl 8) (m := m) (d := d) (by omega) (by omega) (by omega)
  exact ⟨cellM K G 8 m d, cellM K G 6 m d, by rw [cells_map, List.getElem?_map, h]; rfl, by rw [cells_map, List.getElem?_map, h5]; rfl, this.1, this.2⟩

set_option maxHeartbeats 4000000 in
theorem vMore (g0 g1 g2 : D) (h0 : TyD (cx 0 0) 6 24 g0) (h1 : TyD (cx 0 0) 6 24 g1) (h2 : TyD (cx 0 0) 6 26 g2) : Val Try.prog 6 [g0, g1, g2] (fun r => r = .bool true) := by
  obtain ⟨L, rfl, hL⟩ := tyRaw h0
  obtain ⟨L', rfl, hL'⟩ := tyRaw h1
  obtain ⟨G, rfl⟩ := tyInts h2
  refine Val.of ?_
  refine hc_ofS (okc Try.f6.ntmps 0) (fn := Try.f6) (cd := _) rfl rfl rfl rfl rfl rfl (fun hbd => ?_)
  conv => whnf
  refine Val.call vEx (.refl _) .nil rfl ?_
  rintro r rfl
  conv => whnf
  refine ifb (fun c1 => ?_) (fun c1 => ?_)
  · conv => whnf
    exact ⟨rfl, rfl⟩
  have hG : G.length ≤ 20 := by
    have : decide ((20 : Int) < ((G.map (D.int .i64)).length : Nat)) = false := c1
    simp at this; omega
  have hK := madeX_R hL
  have hK' := madeX_R hL'
  have hM := vMadeX false L hL
  have hM' := vMadeX false L' hL'
  obtain ⟨K, hKe⟩ : ∃ K, K = madeX L := ⟨_, rfl⟩
  obtain ⟨K', hKe'⟩ : ∃ K', K' = madeX L' := ⟨_, rfl⟩
  rw [← hKe] at hK hM
  rw [← hKe'] at hK' hM'
  have hl1 := hK.1
  have hl2 := hK'.1
  have hR := hK.right
  have hR2 : rightK (K ++ K') = true := by
    unfold rightK
    simp only [Bool.and_eq_true, decide_eq_true_eq, Bool.not_eq_true', List.any_eq_false]
    refine ⟨by rw [List.length_append]; omega, fun k hk => ?_⟩
    have : (1 ≤ k.d ∧ k.d ≤ k.n ∧ k.n ≤ 8) ∧ (1 ≤ k.v ∧ k.v ≤ 1000) ∧ 0 ≤ k.lm ∧ k.lm ≤ 3 := by
      rcases List.mem_append.1 hk with h | h
      · exact hK.2 k h
      · exact hK'.2 k h
    unfold wrongK isCell
    simp
    omega
  have hsub : ∀ k ∈ K, force k G = true → k ∈ K ++ K' ∧ force k ([1, 2, 3] ++ G) = true := by
    intro k hk hf
    refine ⟨List.mem_append_left _ hk, ?_⟩
    simp only [force, Bool.or_eq_true, decide_eq_true_eq] at hf ⊢
    rcases hf with h | h
    · exact .inl h
    · exact .inr (List.mem_append_right _ h)
  obtain ⟨a, b, c, ha, hb, hc, hcase⟩ : ∃ a b c : List CellM × Int, closeR K G (8 : Nat) = a ∧ closeR (K ++ K') ([1, 2, 3] ++ G) (8 : Nat) = b ∧ closeR K G (6 : Nat) = c ∧
      ((a = ([], 6) ∧ b = ([], 6)) ∨ ∃ la lc : List CellM, a = (la, 0) ∧ c = (lc, 0) ∧ la.length = 36 ∧ lc.length = 21 ∧ (∀ i, i < 21 → ∃ x z, la[i]? = some x ∧ lc[i]? = some z ∧ z.lo ≤ x.lo ∧ x.hi ≤ z.hi) ∧
        (b = ([], 6) ∨ ∃ lb : List CellM, b = (lb, 0) ∧ lb.length = 36 ∧ ∀ i, i < 36 → ∃ x y, la[i]? = some x ∧ lb[i]? = some y ∧ x.lo ≤ y.lo ∧ y.hi ≤ x.hi)) := by
    refine ⟨_, _, _, rfl, rfl, rfl, ?_⟩
    have lena : ∀ (K : List Known) (G : List Int), (cellsC K G 8 8).length = 36 := fun K G => by have := cells_len2 (K := K) (G := G) (n := 8) 8; omega
    have lenc : (cellsC K G 6 6).length = 21 := by have := cells_len2 (K := K) (G := G) (n := 6) 6; omega
    rcases close_cases hR G (n := 8) (by omega) (by omega) with ⟨e1, o1⟩ | ⟨e1, o1⟩
    · rcases close_cases hR2 ([1, 2, 3] ++ G) (n := 8) (by omega) (by omega) with ⟨e2, o2⟩ | ⟨e2, o2⟩
      · exact .inl ⟨e1, e2⟩
      · exact absurd (more_ok hR hR2 hsub (Nat.le_refl 8) (Nat.le_refl 8) o2) o1
    · rcases close_cases hR G (n := 6) (by omega) (by omega) with ⟨e3, o3⟩ | ⟨e3, o3⟩
      · exact absurd (more_ok (G' := G) hR hR (fun k a b => ⟨a, b⟩) (show 6 ≤ 8 by omega) (Nat.le_refl 8) o1) o3
      · refine .inr ⟨_, _, e1, e3, lena K G, lenc, cmp_c hR, ?_⟩
        rcases close_cases hR2 ([1, 2, 3] ++ G) (n := 8) (by omega) (by omega) with ⟨e2, o2⟩ | ⟨e2, o2⟩
        · exact .inl e2
        · exact .inr ⟨_, e2, lena _ _, cmp_b hR hR2 hsub⟩
  conv => whnf
  refine Val.call hM (.refl _) (ler _ _) rfl ?_
  rintro r rfl
  have hcl8 := (vClosed false false K G 8).mono (Q' := fun r => r = closedD a) (fun r h => by rw [h]; exact congrArg closedD ha)
  have hcl6 := (vClosed false false K G 6).mono (Q' := fun r => r = closedD c) (fun r h => by rw [h]; exact congrArg closedD hc)
  have hclb := (vClosed false false (K ++ K') ([1, 2, 3] ++ G) 8).mono (Q' := fun r => r = closedD b) (fun r h => by rw [h]; exact congrArg closedD hb)
  clear ha hb hc
  conv => whnf
  rcases Nat.eq_zero_or_pos K.length with hk0 | hk0
  · obtain rfl : K = [] := List.eq_nil_of_length_eq_zero hk0
    rcases Nat.eq_zero_or_pos K'.length with hk1 | hk1
    · obtain rfl : K' = [] := List.eq_nil_of_length_eq_zero hk1
      refine drT 6 (by decide +kernel) ?_
      conv => whnf
      refine .inl ⟨rfl, ?_⟩
      conv => whnf
      refine ⟨_, none, PureC.val hM' (ler _ _) rfl (fun r H h => h.2.2) rfl, ?_⟩
      conv => whnf
      refine .inl ⟨rfl, ?_⟩
      conv => whnf
      refine Val.callH hcl8 ([Ob.var (.agg [.list false sh44 (L.map Raw4.D)]), .var (.agg [.list false sh44 (L'.map Raw4.D)])])
        (.refl _) rfl (ler _ _) rfl ?_
      rintro r rfl
      conv => whnf
      refine ob (by show 0 + 3 ≤ 3; omega) ?_
      refine ob (by show 3 + (G.map (D.int .i64)).length ≤ 2147483648; rw [List.length_map]; omega) ?_
      conv => whnf
      have hgi : LeD ([Ob.var (.agg [.list false sh44 (L.map Raw4.D)]), .var (.agg [.list false sh44 (L'.map Raw4.D)]), .dead, .frz .leaf (([1, 2, 3] ++ G).map (.int .i64))]) (intsD false ([1, 2, 3] ++ G)) (.sl 3 0 (3 + (G.map (D.int .i64)).length)) := by
        have := LeD.frz (H := [Ob.var (.agg [.list false sh44 (L.map Raw4.D)]), .var (.agg [.list false sh44 (L'.map Raw4.D)]), .dead, .frz .leaf (([1, 2, 3] ++ G).map (.int .i64))]) 3 0 ([1, 2, 3] ++ G).length .leaf (([1, 2, 3] ++ G).map (.int .i64)) rfl (by simp)
        rw [List.drop_zero, List.take_of_length_le (by simp)] at this
        rw [List.length_map, show 3 + G.length = ([1, 2, 3] ++ G).length from by simp; omega]
        exact this
      refine Val.callH hclb ([Ob.var (.agg [.list false sh44 (L.map Raw4.D)]), .var (.agg [.list false sh44 (L'.map Raw4.D)]), .dead, .frz .leaf (([1, 2, 3] ++ G).map (.int .i64))]) (Frz.step 3 .leaf (([1, 2, 3] ++ G).map (.int .i64)) rfl (cl_ints _) (.refl _)) rfl (.cons _ _ _ _ (.refl _) (.cons _ _ _ _ (.full true sh5 []) (.cons _ _ _ _ hgi .nil))) rfl ?_
      rintro r rfl
      conv => whnf
      refine Val.callH hcl6 ([Ob.var (.agg [.list false sh44 (L.map Raw4.D)]), .var (.agg [.list false sh44 (L'.map Raw4.D)]), .dead, .frz .leaf (([1, 2, 3] ++ G).map (.int .i64))]) (.refl _) rfl (ler _ _) rfl ?_
      rintro r rfl
      conv => whnf
      rcases hcase with ⟨rfl, rfl⟩ | ⟨la, lc, rfl, rfl, hla, hlc, hac, hb⟩
      · conv => whnf
        exact ⟨rfl, rfl⟩
      rcases hb with rfl | ⟨lb, rfl, hlb, hab⟩
      · conv => whnf
        refine lp (fun k e H => ∃ i : Nat, i ≤ 36 ∧ k = 36 - i ∧ H = [.var (closedD (la, 0)), .var (closedD ([], 6)), .var (closedD (lc, 0))] ∧ e = [(13, .int .i64 i), (10, .ptr 0 []), (11, .ptr 1 []), (12, .ptr 2 []), (7, .bool true)]) ?_ ?_
        · refine ⟨37, 36, _, [.var (closedD (la, 0)), .var (closedD ([], 6)), .var (closedD (lc, 0))], by omega, ⟨_, .refl _, .inr ⟨[4, 5, 6], ⟨?_, ?_, rfl, rfl⟩⟩⟩, 0, by omega, rfl, rfl, rfl⟩
          · exact ⟨.refl _, rfl, .refl _, rfl, .refl _, rfl, .refl _, rfl, .refl _, rfl, trivial⟩
          · exact ⟨rfl, rfl, rfl, rfl, rfl, rfl, trivial⟩
        · rintro k e H ⟨i, hi, rfl, rfl, rfl⟩
          conv => whnf
          refine ifb (fun c3 => ?_) (fun c3 => ?_)
          · have c3 : i < 36 := by
              have : decide ((i : Int) < ((la.map CellM.D).length : Nat)) = true := c3
              rw [List.length_map, hla] at this
              simp at this; omega
            conv => whnf
            refine drT 40 (by decide +kernel) ?_
            conv => whnf
            refine drT 35 (by decide +kernel) ?_
            conv => whnf
            refine ifb (fun c6 => ?_) (fun c6 => ?_)
            · have c6 : i < 21 := by
                have : decide ((i : Int) < ((lc.map CellM.D).length : Nat)) = true := c6
                rw [List.length_map, hlc] at this
                simp at this; omega
              obtain ⟨x, z, hx, hz, hxz1, hxz2⟩ := hac i c6
              have hxD : (la.map CellM.D)[i]? = some x.D := by rw [List.getElem?_map, hx]; rfl
              have hzD : (lc.map CellM.D)[i]? = some z.D := by rw [List.getElem?_map, hz]; rfl
              conv => whnf
              refine ob (by omega) ⟨z.D, hzD, ?_⟩
              conv => whnf
              refine ob (by omega) ⟨x.D, hxD, ?_⟩
              conv => whnf
              refine ifb (fun c7 => absurd (of_decide_eq_true c7) (by omega)) (fun c7 => ?_)
              conv => whnf
              refine ob (by omega) ⟨z.D, hzD, ?_⟩
              conv => whnf
              refine ob (by omega) ⟨x.D, hxD, ?_⟩
              conv => whnf
              refine ifb (fun c8 => absurd (of_decide_eq_true c8) (by omega)) (fun c8 => ?_)
              conv => whnf
              refine iv ((i + 1 : Nat) : Int) (by rw [w64 (by omega) (by omega)]; omega) ?_
              conv => whnf
              refine back (36 - (i + 1)) _ (by omega) ?_ ⟨i + 1, by omega, rfl, rfl, rfl⟩
              exact se0 rfl (se0 rfl (se0 rfl (se0 rfl (se0 rfl trivial))))
            · conv => whnf
              refine iv ((i + 1 : Nat) : Int) (by rw [w64 (by omega) (by omega)]; omega) ?_
              conv => whnf
              refine back (36 - (i + 1)) _ (by omega) ?_ ⟨i + 1, by omega, rfl, rfl, rfl⟩
              exact se0 rfl (se0 rfl (se0 rfl (se0 rfl (se0 rfl trivial))))
          · conv => whnf
            refine ifb (fun c4 => ?_) (fun c4 => ?_)
            · conv => whnf
              exact ⟨rfl, rfl⟩
            · have : decide (((lc.map CellM.D).length : Int) = 21) = false := c4
              rw [List.length_map, hlc] at this
              simp at this
      · conv => whnf
        refine lp (fun k e H => ∃ i : Nat, i ≤ 36 ∧ k = 36 - i ∧ H = [.var (closedD (la, 0)), .var (closedD (lb, 0)), .var (closedD (lc, 0))] ∧ e = [(13, .int .i64 i), (10, .ptr 0 []), (11, .ptr 1 []), (12, .ptr 2 []), (7, .bool true)]) ?_ ?_
        · refine ⟨37, 36, _, [.var (closedD (la, 0)), .var (closedD (lb, 0)), .var (closedD (lc, 0))], by omega, ⟨_, .refl _, .inr ⟨[4, 5, 6], ⟨?_, ?_, rfl, rfl⟩⟩⟩, 0, by omega, rfl, rfl, rfl⟩
          · exact ⟨.refl _, rfl, .refl _, rfl, .refl _, rfl, .refl _, rfl, .refl _, rfl, trivial⟩
          · exact ⟨rfl, rfl, rfl, rfl, rfl, rfl, trivial⟩
        · rintro k e H ⟨i, hi, rfl, rfl, rfl⟩
          conv => whnf
          refine ifb (fun c3 => ?_) (fun c3 => ?_)
          · have c3 : i < 36 := by
              have : decide ((i : Int) < ((la.map CellM.D).length : Nat)) = true := c3
              rw [List.length_map, hla] at this
              simp at this; omega
            obtain ⟨x, y, hx, hy, hxy1, hxy2⟩ := hab i c3
            have hxD : (la.map CellM.D)[i]? = some x.D := by rw [List.getElem?_map, hx]; rfl
            have hyD : (lb.map CellM.D)[i]? = some y.D := by rw [List.getElem?_map, hy]; rfl
            conv => whnf
            refine drT 40 (by decide +kernel) ?_
            conv => whnf
            refine ifb (fun c5 => ?_) (fun c5 => ?_)
            · exfalso
              have : decide (((lb.map CellM.D).length : Int) ≤ (i : Int)) = true := c5
              rw [List.length_map, hlb] at this
              simp at this; omega
            conv => whnf
            refine ob (by omega) ⟨y.D, hyD, ?_⟩
            conv => whnf
            refine ob (by omega) ⟨x.D, hxD, ?_⟩
            conv => whnf
            refine ifb (fun c7 => absurd (of_decide_eq_true c7) (by omega)) (fun c7 => ?_)
            conv => whnf
            refine ob (by omega) ⟨y.D, hyD, ?_⟩
            conv => whnf
            refine ob (by omega) ⟨x.D, hxD, ?_⟩
            conv => whnf
            refine ifb (fun c8 => absurd (of_decide_eq_true c8) (by omega)) (fun c8 => ?_)
            clear hx hy hxD hyD hxy1 hxy2
            conv => whnf
            refine drT 35 (by decide +kernel) ?_
            conv => whnf
            refine ifb (fun c6 => ?_) (fun c6 => ?_)
            · have c6 : i < 21 := by
                have : decide ((i : Int) < ((lc.map CellM.D).length : Nat)) = true := c6
                rw [List.length_map, hlc] at this
                simp at this; omega
              obtain ⟨x, z, hx, hz, hxz1, hxz2⟩ := hac i c6
              have hxD : (la.map CellM.D)[i]? = some x.D := by rw [List.getElem?_map, hx]; rfl
              have hzD : (lc.map CellM.D)[i]? = some z.D := by rw [List.getElem?_map, hz]; rfl
              conv => whnf
              refine ob (by omega) ⟨z.D, hzD, ?_⟩
              conv => whnf
              refine ob (by omega) ⟨x.D, hxD, ?_⟩
              conv => whnf
              refine ifb (fun c7 => absurd (of_decide_eq_true c7) (by omega)) (fun c7 => ?_)
              conv => whnf
              refine ob (by omega) ⟨z.D, hzD, ?_⟩
              conv => whnf
              refine ob (by omega) ⟨x.D, hxD, ?_⟩
              conv => whnf
              refine ifb (fun c8 => absurd (of_decide_eq_true c8) (by omega)) (fun c8 => ?_)
              conv => whnf
              refine iv ((i + 1 : Nat) : Int) (by rw [w64 (by omega) (by omega)]; omega) ?_
              conv => whnf
              refine back (36 - (i + 1)) _ (by omega) ?_ ⟨i + 1, by omega, rfl, rfl, rfl⟩
              exact se0 rfl (se0 rfl (se0 rfl (se0 rfl (se0 rfl trivial))))
            · conv => whnf
              refine iv ((i + 1 : Nat) : Int) (by rw [w64 (by omega) (by omega)]; omega) ?_
              conv => whnf
              refine back (36 - (i + 1)) _ (by omega) ?_ ⟨i + 1, by omega, rfl, rfl, rfl⟩
              exact se0 rfl (se0 rfl (se0 rfl (se0 rfl (se0 rfl trivial))))
          · conv => whnf
            refine ifb (fun c4 => ?_) (fun c4 => ?_)
            · conv => whnf
              exact ⟨rfl, rfl⟩
            · have : decide (((lc.map CellM.D).length : Int) = 21) = false := c4
              rw [List.length_map, hlc] at this
              simp at this
    · refine drT 5 (by decide +kernel) ?_
      conv => whnf
      refine .inl ⟨rfl, ?_⟩
      conv => whnf
      refine ⟨_, none, PureC.val hM' (ler _ _) rfl (fun r H h => h.2.2) rfl, ?_⟩
      conv => whnf
      refine ob (by rw [List.length_map]; exact hk1) ?_
      refine ob (by show ([] : List D).length + (K'.map Known.D).length ≤ 2147483648; simp; omega) ?_
      conv => whnf
      refine Val.callH hcl8 ([Ob.var (.agg [.list false sh44 (L.map Raw4.D)]), .var (.agg [.list false sh44 (L'.map Raw4.D)]), .frz sh5 (([] ++ K').map Known.D)])
        (Frz.step 2 sh5 (([] ++ K').map Known.D) rfl (cl_knowns _) (.refl _)) rfl (ler _ _) rfl ?_
      rintro r rfl
      conv => whnf
      refine ob (by show 0 + 3 ≤ 3; omega) ?_
      refine ob (by show 3 + (G.map (D.int .i64)).length ≤ 2147483648; rw [List.length_map]; omega) ?_
      conv => whnf
      have hgi : LeD ([Ob.var (.agg [.list false sh44 (L.map Raw4.D)]), .var (.agg [.list false sh44 (L'.map Raw4.D)]), .frz sh5 (([] ++ K').map Known.D), .dead, .frz .leaf (([1, 2, 3] ++ G).map (.int .i64))]) (intsD false ([1, 2, 3] ++ G)) (.sl 4 0 (3 + (G.map (D.int .i64)).length)) := by
        have := LeD.frz (H := [Ob.var (.agg [.list false sh44 (L.map Raw4.D)]), .var (.agg [.list false sh44 (L'.map Raw4.D)]), .frz sh5 (([] ++ K').map Known.D), .dead, .frz .leaf (([1, 2, 3] ++ G).map (.int .i64))]) 4 0 ([1, 2, 3] ++ G).length .leaf (([1, 2, 3] ++ G).map (.int .i64)) rfl (by simp)
        rw [List.drop_zero, List.take_of_length_le (by simp)] at this
        rw [List.length_map, show 3 + G.length = ([1, 2, 3] ++ G).length from by simp; omega]
        exact this
      have hmo : LeD ([Ob.var (.agg [.list false sh44 (L.map Raw4.D)]), .var (.agg [.list false sh44 (L'.map Raw4.D)]), .frz sh5 (([] ++ K').map Known.D), .dead, .frz .leaf (([1, 2, 3] ++ G).map (.int .i64))]) (knownsD false ([] ++ K')) (.sl 2 0 (([] : List D).length + (K'.map Known.D).length)) := by
        have := LeD.frz (H := [Ob.var (.agg [.list false sh44 (L.map Raw4.D)]), .var (.agg [.list false sh44 (L'.map Raw4.D)]), .frz sh5 (([] ++ K').map Known.D), .dead, .frz .leaf (([1, 2, 3] ++ G).map (.int .i64))]) 2 0 ([] ++ K').length sh5 (([] ++ K').map Known.D) rfl (by simp)
        rw [List.drop_zero, List.take_of_length_le (by simp)] at this
        rw [show (([] : List D).length + (K'.map Known.D).length) = ([] ++ K').length from by simp]
        exact this
      refine Val.callH hclb ([Ob.var (.agg [.list false sh44 (L.map Raw4.D)]), .var (.agg [.list false sh44 (L'.map Raw4.D)]), .frz sh5 (([] ++ K').map Known.D), .dead, .frz .leaf (([1, 2, 3] ++ G).map (.int .i64))]) (Frz.step 4 .leaf (([1, 2, 3] ++ G).map (.int .i64)) rfl (cl_ints _) (.refl _)) rfl (.cons _ _ _ _ (.refl _) (.cons _ _ _ _ hmo (.cons _ _ _ _ hgi .nil))) rfl ?_
      rintro r rfl
      conv => whnf
      refine Val.callH hcl6 ([Ob.var (.agg [.list false sh44 (L.map Raw4.D)]), .var (.agg [.list false sh44 (L'.map Raw4.D)]), .frz sh5 (([] ++ K').map Known.D), .dead, .frz .leaf (([1, 2, 3] ++ G).map (.int .i64))]) (.refl _) rfl (ler _ _) rfl ?_
      rintro r rfl
      conv => whnf
      rcases hcase with ⟨rfl, rfl⟩ | ⟨la, lc, rfl, rfl, hla, hlc, hac, hb⟩
      · conv => whnf
        exact ⟨rfl, rfl⟩
      rcases hb with rfl | ⟨lb, rfl, hlb, hab⟩
      · conv => whnf
        refine lp (fun k e H => ∃ i : Nat, i ≤ 36 ∧ k = 36 - i ∧ H = [.var (closedD (la, 0)), .var (closedD ([], 6)), .var (closedD (lc, 0))] ∧ e = [(13, .int .i64 i), (10, .ptr 0 []), (11, .ptr 1 []), (12, .ptr 2 []), (7, .bool true)]) ?_ ?_
        · refine ⟨37, 36, _, [.var (closedD (la, 0)), .var (closedD ([], 6)), .var (closedD (lc, 0))], by omega, ⟨_, .refl _, .inr ⟨[5, 6, 7], ⟨?_, ?_, rfl, rfl⟩⟩⟩, 0, by omega, rfl, rfl, rfl⟩
          · exact ⟨.refl _, rfl, .refl _, rfl, .refl _, rfl, .refl _, rfl, .refl _, rfl, trivial⟩
          · exact ⟨rfl, rfl, rfl, rfl, rfl, rfl, trivial⟩
        · rintro k e H ⟨i, hi, rfl, rfl, rfl⟩
          conv => whnf
          refine ifb (fun c3 => ?_) (fun c3 => ?_)
          · have c3 : i < 36 := by
              have : decide ((i : Int) < ((la.map CellM.D).length : Nat)) = true := c3
              rw [List.length_map, hla] at this
              simp at this; omega
            conv => whnf
            refine drT 40 (by decide +kernel) ?_
            conv => whnf
            refine drT 35 (by decide +kernel) ?_
            conv => whnf
            refine ifb (fun c6 => ?_) (fun c6 => ?_)
            · have c6 : i < 21 := by
                have : decide ((i : Int) < ((lc.map CellM.D).length : Nat)) = true := c6
                rw [List.length_map, hlc] at this
                simp at this; omega
              obtain ⟨x, z, hx, hz, hxz1, hxz2⟩ := hac i c6
              have hxD : (la.map CellM.D)[i]? = some x.D := by rw [List.getElem?_map, hx]; rfl
              have hzD : (lc.map CellM.D)[i]? = some z.D := by rw [List.getElem?_map, hz]; rfl
              conv => whnf
              refine ob (by omega) ⟨z.D, hzD, ?_⟩
              conv => whnf
              refine ob (by omega) ⟨x.D, hxD, ?_⟩
              conv => whnf
              refine ifb (fun c7 => absurd (of_decide_eq_true c7) (by omega)) (fun c7 => ?_)
              conv => whnf
              refine ob (by omega) ⟨z.D, hzD, ?_⟩
              conv => whnf
              refine ob (by omega) ⟨x.D, hxD, ?_⟩
              conv => whnf
              refine ifb (fun c8 => absurd (of_decide_eq_true c8) (by omega)) (fun c8 => ?_)
              conv => whnf
              refine iv ((i + 1 : Nat) : Int) (by rw [w64 (by omega) (by omega)]; omega) ?_
              conv => whnf
              refine back (36 - (i + 1)) _ (by omega) ?_ ⟨i + 1, by omega, rfl, rfl, rfl⟩
              exact se0 rfl (se0 rfl (se0 rfl (se0 rfl (se0 rfl trivial))))
            · conv => whnf
              refine iv ((i + 1 : Nat) : Int) (by rw [w64 (by omega) (by omega)]; omega) ?_
              conv => whnf
              refine back (36 - (i + 1)) _ (by omega) ?_ ⟨i + 1, by omega, rfl, rfl, rfl⟩
              exact se0 rfl (se0 rfl (se0 rfl (se0 rfl (se0 rfl trivial))))
          · conv => whnf
            refine ifb (fun c4 => ?_) (fun c4 => ?_)
            · conv => whnf
              exact ⟨rfl, rfl⟩
            · have : decide (((lc.map CellM.D).length : Int) = 21) = false := c4
              rw [List.length_map, hlc] at this
              simp at this
      · conv => whnf
        refine lp (fun k e H => ∃ i : Nat, i ≤ 36 ∧ k = 36 - i ∧ H = [.var (closedD (la, 0)), .var (closedD (lb, 0)), .var (closedD (lc, 0))] ∧ e = [(13, .int .i64 i), (10, .ptr 0 []), (11, .ptr 1 []), (12, .ptr 2 []), (7, .bool true)]) ?_ ?_
        · refine ⟨37, 36, _, [.var (closedD (la, 0)), .var (closedD (lb, 0)), .var (closedD (lc, 0))], by omega, ⟨_, .refl _, .inr ⟨[5, 6, 7], ⟨?_, ?_, rfl, rfl⟩⟩⟩, 0, by omega, rfl, rfl, rfl⟩
          · exact ⟨.refl _, rfl, .refl _, rfl, .refl _, rfl, .refl _, rfl, .refl _, rfl, trivial⟩
          · exact ⟨rfl, rfl, rfl, rfl, rfl, rfl, trivial⟩
        · rintro k e H ⟨i, hi, rfl, rfl, rfl⟩
          conv => whnf
          refine ifb (fun c3 => ?_) (fun c3 => ?_)
          · have c3 : i < 36 := by
              have : decide ((i : Int) < ((la.map CellM.D).length : Nat)) = true := c3
              rw [List.length_map, hla] at this
              simp at this; omega
            obtain ⟨x, y, hx, hy, hxy1, hxy2⟩ := hab i c3
            have hxD : (la.map CellM.D)[i]? = some x.D := by rw [List.getElem?_map, hx]; rfl
            have hyD : (lb.map CellM.D)[i]? = some y.D := by rw [List.getElem?_map, hy]; rfl
            conv => whnf
            refine drT 40 (by decide +kernel) ?_
            conv => whnf
            refine ifb (fun c5 => ?_) (fun c5 => ?_)
            · exfalso
              have : decide (((lb.map CellM.D).length : Int) ≤ (i : Int)) = true := c5
              rw [List.length_map, hlb] at this
              simp at this; omega
            conv => whnf
            refine ob (by omega) ⟨y.D, hyD, ?_⟩
            conv => whnf
            refine ob (by omega) ⟨x.D, hxD, ?_⟩
            conv => whnf
            refine ifb (fun c7 => absurd (of_decide_eq_true c7) (by omega)) (fun c7 => ?_)
            conv => whnf
            refine ob (by omega) ⟨y.D, hyD, ?_⟩
            conv => whnf
            refine ob (by omega) ⟨x.D, hxD, ?_⟩
            conv => whnf
            refine ifb (fun c8 => absurd (of_decide_eq_true c8) (by omega)) (fun c8 => ?_)
            clear hx hy hxD hyD hxy1 hxy2
            conv => whnf
            refine drT 35 (by decide +kernel) ?_
            conv => whnf
            refine ifb (fun c6 => ?_) (fun c6 => ?_)
            · have c6 : i < 21 := by
                have : decide ((i : Int) < ((lc.map CellM.D).length : Nat)) = true := c6
                rw [List.length_map, hlc] at this
                simp at this; omega
              obtain ⟨x, z, hx, hz, hxz1, hxz2⟩ := hac i c6
              have hxD : (la.map CellM.D)[i]? = some x.D := by rw [List.getElem?_map, hx]; rfl
              have hzD : (lc.map CellM.D)[i]? = some z.D := by rw [List.getElem?_map, hz]; rfl
              conv => whnf
              refine ob (by omega) ⟨z.D, hzD, ?_⟩
              conv => whnf
              refine ob (by omega) ⟨x.D, hxD, ?_⟩
              conv => whnf
              refine ifb (fun c7 => absurd (of_decide_eq_true c7) (by omega)) (fun c7 => ?_)
              conv => whnf
              refine ob (by omega) ⟨z.D, hzD, ?_⟩
              conv => whnf
              refine ob (by omega) ⟨x.D, hxD, ?_⟩
              conv => whnf
              refine ifb (fun c8 => absurd (of_decide_eq_true c8) (by omega)) (fun c8 => ?_)
              conv => whnf
              refine iv ((i + 1 : Nat) : Int) (by rw [w64 (by omega) (by omega)]; omega) ?_
              conv => whnf
              refine back (36 - (i + 1)) _ (by omega) ?_ ⟨i + 1, by omega, rfl, rfl, rfl⟩
              exact se0 rfl (se0 rfl (se0 rfl (se0 rfl (se0 rfl trivial))))
            · conv => whnf
              refine iv ((i + 1 : Nat) : Int) (by rw [w64 (by omega) (by omega)]; omega) ?_
              conv => whnf
              refine back (36 - (i + 1)) _ (by omega) ?_ ⟨i + 1, by omega, rfl, rfl, rfl⟩
              exact se0 rfl (se0 rfl (se0 rfl (se0 rfl (se0 rfl trivial))))
          · conv => whnf
            refine ifb (fun c4 => ?_) (fun c4 => ?_)
            · conv => whnf
              exact ⟨rfl, rfl⟩
            · have : decide (((lc.map CellM.D).length : Int) = 21) = false := c4
              rw [List.length_map, hlc] at this
              simp at this
  · refine drT 5 (by decide +kernel) ?_
    conv => whnf
    refine .inr ⟨by rw [List.length_map]; exact hk0, by show ([] : List D).length + (K.map Known.D).length ≤ 2147483648; simp; omega, ?_⟩
    conv => whnf
    refine ⟨_, none, PureC.val hM' (ler _ _) rfl (fun r H h => h.2.2) rfl, ?_⟩
    conv => whnf
    refine ob (by simp) ?_
    refine ob (by show ([] : List D).length + (K.map Known.D).length + (K'.map Known.D).length ≤ 2147483648; simp; omega) ?_
    conv => whnf
    refine Val.callH hcl8 ([Ob.var (.agg [.list false sh44 (L.map Raw4.D)]), .var (.agg [.list false sh44 (L'.map Raw4.D)]), .dead, .frz sh5 ((K ++ K').map Known.D)])
      (Frz.step 3 sh5 ((K ++ K').map Known.D) (by
        show Ob.row sh5 (List.take (([] : List D).length + (K.map Known.D).length) (List.drop 0 (([] : List D) ++ K.map Known.D)) ++ K'.map Known.D) = _
        rw [List.map_append, List.drop_zero, List.nil_append, List.take_of_length_le (by simp)]) (cl_knowns _) (.refl _)) rfl (ler _ _) rfl ?_
    rintro r rfl
    conv => whnf
    refine ob (by show 0 + 3 ≤ 3; omega) ?_
    refine ob (by show 3 + (G.map (D.int .i64)).length ≤ 2147483648; rw [List.length_map]; omega) ?_
    conv => whnf
    have hgi : LeD ([Ob.var (.agg [.list false sh44 (L.map Raw4.D)]), .var (.agg [.list false sh44 (L'.map Raw4.D)]), .dead, .frz sh5 ((K ++ K').map Known.D), .dead, .frz .leaf (([1, 2, 3] ++ G).map (.int .i64))]) (intsD false ([1, 2, 3] ++ G)) (.sl 5 0 (3 + (G.map (D.int .i64)).length)) := by
      have := LeD.frz (H := [Ob.var (.agg [.list false sh44 (L.map Raw4.D)]), .var (.agg [.list false sh44 (L'.map Raw4.D)]), .dead, .frz sh5 ((K ++ K').map Known.D), .dead, .frz .leaf (([1, 2, 3] ++ G).map (.int .i64))]) 5 0 ([1, 2, 3] ++ G).length .leaf (([1, 2, 3] ++ G).map (.int .i64)) rfl (by simp)
      rw [List.drop_zero, List.take_of_length_le (by simp)] at this
      rw [List.length_map, show 3 + G.length = ([1, 2, 3] ++ G).length from by simp; omega]
      exact this
    have hmo : LeD ([Ob.var (.agg [.list false sh44 (L.map Raw4.D)]), .var (.agg [.list false sh44 (L'.map Raw4.D)]), .dead, .frz sh5 ((K ++ K').map Known.D), .dead, .frz .leaf (([1, 2, 3] ++ G).map (.int .i64))]) (knownsD false (K ++ K')) (.sl 3 0 (([] : List D).length + (K.map Known.D).length + (K'.map Known.D).length)) := by
      have := LeD.frz (H := [Ob.var (.agg [.list false sh44 (L.map Raw4.D)]), .var (.agg [.list false sh44 (L'.map Raw4.D)]), .dead, .frz sh5 ((K ++ K').map Known.D), .dead, .frz .leaf (([1, 2, 3] ++ G).map (.int .i64))]) 3 0 (K ++ K').length sh5 ((K ++ K').map Known.D) rfl (by simp)
      rw [List.drop_zero, List.take_of_length_le (by simp)] at this
      rw [show (([] : List D).length + (K.map Known.D).length + (K'.map Known.D).length) = (K ++ K').length from by simp]
      exact this
    refine Val.callH hclb ([Ob.var (.agg [.list false sh44 (L.map Raw4.D)]), .var (.agg [.list false sh44 (L'.map Raw4.D)]), .dead, .frz sh5 ((K ++ K').map Known.D), .dead, .frz .leaf (([1, 2, 3] ++ G).map (.int .i64))]) (Frz.step 5 .leaf (([1, 2, 3] ++ G).map (.int .i64)) rfl (cl_ints _) (.refl _)) rfl (.cons _ _ _ _ (.refl _) (.cons _ _ _ _ hmo (.cons _ _ _ _ hgi .nil))) rfl ?_
    rintro r rfl
    conv => whnf
    refine Val.callH hcl6 ([Ob.var (.agg [.list false sh44 (L.map Raw4.D)]), .var (.agg [.list false sh44 (L'.map Raw4.D)]), .dead, .frz sh5 ((K ++ K').map Known.D), .dead, .frz .leaf (([1, 2, 3] ++ G).map (.int .i64))]) (.refl _) rfl (ler _ _) rfl ?_
    rintro r rfl
    conv => whnf
    rcases hcase with ⟨rfl, rfl⟩ | ⟨la, lc, rfl, rfl, hla, hlc, hac, hb⟩
    · conv => whnf
      exact ⟨rfl, rfl⟩
    rcases hb with rfl | ⟨lb, rfl, hlb, hab⟩
    · conv => whnf
      refine lp (fun k e H => ∃ i : Nat, i ≤ 36 ∧ k = 36 - i ∧ H = [.var (closedD (la, 0)), .var (closedD ([], 6)), .var (closedD (lc, 0))] ∧ e = [(13, .int .i64 i), (10, .ptr 0 []), (11, .ptr 1 []), (12, .ptr 2 []), (7, .bool true)]) ?_ ?_
      · refine ⟨37, 36, _, [.var (closedD (la, 0)), .var (closedD ([], 6)), .var (closedD (lc, 0))], by omega, ⟨_, .refl _, .inr ⟨[6, 7, 8], ⟨?_, ?_, rfl, rfl⟩⟩⟩, 0, by omega, rfl, rfl, rfl⟩
        · exact ⟨.refl _, rfl, .refl _, rfl, .refl _, rfl, .refl _, rfl, .refl _, rfl, trivial⟩
        · exact ⟨rfl, rfl, rfl, rfl, rfl, rfl, trivial⟩
      · rintro k e H ⟨i, hi, rfl, rfl, rfl⟩
        conv => whnf
        refine ifb (fun c3 => ?_) (fun c3 => ?_)
        · have c3 : i < 36 := by
            have : decide ((i : Int) < ((la.map CellM.D).length : Nat)) = true := c3
            rw [List.length_map, hla] at this
            simp at this; omega
          conv => whnf
          refine drT 40 (by decide +kernel) ?_
          conv => whnf
          refine drT 35 (by decide +kernel) ?_
          conv => whnf
          refine ifb (fun c6 => ?_) (fun c6 => ?_)
          · have c6 : i < 21 := by
              have : decide ((i : Int) < ((lc.map CellM.D).length : Nat)) = true := c6
              rw [List.length_map, hlc] at this
              simp at this; omega
            obtain ⟨x, z, hx, hz, hxz1, hxz2⟩ := hac i c6
            have hxD : (la.map CellM.D)[i]? = some x.D := by rw [List.getElem?_map, hx]; rfl
            have hzD : (lc.map CellM.D)[i]? = some z.D := by rw [List.getElem?_map, hz]; rfl
            conv => whnf
            refine ob (by omega) ⟨z.D, hzD, ?_⟩
            conv => whnf
            refine ob (by omega) ⟨x.D, hxD, ?_⟩
            conv => whnf
            refine ifb (fun c7 => absurd (of_decide_eq_true c7) (by omega)) (fun c7 => ?_)
            conv => whnf
            refine ob (by omega) ⟨z.D, hzD, ?_⟩
            conv => whnf
            refine ob (by omega) ⟨x.D, hxD, ?_⟩
            conv => whnf
            refine ifb (fun c8 => absurd (of_decide_eq_true c8) (by omega)) (fun c8 => ?_)
            conv => whnf
            refine iv ((i + 1 : Nat) : Int) (by rw [w64 (by omega) (by omega)]; omega) ?_
            conv => whnf
            refine back (36 - (i + 1)) _ (by omega) ?_ ⟨i + 1, by omega, rfl, rfl, rfl⟩
            exact se0 rfl (se0 rfl (se0 rfl (se0 rfl (se0 rfl trivial))))
          · conv => whnf
            refine iv ((i + 1 : Nat) : Int) (by rw [w64 (by omega) (by omega)]; omega) ?_
            conv => whnf
            refine back (36 - (i + 1)) _ (by omega) ?_ ⟨i + 1, by omega, rfl, rfl, rfl⟩
            exact se0 rfl (se0 rfl (se0 rfl (se0 rfl (se0 rfl trivial))))
        · conv => whnf
          refine ifb (fun c4 => ?_) (fun c4 => ?_)
          · conv => whnf
            exact ⟨rfl, rfl⟩
          · have : decide (((lc.map CellM.D).length : Int) = 21) = false := c4
            rw [List.length_map, hlc] at this
            simp at this
    · conv => whnf
      refine lp (fun k e H => ∃ i : Nat, i ≤ 36 ∧ k = 36 - i ∧ H = [.var (closedD (la, 0)), .var (closedD (lb, 0)), .var (closedD (lc, 0))] ∧ e = [(13, .int .i64 i), (10, .ptr 0 []), (11, .ptr 1 []), (12, .ptr 2 []), (7, .bool true)]) ?_ ?_
      · refine ⟨37, 36, _, [.var (closedD (la, 0)), .var (closedD (lb, 0)), .var (closedD (lc, 0))], by omega, ⟨_, .refl _, .inr ⟨[6, 7, 8], ⟨?_, ?_, rfl, rfl⟩⟩⟩, 0, by omega, rfl, rfl, rfl⟩
        · exact ⟨.refl _, rfl, .refl _, rfl, .refl _, rfl, .refl _, rfl, .refl _, rfl, trivial⟩
        · exact ⟨rfl, rfl, rfl, rfl, rfl, rfl, trivial⟩
      · rintro k e H ⟨i, hi, rfl, rfl, rfl⟩
        conv => whnf
        refine ifb (fun c3 => ?_) (fun c3 => ?_)
        · have c3 : i < 36 := by
            have : decide ((i : Int) < ((la.map CellM.D).length : Nat)) = true := c3
            rw [List.length_map, hla] at this
            simp at this; omega
          obtain ⟨x, y, hx, hy, hxy1, hxy2⟩ := hab i c3
          have hxD : (la.map CellM.D)[i]? = some x.D := by rw [List.getElem?_map, hx]; rfl
          have hyD : (lb.map CellM.D)[i]? = some y.D := by rw [List.getElem?_map, hy]; rfl
          conv => whnf
          refine drT 40 (by decide +kernel) ?_
          conv => whnf
          refine ifb (fun c5 => ?_) (fun c5 => ?_)
          · exfalso
            have : decide (((lb.map CellM.D).length : Int) ≤ (i : Int)) = true := c5
            rw [List.length_map, hlb] at this
            simp at this; omega
          conv => whnf
          refine ob (by omega) ⟨y.D, hyD, ?_⟩
          conv => whnf
          refine ob (by omega) ⟨x.D, hxD, ?_⟩
          conv => whnf
          refine ifb (fun c7 => absurd (of_decide_eq_true c7) (by omega)) (fun c7 => ?_)
          conv => whnf
          refine ob (by omega) ⟨y.D, hyD, ?_⟩
          conv => whnf
          refine ob (by omega) ⟨x.D, hxD, ?_⟩
          conv => whnf
          refine ifb (fun c8 => absurd (of_decide_eq_true c8) (by omega)) (fun c8 => ?_)
          clear hx hy hxD hyD hxy1 hxy2
          conv => whnf
          refine drT 35 (by decide +kernel) ?_
          conv => whnf
          refine ifb (fun c6 => ?_) (fun c6 => ?_)
          · have c6 : i < 21 := by
              have : decide ((i : Int) < ((lc.map CellM.D).length : Nat)) = true := c6
              rw [List.length_map, hlc] at this
              simp at this; omega
            obtain ⟨x, z, hx, hz, hxz1, hxz2⟩ := hac i c6
            have hxD : (la.map CellM.D)[i]? = some x.D := by rw [List.getElem?_map, hx]; rfl
            have hzD : (lc.map CellM.D)[i]? = some z.D := by rw [List.getElem?_map, hz]; rfl
            conv => whnf
            refine ob (by omega) ⟨z.D, hzD, ?_⟩
            conv => whnf
            refine ob (by omega) ⟨x.D, hxD, ?_⟩
            conv => whnf
            refine ifb (fun c7 => absurd (of_decide_eq_true c7) (by omega)) (fun c7 => ?_)
            conv => whnf
            refine ob (by omega) ⟨z.D, hzD, ?_⟩
            conv => whnf
            refine ob (by omega) ⟨x.D, hxD, ?_⟩
            conv => whnf
            refine ifb (fun c8 => absurd (of_decide_eq_true c8) (by omega)) (fun c8 => ?_)
            conv => whnf
            refine iv ((i + 1 : Nat) : Int) (by rw [w64 (by omega) (by omega)]; omega) ?_
            conv => whnf
            refine back (36 - (i + 1)) _ (by omega) ?_ ⟨i + 1, by omega, rfl, rfl, rfl⟩
            exact se0 rfl (se0 rfl (se0 rfl (se0 rfl (se0 rfl trivial))))
          · conv => whnf
            refine iv ((i + 1 : Nat) : Int) (by rw [w64 (by omega) (by omega)]; omega) ?_
            conv => whnf
            refine back (36 - (i + 1)) _ (by omega) ?_ ⟨i + 1, by omega, rfl, rfl, rfl⟩
            exact se0 rfl (se0 rfl (se0 rfl (se0 rfl (se0 rfl trivial))))
        · conv => whnf
          refine ifb (fun c4 => ?_) (fun c4 => ?_)
          · conv => whnf
            exact ⟨rfl, rfl⟩
          · have : decide (((lc.map CellM.D).length : Int) = 21) = false := c4
            rw [List.length_map, hlc] at this
            simp at this

end Go.Proofs.Ythplmnpfaagciaa.Pw
