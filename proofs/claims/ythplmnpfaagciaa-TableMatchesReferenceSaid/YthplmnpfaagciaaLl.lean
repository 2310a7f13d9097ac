/- Parts of the proof, merged: NF. -/
import Derived.Test.YthplmnpfaagciaaLk
/- The reference's first table, of any length, with known bounds. -/
set_option linter.unusedVariables false
set_option linter.unusedSimpArgs false
namespace Go.Proofs.Ythplmnpfaagciaa.Pw
open Go

/-- Rows on the way: the places 1 .. d are done. -/
def loW (W d : Nat) : List Int := (List.range W).map fun i => if 1 ≤ i ∧ i ≤ d then 2 else 0
def hiW (W m d : Nat) : List Int := (List.range W).map fun i => if 1 ≤ i ∧ i ≤ d then 2 ^ m else 0
def loFW (W m : Nat) : List Int := if m = 0 then loW W 0 else (loW W m).set 1 (2 ^ m)
def hiFW (W m : Nat) : List Int := if m = 0 then hiW W 0 0 else (hiW W m m).set m 2
def rowsI (W : Nat) : Nat → List Ob
  | 0 => []
  | k + 1 => rowsI W k ++ [rowO (loFW W k), rowO (hiFW W k)]
def stG (W : Nat) : Nat → List Ob
  | 0 => [.var (.agg [.nils, .nils]), .var (.agg [.nils, .nils])]
  | k + 1 => [.var (.agg [.nils, .nils]), .var (.agg [.sl 2 0 (k + 1), .sl 3 0 (k + 1)]), .row .leaf (refsI 4 W (k + 1)), .row .leaf (refsI 5 W (k + 1))] ++ rowsI W (k + 1)
theorem rep_map (W : Nat) (f : Nat → Int) (hf : ∀ i, i < W → f i = 0) : List.replicate W (D.int .i64 0) = ((List.range W).map f).map (.int .i64) := by
  apply List.ext_getElem?
  intro i
  by_cases h : i < W
  · rw [List.getElem?_replicate, if_pos h]
    simp [List.getElem?_range h, hf i h]
  · rw [List.getElem?_eq_none (by simp; omega), List.getElem?_eq_none (by simp; omega)]
theorem loW_zero (W : Nat) : List.replicate W (D.int .i64 0) = (loW W 0).map (.int .i64) := rep_map W _ (fun i _ => if_neg (by omega))
theorem hiW_zero (W m : Nat) : List.replicate W (D.int .i64 0) = (hiW W m 0).map (.int .i64) := rep_map W _ (fun i _ => if_neg (by omega))
theorem setW (W d : Nat) (f g : Nat → Int) (x : Int) (hd : d < W) (h : ∀ i, g i = if i = d then x else f i) : (((List.range W).map f).map (D.int .i64)).set d (.int .i64 x) = ((List.range W).map g).map (.int .i64) := by
  rw [setRow]
  congr 1
  apply List.ext_getElem?
  intro i
  rw [List.getElem?_set]
  by_cases e : d = i
  · subst e
    rw [if_pos rfl, if_pos (by simpa using hd)]
    simp [List.getElem?_range hd, h]
  · rw [if_neg e]
    by_cases hi : i < W
    · simp [List.getElem?_range hi, h, Ne.symm e]
    · rw [List.getElem?_eq_none (by simp; omega), List.getElem?_eq_none (by simp; omega)]
theorem loW_step (W d : Nat) (hd : d + 1 < W) : ((loW W d).map (D.int .i64)).set (d + 1) (.int .i64 2) = (loW W (d + 1)).map (.int .i64) :=
  setW W (d + 1) _ _ 2 hd (fun i => by by_cases e : i = d + 1 <;> simp [e] <;> (try split) <;> (try split) <;> omega)
theorem hiW_step (W m d : Nat) (hd : d + 1 < W) : ((hiW W m d).map (D.int .i64)).set (d + 1) (.int .i64 (2 ^ m)) = (hiW W m (d + 1)).map (.int .i64) :=
  setW W (d + 1) _ _ (2 ^ m) hd (fun i => by
    by_cases e : i = d + 1
    · simp [e]
    · rw [if_neg e]
      by_cases h : 1 ≤ i ∧ i ≤ d
      · rw [if_pos h, if_pos (by omega)]
      · rw [if_neg h, if_neg (by omega)])
theorem len_W (W : Nat) (f : Nat → Int) : (((List.range W).map f).map (D.int .i64)).length = W := by simp

theorem ren_row (ρ : List Nat) (r : List Int) : rowO r = renO ρ (rowO r) := by
  show _ = Ob.row .leaf (renDs ρ (r.map (.int .i64)))
  rw [ren_cls _ _ (cl_ints r)]; rfl
theorem in_row (n : Nat) (r : List Int) : inO n (rowO r) = true := in_cls _ _ (cl_ints r)
theorem new_lo (W m : Nat) (h : m ≠ 0) : Ob.row .leaf (((loW W m).map (.int .i64)).set 1 (.int .i64 (2 ^ m))) = rowO (loFW W m) := by
  rw [setRow, loFW, if_neg h]; rfl
theorem new_hi (W m : Nat) (h : m ≠ 0) : Ob.row .leaf (((hiW W m m).map (.int .i64)).set m (.int .i64 2)) = rowO (hiFW W m) := by
  rw [setRow, hiFW, if_neg h]; rfl
theorem set_z (xs : List D) (d : Nat) (y : D) : xs.set (0 + (d + 1)) y = xs.set (d + 1) y := by rw [Nat.zero_add]
theorem zlo (W : Nat) : rowO (loW W 0) = .row .leaf (List.replicate W (.int .i64 0)) := by rw [loW_zero]; rfl
theorem zhi (W m : Nat) : rowO (hiW W m 0) = .row .leaf (List.replicate W (.int .i64 0)) := by rw [hiW_zero W m]; rfl
theorem slo (W d : Nat) (h : d + 1 < W) : rowO (loW W (d + 1)) = .row .leaf (((loW W d).map (D.int .i64)).set (0 + (d + 1)) (.int .i64 2)) := by rw [Nat.zero_add, loW_step W d h]; rfl
theorem shi (W m d : Nat) (h : d + 1 < W) : rowO (hiW W m (d + 1)) = .row .leaf (((hiW W m d).map (D.int .i64)).set (0 + (d + 1)) (.int .i64 (2 ^ m))) := by rw [Nat.zero_add, hiW_step W m d h]; rfl
theorem new_lo0 (W : Nat) : rowO (loW W 0) = rowO (loFW W 0) := by rw [loFW, if_pos rfl]
theorem new_hi0 (W : Nat) : rowO (hiW W 0 0) = rowO (hiFW W 0) := by rw [hiFW, if_pos rfl]
def zz : D := .agg [.nils, .nils]
def t0W (W : Nat) : Tb := ⟨(List.range W).map (loFW W), (List.range W).map (hiFW W)⟩
theorem inter_snoc : ∀ (l h : List (List Int)) (a b : List Int), l.length = h.length → inter (l ++ [a]) (h ++ [b]) = inter l h ++ [rowO a, rowO b]
  | [], [], a, b, _ => rfl
  | [], _ :: _, _, _, e => by simp at e
  | _ :: _, [], _, _, e => by simp at e
  | x :: l, y :: h, a, b, e => by simp only [List.cons_append, inter, inter_snoc l h a b (by simpa using e)]
theorem rowsI_inter (W : Nat) : ∀ k, rowsI W k = inter ((List.range k).map (loFW W)) ((List.range k).map (hiFW W))
  | 0 => rfl
  | k + 1 => by
    rw [rowsI, rowsI_inter W k, List.range_succ, List.map_append, List.map_append]
    exact (inter_snoc _ _ _ _ (by simp)).symm
theorem stG_stI (W : Nat) (h : 1 ≤ W) : stG W W = stI zz W (t0W W) := by
  obtain ⟨k, rfl⟩ : ∃ k, W = k + 1 := ⟨W - 1, by omega⟩
  show _ ++ rowsI (k + 1) (k + 1) = _
  rw [rowsI_inter]; rfl
theorem t0W_get (W m d : Nat) (hm : m < W) (hd : d < W) : gt2 (t0W W).lo m d = (loFW W m).getD d 0 ∧ gt2 (t0W W).hi m d = (hiFW W m).getD d 0 := by
  constructor <;> simp [gt2, t0W, List.getD, List.getElem?_range hm]
theorem loFW_get (W m d : Nat) (h1 : 1 ≤ d) (h2 : d ≤ m) (hm : m < W) : (loFW W m).getD d 0 = if d = 1 then 2 ^ m else 2 := by
  rw [loFW, if_neg (by omega), List.getD, List.getElem?_set]
  by_cases e : 1 = d
  · rw [if_pos e, if_pos (by simp [loW]; omega), if_pos e.symm]; rfl
  · rw [if_neg e, if_neg (fun h => e h.symm)]
    simp [loW, List.getElem?_range (show d < W by omega)]
    omega
theorem hiFW_get (W m d : Nat) (h1 : 1 ≤ d) (h2 : d ≤ m) (hm : m < W) : (hiFW W m).getD d 0 = if d = m then 2 else 2 ^ m := by
  rw [hiFW, if_neg (by omega), List.getD, List.getElem?_set]
  by_cases e : m = d
  · rw [if_pos e, if_pos (by simp [hiW]; omega), if_pos e.symm]; rfl
  · rw [if_neg e, if_neg (fun h => e h.symm)]
    simp [hiW, List.getElem?_range (show d < W by omega)]
    omega
theorem loFW_len (W m : Nat) : (loFW W m).length = W := by unfold loFW; split <;> simp [loW]
theorem hiFW_len (W m : Nat) : (hiFW W m).length = W := by unfold hiFW; split <;> simp [hiW]
theorem pow_le (m : Nat) (h : m ≤ 8) : (1 : Int) ≤ 2 ^ m ∧ (2 : Int) ^ m ≤ 256 ∧ (1 ≤ m → (2 : Int) ≤ 2 ^ m) := by
  have : m = 0 ∨ m = 1 ∨ m = 2 ∨ m = 3 ∨ m = 4 ∨ m = 5 ∨ m = 6 ∨ m = 7 ∨ m = 8 := by omega
  rcases this with rfl | rfl | rfl | rfl | rfl | rfl | rfl | rfl | rfl <;> decide
theorem bdd_lo (W : Nat) (hW : W ≤ 9) : Bdd (t0W W).lo := by
  intro r hr x hx
  obtain ⟨m, hm, rfl⟩ := List.mem_map.1 hr
  have hm : m < W := List.mem_range.1 hm
  have hp := pow_le m (by omega)
  have hmem : x ∈ loW W m ∨ x = 2 ^ m ∨ x ∈ loW W 0 := by
    unfold loFW at hx
    split at hx
    · exact .inr (.inr hx)
    · exact (List.mem_or_eq_of_mem_set hx).imp id .inl
  have two : ∀ d, x ∈ loW W d → x = 2 ∨ x = 0 := by
    intro d hx
    obtain ⟨i, _, rfl⟩ := List.mem_map.1 hx
    split <;> simp
  rcases hmem with h | h | h
  · rcases two _ h with rfl | rfl <;> omega
  · subst h; omega
  · rcases two _ h with rfl | rfl <;> omega
theorem bdd_hi (W : Nat) (hW : W ≤ 9) : Bdd (t0W W).hi := by
  intro r hr x hx
  obtain ⟨m, hm, rfl⟩ := List.mem_map.1 hr
  have hm : m < W := List.mem_range.1 hm
  have hp := pow_le m (by omega)
  have hmem : x ∈ hiW W m m ∨ x = 2 ∨ x ∈ hiW W 0 0 := by
    unfold hiFW at hx
    split at hx
    · exact .inr (.inr hx)
    · exact (List.mem_or_eq_of_mem_set hx).imp id .inl
  have two : ∀ m d, x ∈ hiW W m d → x = 2 ^ m ∨ x = 0 := by
    intro m d hx
    obtain ⟨i, _, rfl⟩ := List.mem_map.1 hx
    split <;> simp
  rcases hmem with h | h | h
  · rcases two _ _ h with rfl | rfl <;> omega
  · subst h; omega
  · rcases two _ _ h with h | h <;> rw [h] <;> decide
theorem t0W_tab {n W : Nat} (hW : W = n + 1) (hn1 : 1 ≤ n) (hn8 : n ≤ 8) (G : List Int) : TabJ [] G n (t0W W) := by
  have cell : ∀ s, isC n s → ∃ m d : Nat, s = ⟨m, d, s.up⟩ ∧ 1 ≤ d ∧ d ≤ m ∧ m ≤ n := by
    intro s hs
    have h1 := hs.1; have h2 := hs.2.1; have h3 := hs.2.2
    obtain ⟨sn, sd, su⟩ := s
    simp only at h1 h2 h3
    refine ⟨sn.toNat, sd.toNat, ?_, by omega, by omega, by omega⟩
    simp only [Side.mk.injEq, and_true]
    omega
  have val : ∀ m d : Nat, 1 ≤ d → d ≤ m → m ≤ n → gt2 (t0W W).lo m d = (if d = 1 then 2 ^ m else 2) ∧ gt2 (t0W W).hi m d = (if d = m then 2 else 2 ^ m) := by
    intro m d h1 h2 h3
    obtain ⟨a, b⟩ := t0W_get W m d (by omega) (by omega)
    exact ⟨a.trans (loFW_get W m d h1 h2 (by omega)), b.trans (hiFW_get W m d h1 h2 (by omega))⟩
  refine ⟨⟨by simp [t0W, hW], ?_⟩, ⟨by simp [t0W, hW], ?_⟩, bdd_lo W (by omega), bdd_hi W (by omega), ?_, ?_⟩
  · intro r hr
    obtain ⟨m, _, rfl⟩ := List.mem_map.1 hr
    rw [loFW_len]; omega
  · intro r hr
    obtain ⟨m, _, rfl⟩ := List.mem_map.1 hr
    rw [hiFW_len]; omega
  · intro s hs
    obtain ⟨m, d, e, h1, h2, h3⟩ := cell s hs
    rw [e] at hs ⊢
    cases s.up
    · have hv : tv (t0W W) ⟨m, d, false⟩ = if d = 1 then 2 ^ m else 2 := by simp [tv, (val m d h1 h2 h3).1]
      rw [hv]
      split
      · next h => subst h; exact Der.one ⟨m, (1 : Nat), false⟩ hs (.inr rfl)
      · exact Der.two ⟨m, d, false⟩ hs (.inl rfl)
    · have hv : tv (t0W W) ⟨m, d, true⟩ = if d = m then 2 else 2 ^ m := by simp [tv, (val m d h1 h2 h3).2]
      rw [hv]
      split
      · next h => subst h; exact Der.two ⟨d, d, true⟩ hs (.inr rfl)
      · exact Der.one ⟨m, d, true⟩ hs (.inl rfl)
  · intro s v hv
    have hs : isC n s := by cases hv <;> assumption
    obtain ⟨m, d, e, h1, h2, h3⟩ := cell s hs
    have hp := (pow_le m (by omega)).2.2 (by omega)
    have vl := (val m d h1 h2 h3).1
    have vh := (val m d h1 h2 h3).2
    have e1 : s.n = m := congrArg Side.n e
    have e2 : s.d = d := congrArg Side.d e
    cases hv with
    | known k hk => simp at hk
    | one _ _ h =>
      rw [e1]
      unfold tv better
      rw [e1, e2, vl, vh]
      cases hu : s.up
      · rw [hu, e2] at h
        have : d = 1 := by rcases h with h | h; (cases h); omega
        subst this
        simp
      · simp; split <;> omega
    | two _ _ h =>
      unfold tv better
      rw [e1, e2, vl, vh]
      cases hu : s.up
      · simp; split <;> omega
      · rw [hu, e1, e2] at h
        have : d = m := by rcases h with h | h; (cases h); omega
        subst this
        simp
/-- A known bound more. -/
def setS (t : Tb) (m d : Nat) (u : Bool) (x : Int) : Tb := if u = true then ⟨t.lo, t.hi.set m ((t.hi.getD m []).set d x)⟩ else ⟨t.lo.set m ((t.lo.getD m []).set d x), t.hi⟩
theorem TabJ.more {K : List Known} {G : List Int} {n : Nat} {t : Tb} (h : TabJ K G n t) {k : Known} (hno : ¬ (force k G = true ∧ k.n ≤ n)) : TabJ (K ++ [k]) G n t := by
  refine ⟨h.rl, h.rh, h.bl, h.bh, fun s hs => der_more (fun k hk hf => ⟨List.mem_append_left _ hk, hf⟩) (Int.le_refl _) (h.der s hs), ?_⟩
  intro s v hv
  cases hv with
  | known k' h1 h2 h3 =>
    rcases List.mem_append.1 h1 with h1 | h1
    · exact h.base _ _ (.known k' h1 h2 h3)
    · simp at h1; subst h1
      exact absurd ⟨h2, h3.2.2⟩ hno
  | one s a b => exact h.base _ _ (.one s a b)
  | two s a b => exact h.base _ _ (.two s a b)
def bett (u : Bool) (a v : Int) : Int := if u = true then min a v else max a v
theorem TabJ.put {K : List Known} {G : List Int} {n : Nat} {t : Tb} (h : TabJ K G n t) {k : Known} (hf : force k G = true) {m d : Nat} (hm : k.n = m) (hd : k.d = d) (h1 : 1 ≤ d) (h2 : d ≤ m) (h3 : m ≤ n) (hv : 1 ≤ k.v ∧ k.v ≤ 16777216) :
    TabJ (K ++ [k]) G n (setS t m d k.up (bett k.up (tv t ⟨m, d, k.up⟩) k.v)) := by
  have hks : k.s = ⟨m, d, k.up⟩ := by unfold Known.s; rw [hm, hd]
  have hkc : isC n k.s := by rw [hks]; exact ⟨by simp only; omega, by simp only; omega, by simp only; omega⟩
  have tvs : ∀ s, isC n s → tv (setS t m d k.up (bett k.up (tv t ⟨m, d, k.up⟩) k.v)) s = if s = ⟨m, d, k.up⟩ then bett k.up (tv t ⟨m, d, k.up⟩) k.v else tv t s := by
    intro s hs
    obtain ⟨sn, sd, su⟩ := s
    have c1 := hs.1; have c2 := hs.2.1; have c3 := hs.2.2
    simp only at c1 c2 c3
    obtain ⟨a, rfl⟩ : ∃ a : Nat, sn = a := ⟨sn.toNat, by omega⟩
    obtain ⟨b, rfl⟩ : ∃ b : Nat, sd = b := ⟨sd.toNat, by omega⟩
    generalize bett k.up (tv t ⟨m, d, k.up⟩) k.v = x
    cases hu : k.up <;> cases su
    · simp only [tv, setS, if_false, Bool.false_eq_true, Side.mk.injEq, and_true]
      rw [gt2_updN h.rl h3 (by omega)]
      by_cases e : a = m ∧ b = d
      · rw [if_pos e, if_pos (by omega)]
      · rw [if_neg e, if_neg (by omega)]
    · simp [tv, setS]
    · simp [tv, setS]
    · simp only [tv, setS, if_true, Side.mk.injEq, and_true]
      rw [gt2_updN h.rh h3 (by omega)]
      by_cases e : a = m ∧ b = d
      · rw [if_pos e, if_pos (by omega)]
      · rw [if_neg e, if_neg (by omega)]
  have hx : bett k.up (tv t ⟨m, d, k.up⟩) k.v = tv t ⟨m, d, k.up⟩ ∨ bett k.up (tv t ⟨m, d, k.up⟩) k.v = k.v := by
    unfold bett; split <;> omega
  have hxb : better ⟨m, d, k.up⟩ (tv t ⟨m, d, k.up⟩) (bett k.up (tv t ⟨m, d, k.up⟩) k.v) = false ∧ better ⟨m, d, k.up⟩ k.v (bett k.up (tv t ⟨m, d, k.up⟩) k.v) = false := by
    unfold bett better; split <;> simp <;> omega
  have hbd : -67108864 ≤ bett k.up (tv t ⟨m, d, k.up⟩) k.v ∧ bett k.up (tv t ⟨m, d, k.up⟩) k.v ≤ 67108864 := by
    have : -67108864 ≤ tv t ⟨m, d, k.up⟩ ∧ tv t ⟨m, d, k.up⟩ ≤ 67108864 := by
      unfold tv
      split
      · exact tb_bd h.bh _ _
      · exact tb_bd h.bl _ _
    rcases hx with e | e <;> rw [e] <;> omega
  have hmono : ∀ s, isC n s → Der (K ++ [k]) G n s (tv t s) := fun s hs => der_more (fun k hk hf => ⟨List.mem_append_left _ hk, hf⟩) (Int.le_refl _) (h.der s hs)
  have hbase : ∀ s v, Bs (K ++ [k]) G n s v → better s v (tv (setS t m d k.up (bett k.up (tv t ⟨m, d, k.up⟩) k.v)) s) = false := by
    intro s v hv
    have hs : isC n s := by cases hv <;> assumption
    rw [tvs s hs]
    have old : Bs K G n s v → better s v (if s = ⟨m, d, k.up⟩ then bett k.up (tv t ⟨m, d, k.up⟩) k.v else tv t s) = false := by
      intro hb
      have := h.base s v hb
      split
      · next e => subst e; exact nb_trans this hxb.1
      · exact this
    cases hv with
    | known k' h1 h2 h3 =>
      rcases List.mem_append.1 h1 with h1 | h1
      · exact old (.known k' h1 h2 h3)
      · simp at h1; subst h1
        have e : (⟨k'.n, k'.d, k'.up⟩ : Side) = ⟨m, d, k'.up⟩ := by rw [hm, hd]
        rw [e, if_pos rfl]
        exact hxb.2
    | one s a b => exact old (.one s a b)
    | two s a b => exact old (.two s a b)
  have hder : ∀ s, isC n s → Der (K ++ [k]) G n s (tv (setS t m d k.up (bett k.up (tv t ⟨m, d, k.up⟩) k.v)) s) := by
    intro s hs
    rw [tvs s hs]
    split
    · next e =>
      rcases hx with h4 | h4
      · rw [h4, ← e]; exact hmono s hs
      · rw [h4, e, ← hks]
        exact .known k (by simp) hf hkc
    · exact hmono s hs
  refine ⟨?_, ?_, ?_, ?_, hder, hbase⟩
  · unfold setS; split
    · exact h.rl
    · exact rect_updN h.rl h3 _
  · unfold setS; split
    · exact rect_updN h.rh h3 _
    · exact h.rh
  · unfold setS; split
    · exact h.bl
    · exact bdd_updN h.rl h.bl h3 hbd
  · unfold setS; split
    · exact bdd_updN h.rh h.bh h3 hbd
    · exact h.bh
theorem TabJ.tbN {K : List Known} {G : List Int} {n : Nat} {t : Tb} (h : TabJ K G n t) {W : Nat} (hW : W = n + 1) : TbN W t :=
  ⟨by have := h.rl.1; omega, by have := h.rh.1; omega, fun r hr => by have := h.rl.2 r hr; omega, fun r hr => by have := h.rh.2 r hr; omega⟩
theorem inE_tab {N n i : Nat} {fk fg : Bool} {K : List Known} {G : List Int} (h : 2 ≤ N) : inE N [(12, .int .i64 i), (0, .int .i64 n), (1, knownsD fk K), (2, intsD fg G), (7, .ptr 1 []), (6, .ptr 0 [])] = true := by
  obtain ⟨k, rfl⟩ : ∃ k, N = k + 2 := ⟨N - 2, by omega⟩
  rfl

set_option maxHeartbeats 40000000 in
theorem hcFirstG (n : Nat) (hn1 : 1 ≤ n) (hn8 : n ≤ 8) (fk fg : Bool) (K : List Known) (G : List Int) (hR : rightK K = true) :
    HC Try.prog 36 [.int .i64 n, knownsD fk K, intsD fg G] [] (fun r H' => ∃ t, r = .agg [.sl 2 0 (n + 1), .sl 3 0 (n + 1)] ∧ H' = stI (.agg [.sl 2 0 (n + 1), .sl 3 0 (n + 1)]) (n + 1) t ∧ TabJ K G n t) := by
  obtain ⟨W, hW⟩ : ∃ W, W = n + 1 := ⟨_, rfl⟩
  have hW2 : 2 ≤ W := by omega
  have hW9 : W ≤ 9 := by omega
  have hWi : ((n : Int) + 1) = (W : Int) := by omega
  refine hc_ofS (okc Try.f36.ntmps 0) (fn := Try.f36) (cd := _) rfl rfl rfl rfl rfl rfl (fun hbd => ?_)
  conv => whnf
  refine lp (fun k e H => ∃ m : Nat, m ≤ W ∧ k = W - m ∧ H = stG W m ∧ e = [(8, .int .i64 m), (0, .int .i64 n), (1, knownsD fk K), (2, intsD fg G), (7, .ptr 1 []), (6, .ptr 0 [])]) ?_ ?_
  · refine ⟨W + 1, back W _ (by omega) ?_ ⟨0, by omega, rfl, rfl, rfl⟩⟩
    exact se0 rfl (se0 rfl (se0 rfl (se0 rfl (se0 rfl (se0 rfl trivial)))))
  · rintro k e H ⟨m, hm, rfl, rfl, rfl⟩
    rcases Nat.lt_or_ge m W with hmW | hmW
    · have hcases : m = 0 ∨ m = 1 ∨ m = 2 ∨ m = 3 ∨ m = 4 ∨ m = 5 ∨ m = 6 ∨ m = 7 ∨ m = 8 := by omega
      rcases hcases with rfl | rfl | rfl | rfl | rfl | rfl | rfl | rfl | rfl
      · rw [show stG W 0 = [.var (.agg [.nils, .nils]), .var (.agg [.nils, .nils])] from rfl]
        conv => whnf
        refine drS 8 rfl ?_
        conv => whnf
        refine iv (W : Int) (by rw [w64 (by omega) (by omega)]; exact hWi) ?_
        conv => whnf
        refine ob ⟨by omega, rfl, by show ((W : Nat) : Int) ≤ 2147483648; omega⟩ ?_
        conv => whnf
        refine iv (W : Int) (by rw [w64 (by omega) (by omega)]; exact hWi) ?_
        conv => whnf
        refine ob ⟨by omega, rfl, by show ((W : Nat) : Int) ≤ 2147483648; omega⟩ ?_
        conv => whnf
        refine lp (fun k e H => ∃ d : Nat, d ≤ 0 ∧ k = 0 - d ∧ H = [.var (.agg [.nils, .nils]), .var (.agg [.nils, .nils]), rowO (loW W d), rowO (hiW W 0 d)] ∧ e = [(11, .int .i64 (d + 1 : Nat)), (9, .sl 2 0 W), (10, .sl 3 0 W), (8, .int .i64 (0 : Nat)), (0, .int .i64 n), (1, knownsD fk K), (2, intsD fg G), (7, .ptr 1 []), (6, .ptr 0 [])]) ?_ ?_
        · refine ⟨1, 0, _, [.var (.agg [.nils, .nils]), .var (.agg [.nils, .nils]), rowO (loW W 0), rowO (hiW W 0 0)], by omega, ⟨_, .refl _, .inl ⟨?_, ?_⟩⟩, 0, by omega, rfl, rfl, rfl⟩
          · rw [zlo, zhi]; rfl
          · exact se0 rfl (se0 rfl (se0 rfl (se0 rfl (se0 rfl (se0 rfl (se0 rfl (se0 rfl (se0 rfl trivial))))))))
        · rintro k e H ⟨d, hd, rfl, rfl, rfl⟩
          obtain rfl : d = 0 := by omega
          conv => whnf
          refine ob (Nat.le_refl 1) ?_
          conv => whnf
          refine ob (Nat.le_of_ble_eq_true rfl) ?_
          conv => whnf
          refine ob (Nat.le_refl 1) ?_
          conv => whnf
          refine ob (Nat.le_of_ble_eq_true rfl) ?_
          conv => whnf
          refine iv ((0 + 1 : Nat) : Int) (by decide) ?_
          conv => whnf
          refine ⟨W - (0 + 1), _, stG W (0 + 1), by omega, ⟨_, .refl _, .inr ⟨[0, 1, 5, 7, 2, 3], ⟨?_, ?_, rfl, rfl⟩⟩⟩, 0 + 1, by omega, rfl, rfl, rfl⟩
          · exact ⟨.refl _, rfl, .refl _, rfl, .refl _, rfl, .refl _, rfl, .refl _, rfl, .refl _, rfl, trivial⟩
          · exact ⟨rfl, rfl, rfl, rfl, rfl, rfl, rfl, rfl, (new_lo0 W).trans (ren_row _ _), in_row _ _, (new_hi0 W).trans (ren_row _ _), in_row _ _, trivial⟩
      · rw [show stG W 1 = [.var (.agg [.nils, .nils]), .var (.agg [.sl 2 0 1, .sl 3 0 1]), .row .leaf [.sl 4 0 W], .row .leaf [.sl 5 0 W], rowO (loFW W 0), rowO (hiFW W 0)] from rfl]
        conv => whnf
        refine ifb (fun c1 => ?_) (fun c1 => absurd (of_decide_eq_false c1) (by omega))
        conv => whnf
        refine drS 8 rfl ?_
        conv => whnf
        refine iv (W : Int) (by rw [w64 (by omega) (by omega)]; exact hWi) ?_
        conv => whnf
        refine ob ⟨by omega, rfl, by show ((W : Nat) : Int) ≤ 2147483648; omega⟩ ?_
        conv => whnf
        refine iv (W : Int) (by rw [w64 (by omega) (by omega)]; exact hWi) ?_
        conv => whnf
        refine ob ⟨by omega, rfl, by show ((W : Nat) : Int) ≤ 2147483648; omega⟩ ?_
        conv => whnf
        refine lp (fun k e H => ∃ d : Nat, d ≤ 1 ∧ k = 1 - d ∧ H = [.var (.agg [.nils, .nils]), .var (.agg [.sl 2 0 1, .sl 3 0 1]), .row .leaf [.sl 4 0 W], .row .leaf [.sl 5 0 W], rowO (loFW W 0), rowO (hiFW W 0), rowO (loW W d), rowO (hiW W 1 d)] ∧ e = [(11, .int .i64 (d + 1 : Nat)), (9, .sl 6 0 W), (10, .sl 7 0 W), (8, .int .i64 (1 : Nat)), (0, .int .i64 n), (1, knownsD fk K), (2, intsD fg G), (7, .ptr 1 []), (6, .ptr 0 [])]) ?_ ?_
        · refine ⟨2, 1, _, [.var (.agg [.nils, .nils]), .var (.agg [.sl 2 0 1, .sl 3 0 1]), .row .leaf [.sl 4 0 W], .row .leaf [.sl 5 0 W], rowO (loFW W 0), rowO (hiFW W 0), rowO (loW W 0), rowO (hiW W 1 0)], by omega, ⟨_, .refl _, .inl ⟨?_, ?_⟩⟩, 0, by omega, rfl, rfl, rfl⟩
          · rw [zlo, zhi]; rfl
          · exact se0 rfl (se0 rfl (se0 rfl (se0 rfl (se0 rfl (se0 rfl (se0 rfl (se0 rfl (se0 rfl trivial))))))))
        · rintro k e H ⟨d, hd, rfl, rfl, rfl⟩
          rcases Nat.lt_or_ge d 1 with hdm | hdm
          · conv => whnf
            refine ifb (fun c2 => ?_) (fun c2 => absurd (of_decide_eq_false c2) (by omega))
            conv => whnf
            refine ob ⟨by omega, by omega⟩ ?_
            conv => whnf
            refine ob (by show 0 + (d + 1) < ((loW W d).map (D.int .i64)).length; rw [loW, len_W]; omega) ?_
            conv => whnf
            refine iv 1 (show IntKind.u64.wrap 1 = 1 from by decide) ?_
            conv => whnf
            refine ob (by decide) ?_
            refine iv (2 ^ 1) (by decide) ?_
            conv => whnf
            refine ob ⟨by omega, by omega⟩ ?_
            conv => whnf
            refine ob (by show 0 + (d + 1) < ((hiW W 1 d).map (D.int .i64)).length; rw [hiW, len_W]; omega) ?_
            conv => whnf
            refine iv ((d + 1 + 1 : Nat) : Int) (by rw [w64 (by omega) (by omega)]; omega) ?_
            conv => whnf
            refine ⟨1 - (d + 1), _, [.var (.agg [.nils, .nils]), .var (.agg [.sl 2 0 1, .sl 3 0 1]), .row .leaf [.sl 4 0 W], .row .leaf [.sl 5 0 W], rowO (loFW W 0), rowO (hiFW W 0), rowO (loW W (d + 1)), rowO (hiW W 1 (d + 1))], by omega, ⟨_, .refl _, .inl ⟨?_, ?_⟩⟩, d + 1, by omega, rfl, rfl, rfl⟩
            · rw [slo W d (by omega), shi W 1 d (by omega)]; rfl
            · exact se0 rfl (se0 rfl (se0 rfl (se0 rfl (se0 rfl (se0 rfl (se0 rfl (se0 rfl (se0 rfl trivial))))))))
          · obtain rfl : d = 1 := by omega
            conv => whnf
            refine iv 1 (show IntKind.u64.wrap 1 = 1 from by decide) ?_
            conv => whnf
            refine ob (by decide) ?_
            refine iv (2 ^ 1) (by decide) ?_
            conv => whnf
            refine ob ⟨by decide, by omega⟩ ?_
            conv => whnf
            refine ob (by show 0 + 1 < ((loW W 1).map (D.int .i64)).length; rw [loW, len_W]; omega) ?_
            conv => whnf
            refine ob ⟨by omega, by omega⟩ ?_
            conv => whnf
            refine ob (by show 0 + 1 < ((hiW W 1 1).map (D.int .i64)).length; rw [hiW, len_W]; omega) ?_
            conv => whnf
            refine ob (Nat.le_refl 1) ?_
            conv => whnf
            refine ob (Nat.le_of_ble_eq_true rfl) ?_
            refine ob (Nat.le_of_ble_eq_true rfl) ?_
            conv => whnf
            refine ob (Nat.le_refl 1) ?_
            conv => whnf
            refine ob (Nat.le_of_ble_eq_true rfl) ?_
            refine ob (Nat.le_of_ble_eq_true rfl) ?_
            conv => whnf
            refine iv ((1 + 1 : Nat) : Int) (by decide) ?_
            conv => whnf
            refine ⟨W - (1 + 1), _, stG W (1 + 1), by omega, ⟨_, .refl _, .inr ⟨[0, 1, 9, 11, 4, 5, 6, 7], ⟨?_, ?_, rfl, rfl⟩⟩⟩, 1 + 1, by omega, rfl, rfl, rfl⟩
            · exact ⟨.refl _, rfl, .refl _, rfl, .refl _, rfl, .refl _, rfl, .refl _, rfl, .refl _, rfl, trivial⟩
            · exact ⟨rfl, rfl, rfl, rfl, rfl, rfl, rfl, rfl, ren_row _ _, in_row _ _, ren_row _ _, in_row _ _, (new_lo W 1 (by decide)).trans (ren_row _ _), in_row _ _, (new_hi W 1 (by decide)).trans (ren_row _ _), in_row _ _, trivial⟩
      · rw [show stG W 2 = [.var (.agg [.nils, .nils]), .var (.agg [.sl 2 0 2, .sl 3 0 2]), .row .leaf [.sl 4 0 W, .sl 6 0 W], .row .leaf [.sl 5 0 W, .sl 7 0 W], rowO (loFW W 0), rowO (hiFW W 0), rowO (loFW W 1), rowO (hiFW W 1)] from rfl]
        conv => whnf
        refine ifb (fun c1 => ?_) (fun c1 => absurd (of_decide_eq_false c1) (by omega))
        conv => whnf
        refine drS 8 rfl ?_
        conv => whnf
        refine iv (W : Int) (by rw [w64 (by omega) (by omega)]; exact hWi) ?_
        conv => whnf
        refine ob ⟨by omega, rfl, by show ((W : Nat) : Int) ≤ 2147483648; omega⟩ ?_
        conv => whnf
        refine iv (W : Int) (by rw [w64 (by omega) (by omega)]; exact hWi) ?_
        conv => whnf
        refine ob ⟨by omega, rfl, by show ((W : Nat) : Int) ≤ 2147483648; omega⟩ ?_
        conv => whnf
        refine lp (fun k e H => ∃ d : Nat, d ≤ 2 ∧ k = 2 - d ∧ H = [.var (.agg [.nils, .nils]), .var (.agg [.sl 2 0 2, .sl 3 0 2]), .row .leaf [.sl 4 0 W, .sl 6 0 W], .row .leaf [.sl 5 0 W, .sl 7 0 W], rowO (loFW W 0), rowO (hiFW W 0), rowO (loFW W 1), rowO (hiFW W 1), rowO (loW W d), rowO (hiW W 2 d)] ∧ e = [(11, .int .i64 (d + 1 : Nat)), (9, .sl 8 0 W), (10, .sl 9 0 W), (8, .int .i64 (2 : Nat)), (0, .int .i64 n), (1, knownsD fk K), (2, intsD fg G), (7, .ptr 1 []), (6, .ptr 0 [])]) ?_ ?_
        · refine ⟨3, 2, _, [.var (.agg [.nils, .nils]), .var (.agg [.sl 2 0 2, .sl 3 0 2]), .row .leaf [.sl 4 0 W, .sl 6 0 W], .row .leaf [.sl 5 0 W, .sl 7 0 W], rowO (loFW W 0), rowO (hiFW W 0), rowO (loFW W 1), rowO (hiFW W 1), rowO (loW W 0), rowO (hiW W 2 0)], by omega, ⟨_, .refl _, .inl ⟨?_, ?_⟩⟩, 0, by omega, rfl, rfl, rfl⟩
          · rw [zlo, zhi]; rfl
          · exact se0 rfl (se0 rfl (se0 rfl (se0 rfl (se0 rfl (se0 rfl (se0 rfl (se0 rfl (se0 rfl trivial))))))))
        · rintro k e H ⟨d, hd, rfl, rfl, rfl⟩
          rcases Nat.lt_or_ge d 2 with hdm | hdm
          · conv => whnf
            refine ifb (fun c2 => ?_) (fun c2 => absurd (of_decide_eq_false c2) (by omega))
            conv => whnf
            refine ob ⟨by omega, by omega⟩ ?_
            conv => whnf
            refine ob (by show 0 + (d + 1) < ((loW W d).map (D.int .i64)).length; rw [loW, len_W]; omega) ?_
            conv => whnf
            refine iv 2 (show IntKind.u64.wrap 2 = 2 from by decide) ?_
            conv => whnf
            refine ob (by decide) ?_
            refine iv (2 ^ 2) (by decide) ?_
            conv => whnf
            refine ob ⟨by omega, by omega⟩ ?_
            conv => whnf
            refine ob (by show 0 + (d + 1) < ((hiW W 2 d).map (D.int .i64)).length; rw [hiW, len_W]; omega) ?_
            conv => whnf
            refine iv ((d + 1 + 1 : Nat) : Int) (by rw [w64 (by omega) (by omega)]; omega) ?_
            conv => whnf
            refine ⟨2 - (d + 1), _, [.var (.agg [.nils, .nils]), .var (.agg [.sl 2 0 2, .sl 3 0 2]), .row .leaf [.sl 4 0 W, .sl 6 0 W], .row .leaf [.sl 5 0 W, .sl 7 0 W], rowO (loFW W 0), rowO (hiFW W 0), rowO (loFW W 1), rowO (hiFW W 1), rowO (loW W (d + 1)), rowO (hiW W 2 (d + 1))], by omega, ⟨_, .refl _, .inl ⟨?_, ?_⟩⟩, d + 1, by omega, rfl, rfl, rfl⟩
            · rw [slo W d (by omega), shi W 2 d (by omega)]; rfl
            · exact se0 rfl (se0 rfl (se0 rfl (se0 rfl (se0 rfl (se0 rfl (se0 rfl (se0 rfl (se0 rfl trivial))))))))
          · obtain rfl : d = 2 := by omega
            conv => whnf
            refine iv 2 (show IntKind.u64.wrap 2 = 2 from by decide) ?_
            conv => whnf
            refine ob (by decide) ?_
            refine iv (2 ^ 2) (by decide) ?_
            conv => whnf
            refine ob ⟨by decide, by omega⟩ ?_
            conv => whnf
            refine ob (by show 0 + 1 < ((loW W 2).map (D.int .i64)).length; rw [loW, len_W]; omega) ?_
            conv => whnf
            refine ob ⟨by omega, by omega⟩ ?_
            conv => whnf
            refine ob (by show 0 + 2 < ((hiW W 2 2).map (D.int .i64)).length; rw [hiW, len_W]; omega) ?_
            conv => whnf
            refine ob (Nat.le_refl 1) ?_
            conv => whnf
            refine ob (Nat.le_of_ble_eq_true rfl) ?_
            refine ob (Nat.le_of_ble_eq_true rfl) ?_
            conv => whnf
            refine ob (Nat.le_refl 1) ?_
            conv => whnf
            refine ob (Nat.le_of_ble_eq_true rfl) ?_
            refine ob (Nat.le_of_ble_eq_true rfl) ?_
            conv => whnf
            refine iv ((2 + 1 : Nat) : Int) (by decide) ?_
            conv => whnf
            refine ⟨W - (2 + 1), _, stG W (2 + 1), by omega, ⟨_, .refl _, .inr ⟨[0, 1, 11, 13, 4, 5, 6, 7, 8, 9], ⟨?_, ?_, rfl, rfl⟩⟩⟩, 2 + 1, by omega, rfl, rfl, rfl⟩
            · exact ⟨.refl _, rfl, .refl _, rfl, .refl _, rfl, .refl _, rfl, .refl _, rfl, .refl _, rfl, trivial⟩
            · exact ⟨rfl, rfl, rfl, rfl, rfl, rfl, rfl, rfl, ren_row _ _, in_row _ _, ren_row _ _, in_row _ _, ren_row _ _, in_row _ _, ren_row _ _, in_row _ _, (new_lo W 2 (by decide)).trans (ren_row _ _), in_row _ _, (new_hi W 2 (by decide)).trans (ren_row _ _), in_row _ _, trivial⟩
      · rw [show stG W 3 = [.var (.agg [.nils, .nils]), .var (.agg [.sl 2 0 3, .sl 3 0 3]), .row .leaf [.sl 4 0 W, .sl 6 0 W, .sl 8 0 W], .row .leaf [.sl 5 0 W, .sl 7 0 W, .sl 9 0 W], rowO (loFW W 0), rowO (hiFW W 0), rowO (loFW W 1), rowO (hiFW W 1), rowO (loFW W 2), rowO (hiFW W 2)] from rfl]
        conv => whnf
        refine ifb (fun c1 => ?_) (fun c1 => absurd (of_decide_eq_false c1) (by omega))
        conv => whnf
        refine drS 8 rfl ?_
        conv => whnf
        refine iv (W : Int) (by rw [w64 (by omega) (by omega)]; exact hWi) ?_
        conv => whnf
        refine ob ⟨by omega, rfl, by show ((W : Nat) : Int) ≤ 2147483648; omega⟩ ?_
        conv => whnf
        refine iv (W : Int) (by rw [w64 (by omega) (by omega)]; exact hWi) ?_
        conv => whnf
        refine ob ⟨by omega, rfl, by show ((W : Nat) : Int) ≤ 2147483648; omega⟩ ?_
        conv => whnf
        refine lp (fun k e H => ∃ d : Nat, d ≤ 3 ∧ k = 3 - d ∧ H = [.var (.agg [.nils, .nils]), .var (.agg [.sl 2 0 3, .sl 3 0 3]), .row .leaf [.sl 4 0 W, .sl 6 0 W, .sl 8 0 W], .row .leaf [.sl 5 0 W, .sl 7 0 W, .sl 9 0 W], rowO (loFW W 0), rowO (hiFW W 0), rowO (loFW W 1), rowO (hiFW W 1), rowO (loFW W 2), rowO (hiFW W 2), rowO (loW W d), rowO (hiW W 3 d)] ∧ e = [(11, .int .i64 (d + 1 : Nat)), (9, .sl 10 0 W), (10, .sl 11 0 W), (8, .int .i64 (3 : Nat)), (0, .int .i64 n), (1, knownsD fk K), (2, intsD fg G), (7, .ptr 1 []), (6, .ptr 0 [])]) ?_ ?_
        · refine ⟨4, 3, _, [.var (.agg [.nils, .nils]), .var (.agg [.sl 2 0 3, .sl 3 0 3]), .row .leaf [.sl 4 0 W, .sl 6 0 W, .sl 8 0 W], .row .leaf [.sl 5 0 W, .sl 7 0 W, .sl 9 0 W], rowO (loFW W 0), rowO (hiFW W 0), rowO (loFW W 1), rowO (hiFW W 1), rowO (loFW W 2), rowO (hiFW W 2), rowO (loW W 0), rowO (hiW W 3 0)], by omega, ⟨_, .refl _, .inl ⟨?_, ?_⟩⟩, 0, by omega, rfl, rfl, rfl⟩
          · rw [zlo, zhi]; rfl
          · exact se0 rfl (se0 rfl (se0 rfl (se0 rfl (se0 rfl (se0 rfl (se0 rfl (se0 rfl (se0 rfl trivial))))))))
        · rintro k e H ⟨d, hd, rfl, rfl, rfl⟩
          rcases Nat.lt_or_ge d 3 with hdm | hdm
          · conv => whnf
            refine ifb (fun c2 => ?_) (fun c2 => absurd (of_decide_eq_false c2) (by omega))
            conv => whnf
            refine ob ⟨by omega, by omega⟩ ?_
            conv => whnf
            refine ob (by show 0 + (d + 1) < ((loW W d).map (D.int .i64)).length; rw [loW, len_W]; omega) ?_
            conv => whnf
            refine iv 3 (show IntKind.u64.wrap 3 = 3 from by decide) ?_
            conv => whnf
            refine ob (by decide) ?_
            refine iv (2 ^ 3) (by decide) ?_
            conv => whnf
            refine ob ⟨by omega, by omega⟩ ?_
            conv => whnf
            refine ob (by show 0 + (d + 1) < ((hiW W 3 d).map (D.int .i64)).length; rw [hiW, len_W]; omega) ?_
            conv => whnf
            refine iv ((d + 1 + 1 : Nat) : Int) (by rw [w64 (by omega) (by omega)]; omega) ?_
            conv => whnf
            refine ⟨3 - (d + 1), _, [.var (.agg [.nils, .nils]), .var (.agg [.sl 2 0 3, .sl 3 0 3]), .row .leaf [.sl 4 0 W, .sl 6 0 W, .sl 8 0 W], .row .leaf [.sl 5 0 W, .sl 7 0 W, .sl 9 0 W], rowO (loFW W 0), rowO (hiFW W 0), rowO (loFW W 1), rowO (hiFW W 1), rowO (loFW W 2), rowO (hiFW W 2), rowO (loW W (d + 1)), rowO (hiW W 3 (d + 1))], by omega, ⟨_, .refl _, .inl ⟨?_, ?_⟩⟩, d + 1, by omega, rfl, rfl, rfl⟩
            · rw [slo W d (by omega), shi W 3 d (by omega)]; rfl
            · exact se0 rfl (se0 rfl (se0 rfl (se0 rfl (se0 rfl (se0 rfl (se0 rfl (se0 rfl (se0 rfl trivial))))))))
          · obtain rfl : d = 3 := by omega
            conv => whnf
            refine iv 3 (show IntKind.u64.wrap 3 = 3 from by decide) ?_
            conv => whnf
            refine ob (by decide) ?_
            refine iv (2 ^ 3) (by decide) ?_
            conv => whnf
            refine ob ⟨by decide, by omega⟩ ?_
            conv => whnf
            refine ob (by show 0 + 1 < ((loW W 3).map (D.int .i64)).length; rw [loW, len_W]; omega) ?_
            conv => whnf
            refine ob ⟨by omega, by omega⟩ ?_
            conv => whnf
            refine ob (by show 0 + 3 < ((hiW W 3 3).map (D.int .i64)).length; rw [hiW, len_W]; omega) ?_
            conv => whnf
            refine ob (Nat.le_refl 1) ?_
            conv => whnf
            refine ob (Nat.le_of_ble_eq_true rfl) ?_
            refine ob (Nat.le_of_ble_eq_true rfl) ?_
            conv => whnf
            refine ob (Nat.le_refl 1) ?_
            conv => whnf
            refine ob (Nat.le_of_ble_eq_true rfl) ?_
            refine ob (Nat.le_of_ble_eq_true rfl) ?_
            conv => whnf
            refine iv ((3 + 1 : Nat) : Int) (by decide) ?_
            conv => whnf
            refine ⟨W - (3 + 1), _, stG W (3 + 1), by omega, ⟨_, .refl _, .inr ⟨[0, 1, 13, 15, 4, 5, 6, 7, 8, 9, 10, 11], ⟨?_, ?_, rfl, rfl⟩⟩⟩, 3 + 1, by omega, rfl, rfl, rfl⟩
            · exact ⟨.refl _, rfl, .refl _, rfl, .refl _, rfl, .refl _, rfl, .refl _, rfl, .refl _, rfl, trivial⟩
            · exact ⟨rfl, rfl, rfl, rfl, rfl, rfl, rfl, rfl, ren_row _ _, in_row _ _, ren_row _ _, in_row _ _, ren_row _ _, in_row _ _, ren_row _ _, in_row _ _, ren_row _ _, in_row _ _, ren_row _ _, in_row _ _, (new_lo W 3 (by decide)).trans (ren_row _ _), in_row _ _, (new_hi W 3 (by decide)).trans (ren_row _ _), in_row _ _, trivial⟩
      · rw [show stG W 4 = [.var (.agg [.nils, .nils]), .var (.agg [.sl 2 0 4, .sl 3 0 4]), .row .leaf [.sl 4 0 W, .sl 6 0 W, .sl 8 0 W, .sl 10 0 W], .row .leaf [.sl 5 0 W, .sl 7 0 W, .sl 9 0 W, .sl 11 0 W], rowO (loFW W 0), rowO (hiFW W 0), rowO (loFW W 1), rowO (hiFW W 1), rowO (loFW W 2), rowO (hiFW W 2), rowO (loFW W 3), rowO (hiFW W 3)] from rfl]
        conv => whnf
        refine ifb (fun c1 => ?_) (fun c1 => absurd (of_decide_eq_false c1) (by omega))
        conv => whnf
        refine drS 8 rfl ?_
        conv => whnf
        refine iv (W : Int) (by rw [w64 (by omega) (by omega)]; exact hWi) ?_
        conv => whnf
        refine ob ⟨by omega, rfl, by show ((W : Nat) : Int) ≤ 2147483648; omega⟩ ?_
        conv => whnf
        refine iv (W : Int) (by rw [w64 (by omega) (by omega)]; exact hWi) ?_
        conv => whnf
        refine ob ⟨by omega, rfl, by show ((W : Nat) : Int) ≤ 2147483648; omega⟩ ?_
        conv => whnf
        refine lp (fun k e H => ∃ d : Nat, d ≤ 4 ∧ k = 4 - d ∧ H = [.var (.agg [.nils, .nils]), .var (.agg [.sl 2 0 4, .sl 3 0 4]), .row .leaf [.sl 4 0 W, .sl 6 0 W, .sl 8 0 W, .sl 10 0 W], .row .leaf [.sl 5 0 W, .sl 7 0 W, .sl 9 0 W, .sl 11 0 W], rowO (loFW W 0), rowO (hiFW W 0), rowO (loFW W 1), rowO (hiFW W 1), rowO (loFW W 2), rowO (hiFW W 2), rowO (loFW W 3), rowO (hiFW W 3), rowO (loW W d), rowO (hiW W 4 d)] ∧ e = [(11, .int .i64 (d + 1 : Nat)), (9, .sl 12 0 W), (10, .sl 13 0 W), (8, .int .i64 (4 : Nat)), (0, .int .i64 n), (1, knownsD fk K), (2, intsD fg G), (7, .ptr 1 []), (6, .ptr 0 [])]) ?_ ?_
        · refine ⟨5, 4, _, [.var (.agg [.nils, .nils]), .var (.agg [.sl 2 0 4, .sl 3 0 4]), .row .leaf [.sl 4 0 W, .sl 6 0 W, .sl 8 0 W, .sl 10 0 W], .row .leaf [.sl 5 0 W, .sl 7 0 W, .sl 9 0 W, .sl 11 0 W], rowO (loFW W 0), rowO (hiFW W 0), rowO (loFW W 1), rowO (hiFW W 1), rowO (loFW W 2), rowO (hiFW W 2), rowO (loFW W 3), rowO (hiFW W 3), rowO (loW W 0), rowO (hiW W 4 0)], by omega, ⟨_, .refl _, .inl ⟨?_, ?_⟩⟩, 0, by omega, rfl, rfl, rfl⟩
          · rw [zlo, zhi]; rfl
          · exact se0 rfl (se0 rfl (se0 rfl (se0 rfl (se0 rfl (se0 rfl (se0 rfl (se0 rfl (se0 rfl trivial))))))))
        · rintro k e H ⟨d, hd, rfl, rfl, rfl⟩
          rcases Nat.lt_or_ge d 4 with hdm | hdm
          · conv => whnf
            refine ifb (fun c2 => ?_) (fun c2 => absurd (of_decide_eq_false c2) (by omega))
            conv => whnf
            refine ob ⟨by omega, by omega⟩ ?_
            conv => whnf
            refine ob (by show 0 + (d + 1) < ((loW W d).map (D.int .i64)).length; rw [loW, len_W]; omega) ?_
            conv => whnf
            refine iv 4 (show IntKind.u64.wrap 4 = 4 from by decide) ?_
            conv => whnf
            refine ob (by decide) ?_
            refine iv (2 ^ 4) (by decide) ?_
            conv => whnf
            refine ob ⟨by omega, by omega⟩ ?_
            conv => whnf
            refine ob (by show 0 + (d + 1) < ((hiW W 4 d).map (D.int .i64)).length; rw [hiW, len_W]; omega) ?_
            conv => whnf
            refine iv ((d + 1 + 1 : Nat) : Int) (by rw [w64 (by omega) (by omega)]; omega) ?_
            conv => whnf
            refine ⟨4 - (d + 1), _, [.var (.agg [.nils, .nils]), .var (.agg [.sl 2 0 4, .sl 3 0 4]), .row .leaf [.sl 4 0 W, .sl 6 0 W, .sl 8 0 W, .sl 10 0 W], .row .leaf [.sl 5 0 W, .sl 7 0 W, .sl 9 0 W, .sl 11 0 W], rowO (loFW W 0), rowO (hiFW W 0), rowO (loFW W 1), rowO (hiFW W 1), rowO (loFW W 2), rowO (hiFW W 2), rowO (loFW W 3), rowO (hiFW W 3), rowO (loW W (d + 1)), rowO (hiW W 4 (d + 1))], by omega, ⟨_, .refl _, .inl ⟨?_, ?_⟩⟩, d + 1, by omega, rfl, rfl, rfl⟩
            · rw [slo W d (by omega), shi W 4 d (by omega)]; rfl
            · exact se0 rfl (se0 rfl (se0 rfl (se0 rfl (se0 rfl (se0 rfl (se0 rfl (se0 rfl (se0 rfl trivial))))))))
          · obtain rfl : d = 4 := by omega
            conv => whnf
            refine iv 4 (show IntKind.u64.wrap 4 = 4 from by decide) ?_
            conv => whnf
            refine ob (by decide) ?_
            refine iv (2 ^ 4) (by decide) ?_
            conv => whnf
            refine ob ⟨by decide, by omega⟩ ?_
            conv => whnf
            refine ob (by show 0 + 1 < ((loW W 4).map (D.int .i64)).length; rw [loW, len_W]; omega) ?_
            conv => whnf
            refine ob ⟨by omega, by omega⟩ ?_
            conv => whnf
            refine ob (by show 0 + 4 < ((hiW W 4 4).map (D.int .i64)).length; rw [hiW, len_W]; omega) ?_
            conv => whnf
            refine ob (Nat.le_refl 1) ?_
            conv => whnf
            refine ob (Nat.le_of_ble_eq_true rfl) ?_
            refine ob (Nat.le_of_ble_eq_true rfl) ?_
            conv => whnf
            refine ob (Nat.le_refl 1) ?_
            conv => whnf
            refine ob (Nat.le_of_ble_eq_true rfl) ?_
            refine ob (Nat.le_of_ble_eq_true rfl) ?_
            conv => whnf
            refine iv ((4 + 1 : Nat) : Int) (by decide) ?_
            conv => whnf
            refine ⟨W - (4 + 1), _, stG W (4 + 1), by omega, ⟨_, .refl _, .inr ⟨[0, 1, 15, 17, 4, 5, 6, 7, 8, 9, 10, 11, 12, 13], ⟨?_, ?_, rfl, rfl⟩⟩⟩, 4 + 1, by omega, rfl, rfl, rfl⟩
            · exact ⟨.refl _, rfl, .refl _, rfl, .refl _, rfl, .refl _, rfl, .refl _, rfl, .refl _, rfl, trivial⟩
            · exact ⟨rfl, rfl, rfl, rfl, rfl, rfl, rfl, rfl, ren_row _ _, in_row _ _, ren_row _ _, in_row _ _, ren_row _ _, in_row _ _, ren_row _ _, in_row _ _, ren_row _ _, in_row _ _, ren_row _ _, in_row _ _, ren_row _ _, in_row _ _, ren_row _ _, in_row _ _, (new_lo W 4 (by decide)).trans (ren_row _ _), in_row _ _, (new_hi W 4 (by decide)).trans (ren_row _ _), in_row _ _, trivial⟩
      · rw [show stG W 5 = [.var (.agg [.nils, .nils]), .var (.agg [.sl 2 0 5, .sl 3 0 5]), .row .leaf [.sl 4 0 W, .sl 6 0 W, .sl 8 0 W, .sl 10 0 W, .sl 12 0 W], .row .leaf [.sl 5 0 W, .sl 7 0 W, .sl 9 0 W, .sl 11 0 W, .sl 13 0 W], rowO (loFW W 0), rowO (hiFW W 0), rowO (loFW W 1), rowO (hiFW W 1), rowO (loFW W 2), rowO (hiFW W 2), rowO (loFW W 3), rowO (hiFW W 3), rowO (loFW W 4), rowO (hiFW W 4)] from rfl]
        conv => whnf
        refine ifb (fun c1 => ?_) (fun c1 => absurd (of_decide_eq_false c1) (by omega))
        conv => whnf
        refine drS 8 rfl ?_
        conv => whnf
        refine iv (W : Int) (by rw [w64 (by omega) (by omega)]; exact hWi) ?_
        conv => whnf
        refine ob ⟨by omega, rfl, by show ((W : Nat) : Int) ≤ 2147483648; omega⟩ ?_
        conv => whnf
        refine iv (W : Int) (by rw [w64 (by omega) (by omega)]; exact hWi) ?_
        conv => whnf
        refine ob ⟨by omega, rfl, by show ((W : Nat) : Int) ≤ 2147483648; omega⟩ ?_
        conv => whnf
        refine lp (fun k e H => ∃ d : Nat, d ≤ 5 ∧ k = 5 - d ∧ H = [.var (.agg [.nils, .nils]), .var (.agg [.sl 2 0 5, .sl 3 0 5]), .row .leaf [.sl 4 0 W, .sl 6 0 W, .sl 8 0 W, .sl 10 0 W, .sl 12 0 W], .row .leaf [.sl 5 0 W, .sl 7 0 W, .sl 9 0 W, .sl 11 0 W, .sl 13 0 W], rowO (loFW W 0), rowO (hiFW W 0), rowO (loFW W 1), rowO (hiFW W 1), rowO (loFW W 2), rowO (hiFW W 2), rowO (loFW W 3), rowO (hiFW W 3), rowO (loFW W 4), rowO (hiFW W 4), rowO (loW W d), rowO (hiW W 5 d)] ∧ e = [(11, .int .i64 (d + 1 : Nat)), (9, .sl 14 0 W), (10, .sl 15 0 W), (8, .int .i64 (5 : Nat)), (0, .int .i64 n), (1, knownsD fk K), (2, intsD fg G), (7, .ptr 1 []), (6, .ptr 0 [])]) ?_ ?_
        · refine ⟨6, 5, _, [.var (.agg [.nils, .nils]), .var (.agg [.sl 2 0 5, .sl 3 0 5]), .row .leaf [.sl 4 0 W, .sl 6 0 W, .sl 8 0 W, .sl 10 0 W, .sl 12 0 W], .row .leaf [.sl 5 0 W, .sl 7 0 W, .sl 9 0 W, .sl 11 0 W, .sl 13 0 W], rowO (loFW W 0), rowO (hiFW W 0), rowO (loFW W 1), rowO (hiFW W 1), rowO (loFW W 2), rowO (hiFW W 2), rowO (loFW W 3), rowO (hiFW W 3), rowO (loFW W 4), rowO (hiFW W 4), rowO (loW W 0), rowO (hiW W 5 0)], by omega, ⟨_, .refl _, .inl ⟨?_, ?_⟩⟩, 0, by omega, rfl, rfl, rfl⟩
          · rw [zlo, zhi]; rfl
          · exact se0 rfl (se0 rfl (se0 rfl (se0 rfl (se0 rfl (se0 rfl (se0 rfl (se0 rfl (se0 rfl trivial))))))))
        · rintro k e H ⟨d, hd, rfl, rfl, rfl⟩
          rcases Nat.lt_or_ge d 5 with hdm | hdm
          · conv => whnf
            refine ifb (fun c2 => ?_) (fun c2 => absurd (of_decide_eq_false c2) (by omega))
            conv => whnf
            refine ob ⟨by omega, by omega⟩ ?_
            conv => whnf
            refine ob (by show 0 + (d + 1) < ((loW W d).map (D.int .i64)).length; rw [loW, len_W]; omega) ?_
            conv => whnf
            refine iv 5 (show IntKind.u64.wrap 5 = 5 from by decide) ?_
            conv => whnf
            refine ob (by decide) ?_
            refine iv (2 ^ 5) (by decide) ?_
            conv => whnf
            refine ob ⟨by omega, by omega⟩ ?_
            conv => whnf
            refine ob (by show 0 + (d + 1) < ((hiW W 5 d).map (D.int .i64)).length; rw [hiW, len_W]; omega) ?_
            conv => whnf
            refine iv ((d + 1 + 1 : Nat) : Int) (by rw [w64 (by omega) (by omega)]; omega) ?_
            conv => whnf
            refine ⟨5 - (d + 1), _, [.var (.agg [.nils, .nils]), .var (.agg [.sl 2 0 5, .sl 3 0 5]), .row .leaf [.sl 4 0 W, .sl 6 0 W, .sl 8 0 W, .sl 10 0 W, .sl 12 0 W], .row .leaf [.sl 5 0 W, .sl 7 0 W, .sl 9 0 W, .sl 11 0 W, .sl 13 0 W], rowO (loFW W 0), rowO (hiFW W 0), rowO (loFW W 1), rowO (hiFW W 1), rowO (loFW W 2), rowO (hiFW W 2), rowO (loFW W 3), rowO (hiFW W 3), rowO (loFW W 4), rowO (hiFW W 4), rowO (loW W (d + 1)), rowO (hiW W 5 (d + 1))], by omega, ⟨_, .refl _, .inl ⟨?_, ?_⟩⟩, d + 1, by omega, rfl, rfl, rfl⟩
            · rw [slo W d (by omega), shi W 5 d (by omega)]; rfl
            · exact se0 rfl (se0 rfl (se0 rfl (se0 rfl (se0 rfl (se0 rfl (se0 rfl (se0 rfl (se0 rfl trivial))))))))
          · obtain rfl : d = 5 := by omega
            conv => whnf
            refine iv 5 (show IntKind.u64.wrap 5 = 5 from by decide) ?_
            conv => whnf
            refine ob (by decide) ?_
            refine iv (2 ^ 5) (by decide) ?_
            conv => whnf
            refine ob ⟨by decide, by omega⟩ ?_
            conv => whnf
            refine ob (by show 0 + 1 < ((loW W 5).map (D.int .i64)).length; rw [loW, len_W]; omega) ?_
            conv => whnf
            refine ob ⟨by omega, by omega⟩ ?_
            conv => whnf
            refine ob (by show 0 + 5 < ((hiW W 5 5).map (D.int .i64)).length; rw [hiW, len_W]; omega) ?_
            conv => whnf
            refine ob (Nat.le_refl 1) ?_
            conv => whnf
            refine ob (Nat.le_of_ble_eq_true rfl) ?_
            refine ob (Nat.le_of_ble_eq_true rfl) ?_
            conv => whnf
            refine ob (Nat.le_refl 1) ?_
            conv => whnf
            refine ob (Nat.le_of_ble_eq_true rfl) ?_
            refine ob (Nat.le_of_ble_eq_true rfl) ?_
            conv => whnf
            refine iv ((5 + 1 : Nat) : Int) (by decide) ?_
            conv => whnf
            refine ⟨W - (5 + 1), _, stG W (5 + 1), by omega, ⟨_, .refl _, .inr ⟨[0, 1, 17, 19, 4, 5, 6, 7, 8, 9, 10, 11, 12, 13, 14, 15], ⟨?_, ?_, rfl, rfl⟩⟩⟩, 5 + 1, by omega, rfl, rfl, rfl⟩
            · exact ⟨.refl _, rfl, .refl _, rfl, .refl _, rfl, .refl _, rfl, .refl _, rfl, .refl _, rfl, trivial⟩
            · exact ⟨rfl, rfl, rfl, rfl, rfl, rfl, rfl, rfl, ren_row _ _, in_row _ _, ren_row _ _, in_row _ _, ren_row _ _, in_row _ _, ren_row _ _, in_row _ _, ren_row _ _, in_row _ _, ren_row _ _, in_row _ _, ren_row _ _, in_row _ _, ren_row _ _, in_row _ _, ren_row _ _, in_row _ _, ren_row _ _, in_row _ _, (new_lo W 5 (by decide)).trans (ren_row _ _), in_row _ _, (new_hi W 5 (by decide)).trans (ren_row _ _), in_row _ _, trivial⟩
      · rw [show stG W 6 = [.var (.agg [.nils, .nils]), .var (.agg [.sl 2 0 6, .sl 3 0 6]), .row .leaf [.sl 4 0 W, .sl 6 0 W, .sl 8 0 W, .sl 10 0 W, .sl 12 0 W, .sl 14 0 W], .row .leaf [.sl 5 0 W, .sl 7 0 W, .sl 9 0 W, .sl 11 0 W, .sl 13 0 W, .sl 15 0 W], rowO (loFW W 0), rowO (hiFW W 0), rowO (loFW W 1), rowO (hiFW W 1), rowO (loFW W 2), rowO (hiFW W 2), rowO (loFW W 3), rowO (hiFW W 3), rowO (loFW W 4), rowO (hiFW W 4), rowO (loFW W 5), rowO (hiFW W 5)] from rfl]
        conv => whnf
        refine ifb (fun c1 => ?_) (fun c1 => absurd (of_decide_eq_false c1) (by omega))
        conv => whnf
        refine drS 8 rfl ?_
        conv => whnf
        refine iv (W : Int) (by rw [w64 (by omega) (by omega)]; exact hWi) ?_
        conv => whnf
        refine ob ⟨by omega, rfl, by show ((W : Nat) : Int) ≤ 2147483648; omega⟩ ?_
        conv => whnf
        refine iv (W : Int) (by rw [w64 (by omega) (by omega)]; exact hWi) ?_
        conv => whnf
        refine ob ⟨by omega, rfl, by show ((W : Nat) : Int) ≤ 2147483648; omega⟩ ?_
        conv => whnf
        refine lp (fun k e H => ∃ d : Nat, d ≤ 6 ∧ k = 6 - d ∧ H = [.var (.agg [.nils, .nils]), .var (.agg [.sl 2 0 6, .sl 3 0 6]), .row .leaf [.sl 4 0 W, .sl 6 0 W, .sl 8 0 W, .sl 10 0 W, .sl 12 0 W, .sl 14 0 W], .row .leaf [.sl 5 0 W, .sl 7 0 W, .sl 9 0 W, .sl 11 0 W, .sl 13 0 W, .sl 15 0 W], rowO (loFW W 0), rowO (hiFW W 0), rowO (loFW W 1), rowO (hiFW W 1), rowO (loFW W 2), rowO (hiFW W 2), rowO (loFW W 3), rowO (hiFW W 3), rowO (loFW W 4), rowO (hiFW W 4), rowO (loFW W 5), rowO (hiFW W 5), rowO (loW W d), rowO (hiW W 6 d)] ∧ e = [(11, .int .i64 (d + 1 : Nat)), (9, .sl 16 0 W), (10, .sl 17 0 W), (8, .int .i64 (6 : Nat)), (0, .int .i64 n), (1, knownsD fk K), (2, intsD fg G), (7, .ptr 1 []), (6, .ptr 0 [])]) ?_ ?_
        · refine ⟨7, 6, _, [.var (.agg [.nils, .nils]), .var (.agg [.sl 2 0 6, .sl 3 0 6]), .row .leaf [.sl 4 0 W, .sl 6 0 W, .sl 8 0 W, .sl 10 0 W, .sl 12 0 W, .sl 14 0 W], .row .leaf [.sl 5 0 W, .sl 7 0 W, .sl 9 0 W, .sl 11 0 W, .sl 13 0 W, .sl 15 0 W], rowO (loFW W 0), rowO (hiFW W 0), rowO (loFW W 1), rowO (hiFW W 1), rowO (loFW W 2), rowO (hiFW W 2), rowO (loFW W 3), rowO (hiFW W 3), rowO (loFW W 4), rowO (hiFW W 4), rowO (loFW W 5), rowO (hiFW W 5), rowO (loW W 0), rowO (hiW W 6 0)], by omega, ⟨_, .refl _, .inl ⟨?_, ?_⟩⟩, 0, by omega, rfl, rfl, rfl⟩
          · rw [zlo, zhi]; rfl
          · exact se0 rfl (se0 rfl (se0 rfl (se0 rfl (se0 rfl (se0 rfl (se0 rfl (se0 rfl (se0 rfl trivial))))))))
        · rintro k e H ⟨d, hd, rfl, rfl, rfl⟩
          rcases Nat.lt_or_ge d 6 with hdm | hdm
          · conv => whnf
            refine ifb (fun c2 => ?_) (fun c2 => absurd (of_decide_eq_false c2) (by omega))
            conv => whnf
            refine ob ⟨by omega, by omega⟩ ?_
            conv => whnf
            refine ob (by show 0 + (d + 1) < ((loW W d).map (D.int .i64)).length; rw [loW, len_W]; omega) ?_
            conv => whnf
            refine iv 6 (show IntKind.u64.wrap 6 = 6 from by decide) ?_
            conv => whnf
            refine ob (by decide) ?_
            refine iv (2 ^ 6) (by decide) ?_
            conv => whnf
            refine ob ⟨by omega, by omega⟩ ?_
            conv => whnf
            refine ob (by show 0 + (d + 1) < ((hiW W 6 d).map (D.int .i64)).length; rw [hiW, len_W]; omega) ?_
            conv => whnf
            refine iv ((d + 1 + 1 : Nat) : Int) (by rw [w64 (by omega) (by omega)]; omega) ?_
            conv => whnf
            refine ⟨6 - (d + 1), _, [.var (.agg [.nils, .nils]), .var (.agg [.sl 2 0 6, .sl 3 0 6]), .row .leaf [.sl 4 0 W, .sl 6 0 W, .sl 8 0 W, .sl 10 0 W, .sl 12 0 W, .sl 14 0 W], .row .leaf [.sl 5 0 W, .sl 7 0 W, .sl 9 0 W, .sl 11 0 W, .sl 13 0 W, .sl 15 0 W], rowO (loFW W 0), rowO (hiFW W 0), rowO (loFW W 1), rowO (hiFW W 1), rowO (loFW W 2), rowO (hiFW W 2), rowO (loFW W 3), rowO (hiFW W 3), rowO (loFW W 4), rowO (hiFW W 4), rowO (loFW W 5), rowO (hiFW W 5), rowO (loW W (d + 1)), rowO (hiW W 6 (d + 1))], by omega, ⟨_, .refl _, .inl ⟨?_, ?_⟩⟩, d + 1, by omega, rfl, rfl, rfl⟩
            · rw [slo W d (by omega), shi W 6 d (by omega)]; rfl
            · exact se0 rfl (se0 rfl (se0 rfl (se0 rfl (se0 rfl (se0 rfl (se0 rfl (se0 rfl (se0 rfl trivial))))))))
          · obtain rfl : d = 6 := by omega
            conv => whnf
            refine iv 6 (show IntKind.u64.wrap 6 = 6 from by decide) ?_
            conv => whnf
            refine ob (by decide) ?_
            refine iv (2 ^ 6) (by decide) ?_
            conv => whnf
            refine ob ⟨by decide, by omega⟩ ?_
            conv => whnf
            refine ob (by show 0 + 1 < ((loW W 6).map (D.int .i64)).length; rw [loW, len_W]; omega) ?_
            conv => whnf
            refine ob ⟨by omega, by omega⟩ ?_
            conv => whnf
            refine ob (by show 0 + 6 < ((hiW W 6 6).map (D.int .i64)).length; rw [hiW, len_W]; omega) ?_
            conv => whnf
            refine ob (Nat.le_refl 1) ?_
            conv => whnf
            refine ob (Nat.le_of_ble_eq_true rfl) ?_
            refine ob (Nat.le_of_ble_eq_true rfl) ?_
            conv => whnf
            refine ob (Nat.le_refl 1) ?_
            conv => whnf
            refine ob (Nat.le_of_ble_eq_true rfl) ?_
            refine ob (Nat.le_of_ble_eq_true rfl) ?_
            conv => whnf
            refine iv ((6 + 1 : Nat) : Int) (by decide) ?_
            conv => whnf
            refine ⟨W - (6 + 1), _, stG W (6 + 1), by omega, ⟨_, .refl _, .inr ⟨[0, 1, 19, 21, 4, 5, 6, 7, 8, 9, 10, 11, 12, 13, 14, 15, 16, 17], ⟨?_, ?_, rfl, rfl⟩⟩⟩, 6 + 1, by omega, rfl, rfl, rfl⟩
            · exact ⟨.refl _, rfl, .refl _, rfl, .refl _, rfl, .refl _, rfl, .refl _, rfl, .refl _, rfl, trivial⟩
            · exact ⟨rfl, rfl, rfl, rfl, rfl, rfl, rfl, rfl, ren_row _ _, in_row _ _, ren_row _ _, in_row _ _, ren_row _ _, in_row _ _, ren_row _ _, in_row _ _, ren_row _ _, in_row _ _, ren_row _ _, in_row _ _, ren_row _ _, in_row _ _, ren_row _ _, in_row _ _, ren_row _ _, in_row _ _, ren_row _ _, in_row _ _, ren_row _ _, in_row _ _, ren_row _ _, in_row _ _, (new_lo W 6 (by decide)).trans (ren_row _ _), in_row _ _, (new_hi W 6 (by decide)).trans (ren_row _ _), in_row _ _, trivial⟩
      · rw [show stG W 7 = [.var (.agg [.nils, .nils]), .var (.agg [.sl 2 0 7, .sl 3 0 7]), .row .leaf [.sl 4 0 W, .sl 6 0 W, .sl 8 0 W, .sl 10 0 W, .sl 12 0 W, .sl 14 0 W, .sl 16 0 W], .row .leaf [.sl 5 0 W, .sl 7 0 W, .sl 9 0 W, .sl 11 0 W, .sl 13 0 W, .sl 15 0 W, .sl 17 0 W], rowO (loFW W 0), rowO (hiFW W 0), rowO (loFW W 1), rowO (hiFW W 1), rowO (loFW W 2), rowO (hiFW W 2), rowO (loFW W 3), rowO (hiFW W 3), rowO (loFW W 4), rowO (hiFW W 4), rowO (loFW W 5), rowO (hiFW W 5), rowO (loFW W 6), rowO (hiFW W 6)] from rfl]
        conv => whnf
        refine ifb (fun c1 => ?_) (fun c1 => absurd (of_decide_eq_false c1) (by omega))
        conv => whnf
        refine drS 8 rfl ?_
        conv => whnf
        refine iv (W : Int) (by rw [w64 (by omega) (by omega)]; exact hWi) ?_
        conv => whnf
        refine ob ⟨by omega, rfl, by show ((W : Nat) : Int) ≤ 2147483648; omega⟩ ?_
        conv => whnf
        refine iv (W : Int) (by rw [w64 (by omega) (by omega)]; exact hWi) ?_
        conv => whnf
        refine ob ⟨by omega, rfl, by show ((W : Nat) : Int) ≤ 2147483648; omega⟩ ?_
        conv => whnf
        refine lp (fun k e H => ∃ d : Nat, d ≤ 7 ∧ k = 7 - d ∧ H = [.var (.agg [.nils, .nils]), .var (.agg [.sl 2 0 7, .sl 3 0 7]), .row .leaf [.sl 4 0 W, .sl 6 0 W, .sl 8 0 W, .sl 10 0 W, .sl 12 0 W, .sl 14 0 W, .sl 16 0 W], .row .leaf [.sl 5 0 W, .sl 7 0 W, .sl 9 0 W, .sl 11 0 W, .sl 13 0 W, .sl 15 0 W, .sl 17 0 W], rowO (loFW W 0), rowO (hiFW W 0), rowO (loFW W 1), rowO (hiFW W 1), rowO (loFW W 2), rowO (hiFW W 2), rowO (loFW W 3), rowO (hiFW W 3), rowO (loFW W 4), rowO (hiFW W 4), rowO (loFW W 5), rowO (hiFW W 5), rowO (loFW W 6), rowO (hiFW W 6), rowO (loW W d), rowO (hiW W 7 d)] ∧ e = [(11, .int .i64 (d + 1 : Nat)), (9, .sl 18 0 W), (10, .sl 19 0 W), (8, .int .i64 (7 : Nat)), (0, .int .i64 n), (1, knownsD fk K), (2, intsD fg G), (7, .ptr 1 []), (6, .ptr 0 [])]) ?_ ?_
        · refine ⟨8, 7, _, [.var (.agg [.nils, .nils]), .var (.agg [.sl 2 0 7, .sl 3 0 7]), .row .leaf [.sl 4 0 W, .sl 6 0 W, .sl 8 0 W, .sl 10 0 W, .sl 12 0 W, .sl 14 0 W, .sl 16 0 W], .row .leaf [.sl 5 0 W, .sl 7 0 W, .sl 9 0 W, .sl 11 0 W, .sl 13 0 W, .sl 15 0 W, .sl 17 0 W], rowO (loFW W 0), rowO (hiFW W 0), rowO (loFW W 1), rowO (hiFW W 1), rowO (loFW W 2), rowO (hiFW W 2), rowO (loFW W 3), rowO (hiFW W 3), rowO (loFW W 4), rowO (hiFW W 4), rowO (loFW W 5), rowO (hiFW W 5), rowO (loFW W 6), rowO (hiFW W 6), rowO (loW W 0), rowO (hiW W 7 0)], by omega, ⟨_, .refl _, .inl ⟨?_, ?_⟩⟩, 0, by omega, rfl, rfl, rfl⟩
          · rw [zlo, zhi]; rfl
          · exact se0 rfl (se0 rfl (se0 rfl (se0 rfl (se0 rfl (se0 rfl (se0 rfl (se0 rfl (se0 rfl trivial))))))))
        · rintro k e H ⟨d, hd, rfl, rfl, rfl⟩
          rcases Nat.lt_or_ge d 7 with hdm | hdm
          · conv => whnf
            refine ifb (fun c2 => ?_) (fun c2 => absurd (of_decide_eq_false c2) (by omega))
            conv => whnf
            refine ob ⟨by omega, by omega⟩ ?_
            conv => whnf
            refine ob (by show 0 + (d + 1) < ((loW W d).map (D.int .i64)).length; rw [loW, len_W]; omega) ?_
            conv => whnf
            refine iv 7 (show IntKind.u64.wrap 7 = 7 from by decide) ?_
            conv => whnf
            refine ob (by decide) ?_
            refine iv (2 ^ 7) (by decide) ?_
            conv => whnf
            refine ob ⟨by omega, by omega⟩ ?_
            conv => whnf
            refine ob (by show 0 + (d + 1) < ((hiW W 7 d).map (D.int .i64)).length; rw [hiW, len_W]; omega) ?_
            conv => whnf
            refine iv ((d + 1 + 1 : Nat) : Int) (by rw [w64 (by omega) (by omega)]; omega) ?_
            conv => whnf
            refine ⟨7 - (d + 1), _, [.var (.agg [.nils, .nils]), .var (.agg [.sl 2 0 7, .sl 3 0 7]), .row .leaf [.sl 4 0 W, .sl 6 0 W, .sl 8 0 W, .sl 10 0 W, .sl 12 0 W, .sl 14 0 W, .sl 16 0 W], .row .leaf [.sl 5 0 W, .sl 7 0 W, .sl 9 0 W, .sl 11 0 W, .sl 13 0 W, .sl 15 0 W, .sl 17 0 W], rowO (loFW W 0), rowO (hiFW W 0), rowO (loFW W 1), rowO (hiFW W 1), rowO (loFW W 2), rowO (hiFW W 2), rowO (loFW W 3), rowO (hiFW W 3), rowO (loFW W 4), rowO (hiFW W 4), rowO (loFW W 5), rowO (hiFW W 5), rowO (loFW W 6), rowO (hiFW W 6), rowO (loW W (d + 1)), rowO (hiW W 7 (d + 1))], by omega, ⟨_, .refl _, .inl ⟨?_, ?_⟩⟩, d + 1, by omega, rfl, rfl, rfl⟩
            · rw [slo W d (by omega), shi W 7 d (by omega)]; rfl
            · exact se0 rfl (se0 rfl (se0 rfl (se0 rfl (se0 rfl (se0 rfl (se0 rfl (se0 rfl (se0 rfl trivial))))))))
          · obtain rfl : d = 7 := by omega
            conv => whnf
            refine iv 7 (show IntKind.u64.wrap 7 = 7 from by decide) ?_
            conv => whnf
            refine ob (by decide) ?_
            refine iv (2 ^ 7) (by decide) ?_
            conv => whnf
            refine ob ⟨by decide, by omega⟩ ?_
            conv => whnf
            refine ob (by show 0 + 1 < ((loW W 7).map (D.int .i64)).length; rw [loW, len_W]; omega) ?_
            conv => whnf
            refine ob ⟨by omega, by omega⟩ ?_
            conv => whnf
            refine ob (by show 0 + 7 < ((hiW W 7 7).map (D.int .i64)).length; rw [hiW, len_W]; omega) ?_
            conv => whnf
            refine ob (Nat.le_refl 1) ?_
            conv => whnf
            refine ob (Nat.le_of_ble_eq_true rfl) ?_
            refine ob (Nat.le_of_ble_eq_true rfl) ?_
            conv => whnf
            refine ob (Nat.le_refl 1) ?_
            conv => whnf
            refine ob (Nat.le_of_ble_eq_true rfl) ?_
            refine ob (Nat.le_of_ble_eq_true rfl) ?_
            conv => whnf
            refine iv ((7 + 1 : Nat) : Int) (by decide) ?_
            conv => whnf
            refine ⟨W - (7 + 1), _, stG W (7 + 1), by omega, ⟨_, .refl _, .inr ⟨[0, 1, 21, 23, 4, 5, 6, 7, 8, 9, 10, 11, 12, 13, 14, 15, 16, 17, 18, 19], ⟨?_, ?_, rfl, rfl⟩⟩⟩, 7 + 1, by omega, rfl, rfl, rfl⟩
            · exact ⟨.refl _, rfl, .refl _, rfl, .refl _, rfl, .refl _, rfl, .refl _, rfl, .refl _, rfl, trivial⟩
            · exact ⟨rfl, rfl, rfl, rfl, rfl, rfl, rfl, rfl, ren_row _ _, in_row _ _, ren_row _ _, in_row _ _, ren_row _ _, in_row _ _, ren_row _ _, in_row _ _, ren_row _ _, in_row _ _, ren_row _ _, in_row _ _, ren_row _ _, in_row _ _, ren_row _ _, in_row _ _, ren_row _ _, in_row _ _, ren_row _ _, in_row _ _, ren_row _ _, in_row _ _, ren_row _ _, in_row _ _, ren_row _ _, in_row _ _, ren_row _ _, in_row _ _, (new_lo W 7 (by decide)).trans (ren_row _ _), in_row _ _, (new_hi W 7 (by decide)).trans (ren_row _ _), in_row _ _, trivial⟩
      · rw [show stG W 8 = [.var (.agg [.nils, .nils]), .var (.agg [.sl 2 0 8, .sl 3 0 8]), .row .leaf [.sl 4 0 W, .sl 6 0 W, .sl 8 0 W, .sl 10 0 W, .sl 12 0 W, .sl 14 0 W, .sl 16 0 W, .sl 18 0 W], .row .leaf [.sl 5 0 W, .sl 7 0 W, .sl 9 0 W, .sl 11 0 W, .sl 13 0 W, .sl 15 0 W, .sl 17 0 W, .sl 19 0 W], rowO (loFW W 0), rowO (hiFW W 0), rowO (loFW W 1), rowO (hiFW W 1), rowO (loFW W 2), rowO (hiFW W 2), rowO (loFW W 3), rowO (hiFW W 3), rowO (loFW W 4), rowO (hiFW W 4), rowO (loFW W 5), rowO (hiFW W 5), rowO (loFW W 6), rowO (hiFW W 6), rowO (loFW W 7), rowO (hiFW W 7)] from rfl]
        conv => whnf
        refine ifb (fun c1 => ?_) (fun c1 => absurd (of_decide_eq_false c1) (by omega))
        conv => whnf
        refine drS 8 rfl ?_
        conv => whnf
        refine iv (W : Int) (by rw [w64 (by omega) (by omega)]; exact hWi) ?_
        conv => whnf
        refine ob ⟨by omega, rfl, by show ((W : Nat) : Int) ≤ 2147483648; omega⟩ ?_
        conv => whnf
        refine iv (W : Int) (by rw [w64 (by omega) (by omega)]; exact hWi) ?_
        conv => whnf
        refine ob ⟨by omega, rfl, by show ((W : Nat) : Int) ≤ 2147483648; omega⟩ ?_
        conv => whnf
        refine lp (fun k e H => ∃ d : Nat, d ≤ 8 ∧ k = 8 - d ∧ H = [.var (.agg [.nils, .nils]), .var (.agg [.sl 2 0 8, .sl 3 0 8]), .row .leaf [.sl 4 0 W, .sl 6 0 W, .sl 8 0 W, .sl 10 0 W, .sl 12 0 W, .sl 14 0 W, .sl 16 0 W, .sl 18 0 W], .row .leaf [.sl 5 0 W, .sl 7 0 W, .sl 9 0 W, .sl 11 0 W, .sl 13 0 W, .sl 15 0 W, .sl 17 0 W, .sl 19 0 W], rowO (loFW W 0), rowO (hiFW W 0), rowO (loFW W 1), rowO (hiFW W 1), rowO (loFW W 2), rowO (hiFW W 2), rowO (loFW W 3), rowO (hiFW W 3), rowO (loFW W 4), rowO (hiFW W 4), rowO (loFW W 5), rowO (hiFW W 5), rowO (loFW W 6), rowO (hiFW W 6), rowO (loFW W 7), rowO (hiFW W 7), rowO (loW W d), rowO (hiW W 8 d)] ∧ e = [(11, .int .i64 (d + 1 : Nat)), (9, .sl 20 0 W), (10, .sl 21 0 W), (8, .int .i64 (8 : Nat)), (0, .int .i64 n), (1, knownsD fk K), (2, intsD fg G), (7, .ptr 1 []), (6, .ptr 0 [])]) ?_ ?_
        · refine ⟨9, 8, _, [.var (.agg [.nils, .nils]), .var (.agg [.sl 2 0 8, .sl 3 0 8]), .row .leaf [.sl 4 0 W, .sl 6 0 W, .sl 8 0 W, .sl 10 0 W, .sl 12 0 W, .sl 14 0 W, .sl 16 0 W, .sl 18 0 W], .row .leaf [.sl 5 0 W, .sl 7 0 W, .sl 9 0 W, .sl 11 0 W, .sl 13 0 W, .sl 15 0 W, .sl 17 0 W, .sl 19 0 W], rowO (loFW W 0), rowO (hiFW W 0), rowO (loFW W 1), rowO (hiFW W 1), rowO (loFW W 2), rowO (hiFW W 2), rowO (loFW W 3), rowO (hiFW W 3), rowO (loFW W 4), rowO (hiFW W 4), rowO (loFW W 5), rowO (hiFW W 5), rowO (loFW W 6), rowO (hiFW W 6), rowO (loFW W 7), rowO (hiFW W 7), rowO (loW W 0), rowO (hiW W 8 0)], by omega, ⟨_, .refl _, .inl ⟨?_, ?_⟩⟩, 0, by omega, rfl, rfl, rfl⟩
          · rw [zlo, zhi]; rfl
          · exact se0 rfl (se0 rfl (se0 rfl (se0 rfl (se0 rfl (se0 rfl (se0 rfl (se0 rfl (se0 rfl trivial))))))))
        · rintro k e H ⟨d, hd, rfl, rfl, rfl⟩
          rcases Nat.lt_or_ge d 8 with hdm | hdm
          · conv => whnf
            refine ifb (fun c2 => ?_) (fun c2 => absurd (of_decide_eq_false c2) (by omega))
            conv => whnf
            refine ob ⟨by omega, by omega⟩ ?_
            conv => whnf
            refine ob (by show 0 + (d + 1) < ((loW W d).map (D.int .i64)).length; rw [loW, len_W]; omega) ?_
            conv => whnf
            refine iv 8 (show IntKind.u64.wrap 8 = 8 from by decide) ?_
            conv => whnf
            refine ob (by decide) ?_
            refine iv (2 ^ 8) (by decide) ?_
            conv => whnf
            refine ob ⟨by omega, by omega⟩ ?_
            conv => whnf
            refine ob (by show 0 + (d + 1) < ((hiW W 8 d).map (D.int .i64)).length; rw [hiW, len_W]; omega) ?_
            conv => whnf
            refine iv ((d + 1 + 1 : Nat) : Int) (by rw [w64 (by omega) (by omega)]; omega) ?_
            conv => whnf
            refine ⟨8 - (d + 1), _, [.var (.agg [.nils, .nils]), .var (.agg [.sl 2 0 8, .sl 3 0 8]), .row .leaf [.sl 4 0 W, .sl 6 0 W, .sl 8 0 W, .sl 10 0 W, .sl 12 0 W, .sl 14 0 W, .sl 16 0 W, .sl 18 0 W], .row .leaf [.sl 5 0 W, .sl 7 0 W, .sl 9 0 W, .sl 11 0 W, .sl 13 0 W, .sl 15 0 W, .sl 17 0 W, .sl 19 0 W], rowO (loFW W 0), rowO (hiFW W 0), rowO (loFW W 1), rowO (hiFW W 1), rowO (loFW W 2), rowO (hiFW W 2), rowO (loFW W 3), rowO (hiFW W 3), rowO (loFW W 4), rowO (hiFW W 4), rowO (loFW W 5), rowO (hiFW W 5), rowO (loFW W 6), rowO (hiFW W 6), rowO (loFW W 7), rowO (hiFW W 7), rowO (loW W (d + 1)), rowO (hiW W 8 (d + 1))], by omega, ⟨_, .refl _, .inl ⟨?_, ?_⟩⟩, d + 1, by omega, rfl, rfl, rfl⟩
            · rw [slo W d (by omega), shi W 8 d (by omega)]; rfl
            · exact se0 rfl (se0 rfl (se0 rfl (se0 rfl (se0 rfl (se0 rfl (se0 rfl (se0 rfl (se0 rfl trivial))))))))
          · obtain rfl : d = 8 := by omega
            conv => whnf
            refine iv 8 (show IntKind.u64.wrap 8 = 8 from by decide) ?_
            conv => whnf
            refine ob (by decide) ?_
            refine iv (2 ^ 8) (by decide) ?_
            conv => whnf
            refine ob ⟨by decide, by omega⟩ ?_
            conv => whnf
            refine ob (by show 0 + 1 < ((loW W 8).map (D.int .i64)).length; rw [loW, len_W]; omega) ?_
            conv => whnf
            refine ob ⟨by omega, by omega⟩ ?_
            conv => whnf
            refine ob (by show 0 + 8 < ((hiW W 8 8).map (D.int .i64)).length; rw [hiW, len_W]; omega) ?_
            conv => whnf
            refine ob (Nat.le_refl 1) ?_
            conv => whnf
            refine ob (Nat.le_of_ble_eq_true rfl) ?_
            refine ob (Nat.le_of_ble_eq_true rfl) ?_
            conv => whnf
            refine ob (Nat.le_refl 1) ?_
            conv => whnf
            refine ob (Nat.le_of_ble_eq_true rfl) ?_
            refine ob (Nat.le_of_ble_eq_true rfl) ?_
            conv => whnf
            refine iv ((8 + 1 : Nat) : Int) (by decide) ?_
            conv => whnf
            refine ⟨W - (8 + 1), _, stG W (8 + 1), by omega, ⟨_, .refl _, .inr ⟨[0, 1, 23, 25, 4, 5, 6, 7, 8, 9, 10, 11, 12, 13, 14, 15, 16, 17, 18, 19, 20, 21], ⟨?_, ?_, rfl, rfl⟩⟩⟩, 8 + 1, by omega, rfl, rfl, rfl⟩
            · exact ⟨.refl _, rfl, .refl _, rfl, .refl _, rfl, .refl _, rfl, .refl _, rfl, .refl _, rfl, trivial⟩
            · exact ⟨rfl, rfl, rfl, rfl, rfl, rfl, rfl, rfl, ren_row _ _, in_row _ _, ren_row _ _, in_row _ _, ren_row _ _, in_row _ _, ren_row _ _, in_row _ _, ren_row _ _, in_row _ _, ren_row _ _, in_row _ _, ren_row _ _, in_row _ _, ren_row _ _, in_row _ _, ren_row _ _, in_row _ _, ren_row _ _, in_row _ _, ren_row _ _, in_row _ _, ren_row _ _, in_row _ _, ren_row _ _, in_row _ _, ren_row _ _, in_row _ _, ren_row _ _, in_row _ _, ren_row _ _, in_row _ _, (new_lo W 8 (by decide)).trans (ren_row _ _), in_row _ _, (new_hi W 8 (by decide)).trans (ren_row _ _), in_row _ _, trivial⟩
    · have hK60 : K.length ≤ 60 := by
        unfold rightK at hR
        simp only [Bool.and_eq_true, decide_eq_true_eq] at hR
        exact hR.1
      have hmW2 : W = m := by omega
      subst hmW2
      rw [stG_stI W (by omega)]
      have hJ0 : TabJ [] G n (t0W W) := t0W_tab hW hn1 hn8 G
      conv => whnf
      refine ifb (fun c1 => absurd (of_decide_eq_true c1) (by omega)) (fun c1 => ?_)
      conv => whnf
      refine lp (fun k e H => ∃ (i : Nat) (t : Tb), i ≤ K.length ∧ k = K.length - i ∧ TabJ (K.take i) G n t ∧ H = stI zz W t ∧ e = [(12, .int .i64 i), (0, .int .i64 n), (1, knownsD fk K), (2, intsD fg G), (7, .ptr 1 []), (6, .ptr 0 [])]) ?_ ?_
      · refine ⟨K.length + 1, back K.length _ (by omega) ?_ ⟨0, t0W W, by omega, by omega, by simpa using hJ0, rfl, rfl⟩⟩
        exact se0 rfl (se0 rfl (se0 rfl (se0 rfl (se0 rfl (se0 rfl trivial)))))
      · rintro k e H ⟨i, t, hi, rfl, hT, rfl, rfl⟩
        conv => whnf
        refine ifb (fun c2 => ?_) (fun c2 => ?_)
        · have c2 : i < K.length := by
            have : decide ((i : Int) < ((K.map Known.D).length : Nat)) = true := c2
            simp at this; omega
          obtain ⟨kk, hkk⟩ : ∃ kk, K[i]? = some kk := ⟨_, List.getElem?_eq_getElem c2⟩
          have hkD : (K.map Known.D)[i]? = some kk.D := by rw [List.getElem?_map, hkk]; rfl
          conv => whnf
          refine ob (by omega) ⟨kk.D, hkD, ?_⟩
          have hN := hT.tbN hW
          have hIL : (([] : List Ob).append (inter t.lo t.hi)).length = 2 * W := by
            show (inter t.lo t.hi).length = _
            rw [inter_len _ _ (by rw [hN.ll, hN.lh]), hN.ll]
          have hlast : ∀ x : Ob, (stI zz W t ++ [x]).getD (2 * W + 1 + 1 + 1 + 1) .dead = x := by
            intro x
            have := stI_len (d0 := zz) hN
            rw [List.getD, List.getElem?_append_right (by omega), show 2 * W + 1 + 1 + 1 + 1 - (stI zz W t).length = 0 by omega]; rfl
          have hset : ∀ x y : Ob, (stI zz W t ++ [x]).set (2 * W + 1 + 1 + 1 + 1) y = stI zz W t ++ [y] := by
            intro x y
            have := stI_len (d0 := zz) hN
            rw [List.set_append_right _ _ (by omega), show 2 * W + 1 + 1 + 1 + 1 - (stI zz W t).length = 0 by omega]; rfl
          have hshk : shAt (stI zz W t ++ [.var kk.D]) (2 * W + 1 + 1 + 1 + 1) [] = some sh5 := by unfold shAt; rw [hlast]; rfl
          conv => whnf
          rw [hIL]
          refine nfq ?_
          conv => whnf
          rw [hlast]
          conv => whnf
          rw [hset, hlast]
          conv => whnf
          refine Val.callH (vForceR kk fg G) (stI zz W t ++ [.var kk.D]) (.refl _) rfl (ler _ _) rfl ?_
          rintro r rfl
          have htk : K.take (i + 1) = K.take i ++ [kk] := by
            rw [List.take_succ_eq_append_getElem c2]
            rw [List.getElem?_eq_getElem c2] at hkk; cases hkk; rfl
          conv => whnf
          refine ifb (fun c3 => ?_) (fun c3 => ?_)
          · have c3 : ¬ force kk G = true := by
              have : (!force kk G) = true := c3
              simpa using this
            conv => whnf
            refine iv ((i + 1 : Nat) : Int) (by rw [w64 (by omega) (by omega)]; omega) ?_
            conv => whnf
            refine back_drop (stI zz W t) [.var kk.D] (K.length - (i + 1)) [(12, .int .i64 (i + 1 : Nat)), (0, .int .i64 n), (1, knownsD fk K), (2, intsD fg G), (7, .ptr 1 []), (6, .ptr 0 [])] (by omega) ?_ (by rw [stI_len (hN)]; exact inE_tab (by omega)) (stI_in (hN) (fun n h => rfl)) (Nat.zero_le _) ⟨i + 1, t, by omega, rfl, (by rw [htk]; exact hT.more (fun h => c3 h.1)), rfl, rfl⟩
            exact se0 rfl (se0 rfl (se0 rfl (se0 rfl (se0 rfl (se0 rfl trivial)))))
          have c3 : force kk G = true := by
            have : (!force kk G) = false := c3
            simpa using this
          conv => whnf
          rw [hshk]
          conv => whnf
          refine nfq ?_
          conv => whnf
          rw [hlast]
          conv => whnf
          refine ifb (fun c4 => ?_) (fun c4 => ?_)
          · have c4 : (n : Int) < kk.n := of_decide_eq_true c4
            conv => whnf
            refine iv ((i + 1 : Nat) : Int) (by rw [w64 (by omega) (by omega)]; omega) ?_
            conv => whnf
            refine back_drop (stI zz W t) [.var kk.D] (K.length - (i + 1)) [(12, .int .i64 (i + 1 : Nat)), (0, .int .i64 n), (1, knownsD fk K), (2, intsD fg G), (7, .ptr 1 []), (6, .ptr 0 [])] (by omega) ?_ (by rw [stI_len hN]; exact inE_tab (by omega)) (stI_in hN (fun n h => rfl)) (Nat.zero_le _) ⟨i + 1, t, by omega, rfl, (by rw [htk]; exact hT.more (fun h => by have := h.2; omega)), rfl, rfl⟩
            exact se0 rfl (se0 rfl (se0 rfl (se0 rfl (se0 rfl (se0 rfl trivial)))))
          have c4 : kk.n ≤ n := by have := of_decide_eq_false c4; omega
          have hok := known_ok hR (List.mem_of_getElem? hkk)
          obtain ⟨m, hm⟩ : ∃ m : Nat, kk.n = m := ⟨kk.n.toNat, by omega⟩
          obtain ⟨d, hd⟩ : ∃ d : Nat, kk.d = d := ⟨kk.d.toNat, by omega⟩
          conv => whnf
          rw [hshk]
          conv => whnf
          refine nfq ?_
          conv => whnf
          rw [hlast]
          conv => whnf
          refine ifb (fun c5 => ?_) (fun c5 => ?_)
          · have c5 : kk.up = true := c5
            obtain ⟨row, hrow0, hrowl⟩ := hN.hi (show m < W by omega)
            have hrow := stI_hi (d0 := zz) hN hrow0 [.var kk.D]
            have hgr : t.hi.getD m [] = row := by rw [List.getD, hrow0]; rfl
            have hold : gt2 t.hi m d = row.getD d 0 := by
              unfold gt2
              rw [Int.toNat_natCast, Int.toNat_natCast, hgr]
            have hdl : d < row.length := by omega
            have hrd : (row.map (D.int .i64))[0 + kk.d.toNat]? = some (.int .i64 (gt2 t.hi m d)) := by
              rw [show 0 + kk.d.toNat = d from by omega, List.getElem?_map, List.getElem?_eq_getElem hdl, hold, List.getD, List.getElem?_eq_getElem hdl]; rfl
            conv => whnf
            refine drT 22 (by decide +kernel) ?_
            conv => whnf
            rw [hshk]
            conv => whnf
            refine nfq ?_
            conv => whnf
            rw [hlast]
            conv => whnf
            refine ob ⟨by omega, by omega⟩ ?_
            conv => whnf
            refine ⟨.sl (5 + 2 * m) 0 W, by rw [show 0 + kk.n.toNat = m from by omega]; exact refsI_get 5 W W m (by omega), ?_⟩
            conv => whnf
            refine nfq ?_
            conv => whnf
            rw [hshk]
            conv => whnf
            refine nfq ?_
            conv => whnf
            rw [hlast]
            conv => whnf
            rw [hshk]
            conv => whnf
            refine nfq ?_
            conv => whnf
            rw [hlast]
            conv => whnf
            refine ob ⟨by omega, by omega⟩ ?_
            conv => whnf
            refine ⟨.sl (5 + 2 * m) 0 W, by rw [show 0 + kk.n.toNat = m from by omega]; exact refsI_get 5 W W m (by omega), ?_⟩
            conv => whnf
            refine nfq ?_
            conv => whnf
            rw [hshk]
            conv => whnf
            refine nfq ?_
            conv => whnf
            rw [hlast]
            conv => whnf
            rw [hrow]
            conv => whnf
            refine ob ⟨by omega, by omega⟩ ?_
            conv => whnf
            refine nfq ?_
            conv => whnf
            rw [hrow]
            conv => whnf
            refine ⟨_, hrd, ?_⟩
            conv => whnf
            rw [hshk]
            conv => whnf
            refine nfq ?_
            conv => whnf
            rw [hlast]
            conv => whnf
            rw [hrow]
            conv => whnf
            refine ob ⟨by omega, by omega⟩ ?_
            conv => whnf
            refine nfq ?_
            conv => whnf
            rw [hrow]
            conv => whnf
            refine ob (by rw [List.length_map, hrowl]; omega) ?_
            have heq : (stI zz W t ++ [Ob.var kk.D]).set (5 + 2 * m) (.row .leaf ((row.map (D.int .i64)).set (0 + kk.d.toNat) (.int .i64 (min (gt2 t.hi m d) kk.v)))) = stI zz W (setS t m d kk.up (bett kk.up (tv t ⟨m, d, kk.up⟩) kk.v)) ++ [.var kk.D] := by
              rw [show 0 + kk.d.toNat = d from by omega, setRow]
              refine (stI_sethi (d0 := zz) hN m (row.set d (min (gt2 t.hi m d) kk.v)) (by omega) [.var kk.D]).trans ?_
              rw [c5]
              simp only [setS, bett, tv, if_true, if_false, Bool.false_eq_true, hgr]
            have hTn : TabJ (K.take (i + 1)) G n (setS t m d kk.up (bett kk.up (tv t ⟨m, d, kk.up⟩) kk.v)) := by
              rw [htk]
              exact hT.put c3 hm hd (by omega) (by omega) (by omega) ⟨by omega, by omega⟩
            conv => whnf
            refine iv ((i + 1 : Nat) : Int) (by rw [w64 (by omega) (by omega)]; omega) ?_
            conv => whnf
            refine (congrArg (Back _ _ _ _) heq).mpr ?_
            refine back_drop (stI zz W (setS t m d kk.up (bett kk.up (tv t ⟨m, d, kk.up⟩) kk.v))) [.var kk.D] (K.length - (i + 1)) [(12, .int .i64 (i + 1 : Nat)), (0, .int .i64 n), (1, knownsD fk K), (2, intsD fg G), (7, .ptr 1 []), (6, .ptr 0 [])] (by omega) ?_ (by rw [stI_len (hTn.tbN hW)]; exact inE_tab (by omega)) (stI_in (hTn.tbN hW) (fun n h => rfl)) (Nat.zero_le _) ⟨i + 1, (setS t m d kk.up (bett kk.up (tv t ⟨m, d, kk.up⟩) kk.v)), by omega, rfl, hTn, rfl, rfl⟩
            exact se0 rfl (se0 rfl (se0 rfl (se0 rfl (se0 rfl (se0 rfl trivial)))))
          · have c5 : kk.up = false := c5
            obtain ⟨row, hrow0, hrowl⟩ := hN.lo (show m < W by omega)
            have hrow := stI_lo (d0 := zz) hN hrow0 [.var kk.D]
            have hgr : t.lo.getD m [] = row := by rw [List.getD, hrow0]; rfl
            have hold : gt2 t.lo m d = row.getD d 0 := by
              unfold gt2
              rw [Int.toNat_natCast, Int.toNat_natCast, hgr]
            have hdl : d < row.length := by omega
            have hrd : (row.map (D.int .i64))[0 + kk.d.toNat]? = some (.int .i64 (gt2 t.lo m d)) := by
              rw [show 0 + kk.d.toNat = d from by omega, List.getElem?_map, List.getElem?_eq_getElem hdl, hold, List.getD, List.getElem?_eq_getElem hdl]; rfl
            conv => whnf
            refine drT 22 (by decide +kernel) ?_
            conv => whnf
            rw [hshk]
            conv => whnf
            refine nfq ?_
            conv => whnf
            rw [hlast]
            conv => whnf
            refine ob ⟨by omega, by omega⟩ ?_
            conv => whnf
            refine ⟨.sl (4 + 2 * m) 0 W, by rw [show 0 + kk.n.toNat = m from by omega]; exact refsI_get 4 W W m (by omega), ?_⟩
            conv => whnf
            refine nfq ?_
            conv => whnf
            rw [hshk]
            conv => whnf
            refine nfq ?_
            conv => whnf
            rw [hlast]
            conv => whnf
            rw [hshk]
            conv => whnf
            refine nfq ?_
            conv => whnf
            rw [hlast]
            conv => whnf
            refine ob ⟨by omega, by omega⟩ ?_
            conv => whnf
            refine ⟨.sl (4 + 2 * m) 0 W, by rw [show 0 + kk.n.toNat = m from by omega]; exact refsI_get 4 W W m (by omega), ?_⟩
            conv => whnf
            refine nfq ?_
            conv => whnf
            rw [hshk]
            conv => whnf
            refine nfq ?_
            conv => whnf
            rw [hlast]
            conv => whnf
            rw [hrow]
            conv => whnf
            refine ob ⟨by omega, by omega⟩ ?_
            conv => whnf
            refine nfq ?_
            conv => whnf
            rw [hrow]
            conv => whnf
            refine ⟨_, hrd, ?_⟩
            conv => whnf
            rw [hshk]
            conv => whnf
            refine nfq ?_
            conv => whnf
            rw [hlast]
            conv => whnf
            rw [hrow]
            conv => whnf
            refine ob ⟨by omega, by omega⟩ ?_
            conv => whnf
            refine nfq ?_
            conv => whnf
            rw [hrow]
            conv => whnf
            refine ob (by rw [List.length_map, hrowl]; omega) ?_
            have heq : (stI zz W t ++ [Ob.var kk.D]).set (4 + 2 * m) (.row .leaf ((row.map (D.int .i64)).set (0 + kk.d.toNat) (.int .i64 (max (gt2 t.lo m d) kk.v)))) = stI zz W (setS t m d kk.up (bett kk.up (tv t ⟨m, d, kk.up⟩) kk.v)) ++ [.var kk.D] := by
              rw [show 0 + kk.d.toNat = d from by omega, setRow]
              refine (stI_setlo (d0 := zz) hN m (row.set d (max (gt2 t.lo m d) kk.v)) (by omega) [.var kk.D]).trans ?_
              rw [c5]
              simp only [setS, bett, tv, if_true, if_false, Bool.false_eq_true, hgr]
            have hTn : TabJ (K.take (i + 1)) G n (setS t m d kk.up (bett kk.up (tv t ⟨m, d, kk.up⟩) kk.v)) := by
              rw [htk]
              exact hT.put c3 hm hd (by omega) (by omega) (by omega) ⟨by omega, by omega⟩
            conv => whnf
            refine iv ((i + 1 : Nat) : Int) (by rw [w64 (by omega) (by omega)]; omega) ?_
            conv => whnf
            refine (congrArg (Back _ _ _ _) heq).mpr ?_
            refine back_drop (stI zz W (setS t m d kk.up (bett kk.up (tv t ⟨m, d, kk.up⟩) kk.v))) [.var kk.D] (K.length - (i + 1)) [(12, .int .i64 (i + 1 : Nat)), (0, .int .i64 n), (1, knownsD fk K), (2, intsD fg G), (7, .ptr 1 []), (6, .ptr 0 [])] (by omega) ?_ (by rw [stI_len (hTn.tbN hW)]; exact inE_tab (by omega)) (stI_in (hTn.tbN hW) (fun n h => rfl)) (Nat.zero_le _) ⟨i + 1, (setS t m d kk.up (bett kk.up (tv t ⟨m, d, kk.up⟩) kk.v)), by omega, rfl, hTn, rfl, rfl⟩
            exact se0 rfl (se0 rfl (se0 rfl (se0 rfl (se0 rfl (se0 rfl trivial)))))
        · have : i = K.length := by
            have : decide ((i : Int) < ((K.map Known.D).length : Nat)) = false := c2
            simp at this; omega
          subst this
          rw [List.take_length] at hT
          conv => whnf
          exact ⟨t, by rw [hW]; rfl, by rw [hW]; rfl, hT⟩

end Go.Proofs.Ythplmnpfaagciaa.Pw
