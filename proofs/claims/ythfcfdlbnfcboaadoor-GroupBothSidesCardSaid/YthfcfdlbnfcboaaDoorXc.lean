/- Parts of the proof, merged: XY XZ YA YB YC YD YE YF ZA YG ZB YH YI YJ YK. -/
import Derived.Test.YthfcfdlbnfcboaaDoorXb
/- group.Check$1. -/
set_option linter.unusedVariables false
set_option linter.unusedSimpArgs false
set_option maxHeartbeats 1000000
set_option maxRecDepth 10000
namespace Go.Proofs.YthfcfdlbnfcboaaDoor.Pw
open Go

/-- What Check asks of a point that is said to be reached. -/
def reachB (x : Inc) (i : Nat) (j : Int) (m : List Int) : Bool :=
  isG x m && decide (m.take i = (preI (x.V - 1) (x.V - 1)).take i) && decide (m.getD i 0 = j) && (decide (j ≠ i) || decide (m = preI (x.V - 1) (x.V - 1)))
theorem vCheck1 (x : Inc) (i : Nat) (j : Int) (m : List Int) (hx : x.Ok) (hb : ∀ s ∈ x.B, ∀ p ∈ bitsL s, p < x.V) (hi : i < x.V) :
    Val Tryd.prog 70 [iD i, .agg [.int .i64 j, intsD m], .ref (.agg [.leaf, .leaf]) x.D, .ref .leaf (intsD (preI (x.V - 1) (x.V - 1)))] (fun r => r = .bool (reachB x i j m)) := by
  have hm0 := intsL_len m
  have hv := hx.v
  have hv1 := hx.v1
  have hpl := pre_len (x.V - 1) (x.V - 1)
  have hp0 := intsL_len (preI (x.V - 1) (x.V - 1))
  refine Val.ofV ?_
  refine hc_ofS (okc Tryd.f70.ntmps 0) (fn := Tryd.f70) (cd := _) rfl rfl rfl rfl rfl rfl (fun hbd => ?_)
  have hIs := vIs x m (by omega) hx.b hx.n hb
  cases hg : isG x m with
  | false =>
    rw [hg] at hIs
    repeat' (
     conv => whnf
     first
     | ((with_reducible refine pcI ?_); refine Val.pure hIs (ler _ _) rfl rfl ?_)
     | ((with_reducible apply drT 33); rfl))
    all_goals (conv => whnf)
    exact fC rfl (by simp [reachB, hg]; rfl)
  | true =>
    rw [hg] at hIs
    have hml : m.length = x.V := by
      unfold isG at hg
      exact (of_decide_eq_true hg).1
    have e1 : (intsL m).take i = intsL (m.take i) := by simp [intsL]
    have e2 : (intsL (preI (x.V - 1) (x.V - 1))).take i = intsL ((preI (x.V - 1) (x.V - 1)).take i) := by simp [intsL]
    have hA : LeDs [.var (.agg [.int .i64 j, intsD m])] [intsD (m.take i), intsD ((preI (x.V - 1) (x.V - 1)).take i)] [.list false .leaf (List.drop (Int.toNat 0) (List.take (i : Int).toNat (intsL m))), .list false .leaf (List.drop (Int.toNat 0) (List.take (i : Int).toNat (intsL (preI (x.V - 1) (x.V - 1)))))] := by
      rw [show List.drop (Int.toNat 0) (List.take (i : Int).toNat (intsL m)) = intsL (m.take i) from by rw [Int.toNat_natCast, e1]; rfl, show List.drop (Int.toNat 0) (List.take (i : Int).toNat (intsL (preI (x.V - 1) (x.V - 1)))) = intsL ((preI (x.V - 1) (x.V - 1)).take i) from by rw [Int.toNat_natCast, e2]; rfl]
      exact ler _ _
    by_cases he : m.take i = (preI (x.V - 1) (x.V - 1)).take i
    · have heq := vEqI (m.take i) ((preI (x.V - 1) (x.V - 1)).take i)
      rw [decide_eq_true he] at heq
      repeat' (
       conv => whnf
       first
       | refine ifd (fun h => ?_) (fun h => ?_)
       | refine ifn (fun h => ?_) (fun h => ?_)
       | ((with_reducible refine exI' (by omega) ?_); intro y hy; (try simp only [Int.toNat_natCast, Nat.zero_add] at hy); (try have hyr := hR _ (List.mem_of_getElem? hy)))
       | ((with_reducible refine pcI ?_); refine Val.pure hIs (ler _ _) rfl rfl ?_)
       | ((with_reducible refine pcI ?_); refine Val.pure heq hA rfl rfl ?_)
       | ((with_reducible refine hcI ?_); refine Val.call (vEqI _ _) (.refl _) (ler _ _) rfl ?_; rintro r rfl)
       | ((with_reducible apply drT 33); rfl)
       | ((with_reducible apply ob); ((first | rfl | assumption | omega | (unfold maxLen2; omega) | (dsimp only; omega) | (simp only [LN]; omega) | (simp; done) | (simp; omega)))))
      all_goals (conv => whnf)
      all_goals
        refine fC rfl (congrArg D.bool ?_)
        unfold reachB
        simp_all [getD_of (show m[i]? = some _ from by assumption)]
    · have heq := vEqI (m.take i) ((preI (x.V - 1) (x.V - 1)).take i)
      rw [decide_eq_false he] at heq
      repeat' (
       conv => whnf
       first
       | ((with_reducible refine pcI ?_); refine Val.pure hIs (ler _ _) rfl rfl ?_)
       | ((with_reducible refine pcI ?_); refine Val.pure heq hA rfl rfl ?_)
       | ((with_reducible apply drT 33); rfl)
       | ((with_reducible apply ob); ((first | rfl | assumption | omega | (unfold maxLen2; omega) | (dsimp only; omega) | (simp only [LN]; omega) | (simp; done) | (simp; omega)))))
      all_goals (conv => whnf)
      refine fC rfl (congrArg D.bool ?_)
      unfold reachB
      simp [he]

end Go.Proofs.YthfcfdlbnfcboaaDoor.Pw

/- perm.one, perm.Mul. -/
set_option linter.unusedVariables false
set_option linter.unusedSimpArgs false
set_option maxHeartbeats 1000000
set_option maxRecDepth 10000
namespace Go.Proofs.YthfcfdlbnfcboaaDoor.Pw
open Go

/-- A list of n numbers, of which the first k are set. -/
def fillK (f : Nat → Int) (n k : Nat) : List Int := (List.range n).map fun i => if i < k then f i else 0
theorem fillK_len (f : Nat → Int) (n k : Nat) : (fillK f n k).length = n := by simp [fillK]
theorem fillK_zero (f : Nat → Int) (n : Nat) : fillK f n 0 = List.replicate n 0 := by
  apply List.ext_getElem
  · simp [fillK]
  · intro i h1 h2
    simp [fillK]
theorem fillK_set (f : Nat → Int) (n k : Nat) : (fillK f n k).set k (f k) = fillK f n (k + 1) := by
  apply List.ext_getElem
  · simp [fillK]
  · intro i h1 h2
    rw [List.getElem_set]
    simp only [fillK, List.getElem_map, List.getElem_range]
    by_cases h : k = i
    · subst h; simp
    · by_cases h3 : i < k
      · simp [h, h3, show i < k + 1 by omega]
      · simp [h, h3, show ¬ i < k + 1 by omega]
theorem fillK_all (f : Nat → Int) (n : Nat) : fillK f n n = (List.range n).map f := by
  unfold fillK
  apply List.map_congr_left
  intro i hi
  simp [List.mem_range.1 hi]
theorem vPOne (n : Nat) (hn : n ≤ 1000000) : Val Tryd.prog 105 [iD n] (fun r => r = intsD (oneI n)) := by
  refine Val.ofV ?_
  refine hc_ofS (okc Tryd.f105.ntmps 0) (fn := Tryd.f105) (cd := _) rfl rfl rfl rfl rfl rfl (fun hbd => ?_)
  repeat' (
   conv => whnf
   first
   | ((with_reducible apply ob); ((first | rfl | assumption | omega | (unfold maxLen2; omega) | (dsimp only; omega) | (simp only [LN]; omega) | (simp; done) | (simp; omega)))))
  all_goals (conv => whnf)
  refine lpX (X := Nat) (fun k => [(3, .sl 0 0 n), (8, iD n), (9, iD k)]) (fun k => [.row .leaf (intsL (fillK (fun i => (i : Int)) n k))]) (fun k => k ≤ n) (fun k => n - k) ⟨_, nx (ρ := [0]) 0 (by repeat (first | exact trivial | refine seC rfl rfl ?_ | refine seL (leRow rfl rfl) rfl ?_)) (shR rfl (by rw [fillK_zero]; simp [intsL]; exact .inr rfl) (cl_ints _) trivial) rfl rfl (Nat.lt_succ_self _) (Nat.zero_le _)⟩ ?_
  intro k hk
  have h0 : (intsL (fillK (fun i => (i : Int)) n k)).length = n := by simp [fillK_len]
  repeat' (
   conv => whnf
   first
   | refine ifd (fun h => ?_) (fun h => ?_)
   | with_reducible refine ivW (by omega) (by omega) ?_
   | ((with_reducible apply ob); ((first | rfl | assumption | omega | (unfold maxLen2; omega) | (dsimp only; omega) | (simp only [LN]; omega) | (simp; done) | (simp; omega)))))
  all_goals (conv => whnf)
  · exact nx (ρ := [0]) (k + 1) (by repeat (first | exact trivial | refine seC rfl rfl ?_ | refine seL (leRow rfl rfl) rfl ?_)) (shR rfl (by rw [← fillK_set]; simp [intsL, List.map_set]) (cl_ints _) trivial) rfl rfl (by omega) (by omega)
  · have : k = n := by omega
    subst this
    have e : fillK (fun i => (i : Int)) k k = oneI k := by rw [fillK_all]; rfl
    rw [e]
    rw [e] at h0
    apply fR' (intsL (oneI k))
    case hg => rfl
    case hc => exact cl_ints _
    case h => rfl
    · rfl
    · exact h0

def mulF (g h : List Int) (i : Nat) : Int := h.getD (g.getD i 0).toNat 0
theorem mulK_map (g h : List Int) : ∀ k, mulK g h k = (List.range k).map (mulF g h)
  | 0 => rfl
  | k + 1 => by rw [mulK, mulK_map g h k, List.range_succ]; simp [mulF]
theorem vPMul (g p : List Int) (hR : ∀ x ∈ g, 0 ≤ x ∧ x < p.length) (hg1 : g.length ≤ 1000000) : Val Tryd.prog 106 [intsD g, intsD p] (fun r => r = intsD (mulI g p)) := by
  have hg0 := intsL_len g
  have hh0 := intsL_len p
  refine Val.ofV ?_
  refine hc_ofS (okc Tryd.f106.ntmps 0) (fn := Tryd.f106) (cd := _) rfl rfl rfl rfl rfl rfl (fun hbd => ?_)
  repeat' (
   conv => whnf
   first
   | ((with_reducible apply ob); ((first | rfl | assumption | omega | (unfold maxLen2; omega) | (dsimp only; omega) | (simp only [LN]; omega) | (simp; done) | (simp; omega)))))
  all_goals (conv => whnf)
  refine lpX (X := Nat) (fun k => [(1, intsD p), (5, .sl 0 0 (intsL g).length), (11, intsD g), (12, iD (intsL g).length), (13, iD k)]) (fun k => [.row .leaf (intsL (fillK (mulF g p) g.length k))]) (fun k => k ≤ g.length) (fun k => g.length - k) ⟨_, nx (ρ := [0]) 0 (by repeat (first | exact trivial | refine seC rfl rfl ?_ | refine seL (leRow rfl rfl) rfl ?_)) (shR rfl (by rw [fillK_zero, hg0]; simp [intsL]; exact .inr rfl) (cl_ints _) trivial) rfl rfl (Nat.lt_succ_self _) (Nat.zero_le _)⟩ ?_
  intro k hk
  have h0 : (intsL (fillK (mulF g p) g.length k)).length = g.length := by simp [fillK_len]
  repeat' (
   conv => whnf
   first
   | refine ifd (fun h => ?_) (fun h => ?_)
   | with_reducible refine ivW (by omega) (by omega) ?_
   | ((with_reducible refine exI' (by omega) ?_); intro y hy; (try simp only [Int.toNat_natCast, Nat.zero_add] at hy); (try have hyr := hR _ (List.mem_of_getElem? hy)))
   | ((with_reducible apply ob); ((first | rfl | assumption | omega | (unfold maxLen2; omega) | (dsimp only; omega) | (simp only [LN]; omega) | (simp; done) | (simp; omega)))))
  all_goals (conv => whnf)
  · rename_i y0 hy0
    have e : mulF g p k = y := by
      unfold mulF
      rw [getD_of hy0, getD_of hy]
    exact nx (ρ := [0]) (k + 1) (by repeat (first | exact trivial | refine seC rfl rfl ?_ | refine seL (leRow rfl rfl) rfl ?_)) (shR rfl (by rw [← fillK_set, e]; simp [intsL, List.map_set]) (cl_ints _) trivial) rfl rfl (by omega) (by omega)
  · have : k = g.length := by omega
    subst this
    have e : fillK (mulF g p) g.length g.length = mulI g p := by rw [fillK_all]; exact (mulK_map g p _).symm
    rw [e]
    rw [e] at h0
    apply fR' (intsL (mulI g p))
    case hg => rfl
    case hc => exact cl_ints _
    case h => rfl
    · rfl
    · rw [h0, hg0]

end Go.Proofs.YthfcfdlbnfcboaaDoor.Pw

/- perm.accepted. -/
set_option linter.unusedVariables false
set_option linter.unusedSimpArgs false
set_option maxHeartbeats 1000000
set_option maxRecDepth 10000
namespace Go.Proofs.YthfcfdlbnfcboaaDoor.Pw
open Go

def rowsL (l : List (List Int)) : List D := l.map intsD
def rowsD (l : List (List Int)) : D := .list false .leaf (rowsL l)
@[simp] theorem rowsL_len (l : List (List Int)) : (rowsL l).length = l.length := by simp [rowsL]
theorem cl_rows (l : List (List Int)) : clDs (rowsL l) = true := cl_map (fun g => rfl) l
/-- A list that is no permutation of n points. -/
def badP (n : Nat) (g : List Int) : Bool := decide (g.length ≠ n) || !decide (1 ≤ g.length ∧ g.length ≤ 16 ∧ Dif g g.length)
theorem vAcc1 (n : Nat) (g : List Int) : Val Tryd.prog 104 [intsD g, .ref .leaf (iD n)] (fun r => r = .bool (badP n g)) := by
  have hg0 := intsL_len g
  refine Val.ofV ?_
  refine hc_ofS (okc Tryd.f104.ntmps 0) (fn := Tryd.f104) (cd := _) rfl rfl rfl rfl rfl rfl (fun hbd => ?_)
  repeat' (
   conv => whnf
   first
   | refine ifn (fun h => ?_) (fun h => ?_)
   | ((with_reducible refine hcI ?_); refine Val.call (vValid _) (.refl _) (ler _ _) rfl ?_; rintro r rfl))
  all_goals (conv => whnf)
  all_goals
    refine fC rfl (congrArg D.bool ?_)
    unfold badP
    first
    | (simp; done)
    | (simp_all; done)
    | (simp; omega)
    | skip

theorem vIdxA (n : Nat) (l : List (List Int)) (hl : l.length ≤ 1000000) : Val Tryd.prog 113 [rowsD l, .func 104 [.ref .leaf (iD n)]] (fun r => r = .int .i64 (match l.findIdx? (badP n) with | some i => (i : Int) | none => -1)) := by
  have hl0 := rowsL_len l
  refine Val.ofV ?_
  refine hc_ofS (okc Tryd.f113.ntmps 0) (fn := Tryd.f113) (cd := _) rfl rfl rfl rfl rfl rfl (fun hbd => ?_)
  all_goals (conv => whnf)
  refine lpX (X := Nat) (fun k => [(0, rowsD l), (1, .func 104 [.ref .leaf (iD n)]), (7, iD (rowsL l).length), (8, iD k)]) (fun _ => []) (fun k => k ≤ l.length ∧ ∀ i g, i < k → l[i]? = some g → badP n g = false) (fun k => l.length - k) ⟨_, nx0 0 (by repeat (first | exact trivial | refine se0 rfl ?_)) rfl (Nat.lt_succ_self _) ⟨Nat.zero_le _, by omega⟩⟩ ?_
  rintro k ⟨hk, he⟩
  rcases Nat.lt_or_ge k l.length with hlt | hge
  · obtain ⟨g, hg⟩ : ∃ g, l[k]? = some g := ⟨l[k], List.getElem?_eq_getElem hlt⟩
    have hgd : (rowsL l)[k]? = some (intsD g) := by simp [rowsL, hg]
    have hb := vAcc1 n g
    cases hbd : badP n g with
    | true =>
      rw [hbd] at hb
      repeat' (
       conv => whnf
       first
       | refine ifd (fun h => ?_) (fun h => ?_)
       | ((with_reducible refine hcI ?_); refine Val.call hb (.refl _) (ler _ _) rfl ?_; rintro r rfl)
       | (with_reducible refine ⟨intsD g, by first | exact hgd | (simpa using hgd), ?_⟩)
       | ((with_reducible apply ob); ((first | rfl | assumption | omega | (unfold maxLen2; omega) | (dsimp only; omega) | (simp only [LN]; omega) | (simp; done) | (simp; omega)))))
      all_goals (conv => whnf)
      · refine fC rfl (congrArg (D.int .i64) ?_)
        have e : l.findIdx? (badP n) = some k := List.findIdx?_eq_some_iff_getElem.2 ⟨hlt, by
          rw [List.getElem?_eq_getElem hlt] at hg; cases hg; exact hbd, fun j hj hc => by
          rw [he j l[j] hj (List.getElem?_eq_getElem (by omega))] at hc; cases hc⟩
        rw [e]
      · exact absurd hlt (by omega)
    | false =>
      rw [hbd] at hb
      repeat' (
       conv => whnf
       first
       | refine ifd (fun h => ?_) (fun h => ?_)
       | with_reducible refine ivW (by omega) (by omega) ?_
       | ((with_reducible refine hcI ?_); refine Val.call hb (.refl _) (ler _ _) rfl ?_; rintro r rfl)
       | (with_reducible refine ⟨intsD g, by first | exact hgd | (simpa using hgd), ?_⟩)
       | ((with_reducible apply ob); ((first | rfl | assumption | omega | (unfold maxLen2; omega) | (dsimp only; omega) | (simp only [LN]; omega) | (simp; done) | (simp; omega)))))
      all_goals (conv => whnf)
      · exact nx0 (k + 1) (by repeat (first | exact trivial | refine se0 rfl ?_)) rfl (by omega) ⟨by omega, fun i g1 hi h1 => by
          rcases Nat.lt_succ_iff_lt_or_eq.1 hi with h2 | rfl
          · exact he i g1 h2 h1
          · rw [hg] at h1; cases h1; exact hbd⟩
      · exact absurd hlt (by omega)
  · repeat' (
     conv => whnf
     first
     | refine ifd (fun h => ?_) (fun h => ?_)
     | ((with_reducible apply ob); ((first | rfl | assumption | omega | (unfold maxLen2; omega) | (dsimp only; omega) | (simp only [LN]; omega) | (simp; done) | (simp; omega)))))
    all_goals (conv => whnf)
    · exact absurd h (by omega)
    · refine fC rfl (congrArg (D.int .i64) ?_)
      have e : l.findIdx? (badP n) = none := List.findIdx?_eq_none_iff.2 fun g hg => by
        obtain ⟨i, hi, rfl⟩ := List.getElem_of_mem hg
        exact he i _ (by omega) (List.getElem?_eq_getElem hi)
      rw [e]
theorem vConA (n : Nat) (l : List (List Int)) (hl : l.length ≤ 1000000) : Val Tryd.prog 103 [rowsD l, .func 104 [.ref .leaf (iD n)]] (fun r => r = .bool (l.any (badP n))) := by
  have hl0 := rowsL_len l
  have hi := vIdxA n l hl
  have hany : l.any (badP n) = (l.findIdx? (badP n)).isSome := (List.findIdx?_isSome).symm
  refine Val.ofV ?_
  refine hc_ofS (okc Tryd.f103.ntmps 0) (fn := Tryd.f103) (cd := _) rfl rfl rfl rfl rfl rfl (fun hbd => ?_)
  cases hf : l.findIdx? (badP n) with
  | none =>
    rw [hf] at hi hany
    repeat' (
     conv => whnf
     first
     | ((with_reducible refine hcI ?_); refine Val.call hi (.refl _) (ler _ _) rfl ?_; rintro r rfl))
    all_goals (conv => whnf)
    exact fC rfl (by rw [hany]; rfl)
  | some i =>
    rw [hf] at hi hany
    repeat' (
     conv => whnf
     first
     | ((with_reducible refine hcI ?_); refine Val.call hi (.refl _) (ler _ _) rfl ?_; rintro r rfl))
    all_goals (conv => whnf)
    refine fC rfl (congrArg D.bool ?_)
    rw [hany]
    show decide ((0 : Int) ≤ (i : Int)) = true
    simp
/-- accepted -/
def accB (lim n : Nat) (l : List (List Int)) : Bool := decide (1 ≤ n ∧ n ≤ lim ∧ l.length ≤ 100) && !l.any (badP n)
theorem vAccepted (lim n : Nat) (l : List (List Int)) : Val Tryd.prog 88 [iD lim, iD n, rowsD l] (fun r => r = .bool (accB lim n l)) := by
  have hl0 := rowsL_len l
  refine Val.ofV ?_
  refine hc_ofS (okc Tryd.f88.ntmps 0) (fn := Tryd.f88) (cd := _) rfl rfl rfl rfl rfl rfl (fun hbd => ?_)
  by_cases hok : 1 ≤ n ∧ n ≤ lim ∧ l.length ≤ 100
  · have hc := vConA n l (by omega)
    repeat' (
     conv => whnf
     first
     | refine ifd (fun h => ?_) (fun h => ?_))
    all_goals (conv => whnf)
    all_goals (first | (exfalso; omega) | skip)
    refine Val.call hc (.fvar 0 (iD n) rfl rfl (.refl _)) (.cons _ _ _ _ (.refl _) (.cons _ _ _ _ (.func _ _ _ (.cons _ _ _ _ (show LeD _ (.ref (shape (iD n)) (iD n)) (.ptr 0 []) from .fvar 0 _ rfl) .nil)) .nil)) rfl ?_
    rintro r rfl
    all_goals (conv => whnf)
    exact fC rfl (by unfold accB; rw [decide_eq_true hok]; rfl)
  · repeat' (
     conv => whnf
     first
     | refine ifd (fun h => ?_) (fun h => ?_))
    all_goals (conv => whnf)
    all_goals (first | (exfalso; omega) | exact fC rfl (by unfold accB; rw [decide_eq_false hok]; rfl))

end Go.Proofs.YthfcfdlbnfcboaaDoor.Pw

/- plexuslaw20: order, proved. -/
set_option linter.unusedVariables false
set_option linter.unusedSimpArgs false
set_option maxHeartbeats 1000000
set_option maxRecDepth 10000
namespace Go.Proofs.YthfcfdlbnfcboaaDoor.Pw
open Go

theorem vLawOrder (x : Inc) (hx : x.Ok) (hx7 : x.V ≤ 7) : Val Tryd.prog 15 [x.D] (fun r => r = .agg [iD (ordK x x.V), .int .i64 0]) := by
  refine Val.ofV ?_
  refine hc_ofS (okc Tryd.f15.ntmps 0) (fn := Tryd.f15) (cd := _) rfl rfl rfl rfl rfl rfl (fun hbd => ?_)
  repeat' (
   conv => whnf
   first
   | ((with_reducible refine hcI ?_); refine Val.call (vOrder _ (by assumption) (by omega)) (.refl _) (ler _ _) rfl ?_; rintro r rfl))
  all_goals (conv => whnf)
  exact fC rfl rfl
theorem vLawProved (x : Inc) (hx : x.Ok) (hx7 : x.V ≤ 7) : Val Tryd.prog 9 [x.D] (fun r => r = .agg [prfD x, .int .i64 0]) := by
  refine Val.ofV ?_
  refine hc_ofS (okc Tryd.f9.ntmps 0) (fn := Tryd.f9) (cd := _) rfl rfl rfl rfl rfl rfl (fun hbd => ?_)
  repeat' (
   conv => whnf
   first
   | ((with_reducible refine hcI ?_); refine Val.call (vGProve _ (by assumption) (by omega)) (.refl _) (ler _ _) rfl ?_; rintro r rfl))
  all_goals (conv => whnf)
  exact fC rfl rfl

end Go.Proofs.YthfcfdlbnfcboaaDoor.Pw

/- R08.Alike. -/
set_option linter.unusedVariables false
set_option linter.unusedSimpArgs false
set_option maxHeartbeats 1000000
set_option maxRecDepth 10000
namespace Go.Proofs.YthfcfdlbnfcboaaDoor.Pw
open Go

theorem exR {l : List (List Int)} {n : Nat} {k : D → Prop} (h : n < l.length) (hk : ∀ a, l[n]? = some a → k (intsD a)) : ∃ d, (rowsL l)[n]? = some d ∧ k d := exM (f := intsD) h hk
theorem vAlike (a b : List (List Int)) (ha : a.length ≤ 1000000) (hb : b.length ≤ 1000000) : Val Tryd.prog 34 [rowsD a, rowsD b] (fun r => r = .bool (decide (a = b))) := by
  have ha0 := rowsL_len a
  have hb0 := rowsL_len b
  refine Val.ofV ?_
  refine hc_ofS (okc Tryd.f34.ntmps 0) (fn := Tryd.f34) (cd := _) rfl rfl rfl rfl rfl rfl (fun hbd => ?_)
  repeat' (
   conv => whnf
   first
   | refine ifn (fun h => ?_) (fun h => ?_))
  all_goals (conv => whnf)
  · exact fF (fun e => h (by subst e; rfl))
  · refine lpX (X := Nat) (fun k => [(5, iD k), (0, rowsD a), (1, rowsD b)]) (fun _ => []) (fun k => k ≤ a.length ∧ a.take k = b.take k) (fun k => a.length - k) ⟨_, nx0 0 (by repeat (first | exact trivial | refine se0 rfl ?_)) rfl (Nat.lt_succ_self _) ⟨Nat.zero_le _, by simp⟩⟩ ?_
    rintro k ⟨hk, he⟩
    rcases Nat.lt_or_ge k a.length with hlt | hge
    · obtain ⟨g, hg⟩ : ∃ g, a[k]? = some g := ⟨a[k], List.getElem?_eq_getElem hlt⟩
      obtain ⟨g2, hg2⟩ : ∃ g2, b[k]? = some g2 := ⟨b[k]'(by omega), List.getElem?_eq_getElem (by omega)⟩
      repeat' (
       conv => whnf
       first
       | refine ifd (fun h => ?_) (fun h => ?_)
       | refine ifn (fun h => ?_) (fun h => ?_)
       | with_reducible refine ivW (by omega) (by omega) ?_
       | ((with_reducible refine exR (by omega) ?_); intro y hy; simp only [Int.toNat_natCast] at hy; first | (rw [hg] at hy; cases hy; done) | (rw [hg2] at hy; cases hy; done) | (rw [hg] at hy; obtain rfl := Option.some.inj hy) | (rw [hg2] at hy; obtain rfl := Option.some.inj hy))
       | ((with_reducible refine hcI ?_); refine Val.call (vSame _ _) (.refl _) (ler _ _) rfl ?_; rintro r rfl)
       | ((with_reducible apply drT 8); rfl)
       | ((with_reducible apply ob); ((first | rfl | assumption | omega | (unfold maxLen2; omega) | (dsimp only; omega) | (simp only [LN]; omega) | (simp; done) | (simp; omega)))))
      all_goals (conv => whnf)
      · exact fF (fun e => by subst e; rw [hg] at hg2; cases hg2; simp_all)
      · have e : g = g2 := by simp_all
        subst e
        exact nx0 (k + 1) (by repeat (first | exact trivial | refine se0 rfl ?_)) rfl (by omega) ⟨by omega, by rw [List.take_add_one, List.take_add_one, he, hg, hg2]⟩
      · exact absurd hlt (by omega)
    · repeat' (
       conv => whnf
       first
       | refine ifd (fun h => ?_) (fun h => ?_)
       | ((with_reducible apply drT 8); rfl)
       | ((with_reducible apply ob); ((first | rfl | assumption | omega | (unfold maxLen2; omega) | (dsimp only; omega) | (simp only [LN]; omega) | (simp; done) | (simp; omega)))))
      all_goals (conv => whnf)
      · exact absurd h (by omega)
      · refine fT ?_
        rw [List.take_of_length_le (by omega), List.take_of_length_le (by omega)] at he
        exact he

end Go.Proofs.YthfcfdlbnfcboaaDoor.Pw

/- R20.reach. -/
set_option linter.unusedVariables false
set_option linter.unusedSimpArgs false
set_option maxHeartbeats 1000000
set_option maxRecDepth 10000
namespace Go.Proofs.YthfcfdlbnfcboaaDoor.Pw
open Go

def rchD (y : Int × List Int) : D := .agg [.int .i64 y.1, intsD y.2]
def rchL (l : List (Int × List Int)) : List D := l.map rchD
@[simp] theorem rchL_len (l : List (Int × List Int)) : (rchL l).length = l.length := by simp [rchL]
theorem cl_rch (l : List (Int × List Int)) : clDs (rchL l) = true := cl_map (fun y => rfl) l
/-- Where an element goes in a list that rises. -/
def placeN {α : Type} (l : List (Int × α)) (j : Int) : Nat := (l.findIdx? (fun y => !decide (y.1 < j))).getD l.length
theorem place_eq {α : Type} {l : List (Int × α)} {j : Int} {k : Nat} (hk : k ≤ l.length) (h : ∀ i y, i < k → l[i]? = some y → y.1 < j) (he : k = l.length ∨ ∃ y, l[k]? = some y ∧ ¬ y.1 < j) : placeN l j = k := by
  unfold placeN
  rcases he with e | ⟨y, hy, hn⟩
  · have e2 : l.findIdx? (fun y => !decide (y.1 < j)) = none := List.findIdx?_eq_none_iff.2 fun g hg => by
      obtain ⟨i, hi, rfl⟩ := List.getElem_of_mem hg
      have := h i _ (by omega) (List.getElem?_eq_getElem hi)
      simp [this]
    rw [e2]; exact e.symm
  · have hlt : k < l.length := (List.getElem?_eq_some_iff.1 hy).1
    have e2 : l.findIdx? (fun y => !decide (y.1 < j)) = some k := List.findIdx?_eq_some_iff_getElem.2 ⟨hlt, by
      rw [List.getElem?_eq_getElem hlt] at hy; cases hy; simpa using hn, fun i hi => by
      have := h i _ hi (List.getElem?_eq_getElem (by omega))
      simp [this]⟩
    rw [e2]; rfl
theorem exC {l : List (Int × List Int)} {n : Nat} {k : D → Prop} (h : n < l.length) (hk : ∀ a, l[n]? = some a → k (.agg [.int .i64 a.1, intsD a.2])) : ∃ d, (rchL l)[n]? = some d ∧ k d := exM (f := rchD) h hk
def reachI (l : List (Int × List Int)) (u : Int × List Int) : List (Int × List Int) := l.take (placeN l u.1) ++ u :: l.drop (placeN l u.1)
theorem vReach (l : List (Int × List Int)) (u : Int × List Int) (hl : l.length ≤ 1000000) : Val Tryd.prog 54 [.list false (.agg [.leaf, .leaf]) (rchL l), rchD u] (fun r => r = .list false (.agg [.leaf, .leaf]) (rchL (reachI l u))) := by
  obtain ⟨uj, um⟩ := u
  have hl0 := rchL_len l
  refine Val.ofV ?_
  refine hc_ofS (okc Tryd.f54.ntmps 0) (fn := Tryd.f54) (cd := _) rfl rfl rfl rfl rfl rfl (fun hbd => ?_)
  all_goals (conv => whnf)
  refine lpX (X := Nat) (fun k => [(5, iD k), (3, .ptr 0 []), (0, .list false (.agg [.leaf, .leaf]) (rchL l))]) (fun _ => [.var (rchD (uj, um))]) (fun k => k ≤ l.length ∧ ∀ i y, i < k → l[i]? = some y → y.1 < uj) (fun k => l.length - k) ⟨_, nx0 0 (by repeat (first | exact trivial | refine se0 rfl ?_)) rfl (Nat.lt_succ_self _) ⟨Nat.zero_le _, by omega⟩⟩ ?_
  rintro k ⟨hk, he⟩
  rcases Nat.eq_zero_or_pos k with hk0 | hk0
  · subst hk0
    repeat' (
     conv => whnf
     first
     | refine ifd (fun h => ?_) (fun h => ?_)
     | with_reducible refine ivW (by omega) (by omega) ?_
     | ((with_reducible refine exC (by omega) ?_); rintro ⟨yj, ym⟩ hy; simp only [Int.toNat_natCast] at hy)
     | ((with_reducible apply drT 12); rfl)
     | ((with_reducible apply ob); ((first | rfl | assumption | omega | (unfold maxLen2; omega) | (dsimp only; omega) | (simp only [LN]; omega) | (simp; done) | (simp; omega)))))
    all_goals (conv => whnf)
    · exact nx0 (0 + 1) (by repeat (first | exact trivial | refine se0 rfl ?_)) rfl (by omega) ⟨by omega, fun i y1 hi h1 => by
        rcases Nat.lt_succ_iff_lt_or_eq.1 hi with h2 | rfl
        · exact he i y1 h2 h1
        · rw [hy] at h1; cases h1; first | exact h | assumption⟩
    all_goals
      have hp : placeN l uj = 0 := place_eq hk he (by first | (right; exact ⟨_, hy, h⟩) | (left; omega))
      apply fR' (rchL (reachI l (uj, um)))
      case hg => rfl
      case hc => exact cl_rch _
      case h => rfl
      all_goals first | (simp [reachI, hp, rchL, rchD, Nat.min_eq_left hk, List.take_of_length_le]; done) | (simp [reachI, hp, rchL, rchD, Nat.min_eq_left hk, List.take_of_length_le]; omega) | skip
    all_goals trace_state
  · repeat' (
     conv => whnf
     first
     | refine ifd (fun h => ?_) (fun h => ?_)
     | with_reducible refine ivW (by omega) (by omega) ?_
     | ((with_reducible refine exC (by omega) ?_); rintro ⟨yj, ym⟩ hy; simp only [Int.toNat_natCast] at hy)
     | ((with_reducible apply drT 12); rfl)
     | ((with_reducible apply ob); ((first | rfl | assumption | omega | (unfold maxLen2; omega) | (dsimp only; omega) | (simp only [LN]; omega) | (simp; done) | (simp; omega)))))
    all_goals (conv => whnf)
    · exact nx0 (k + 1) (by repeat (first | exact trivial | refine se0 rfl ?_)) rfl (by omega) ⟨by omega, fun i y1 hi h1 => by
        rcases Nat.lt_succ_iff_lt_or_eq.1 hi with h2 | rfl
        · exact he i y1 h2 h1
        · rw [hy] at h1; cases h1; first | exact h | assumption⟩
    all_goals
      have hp : placeN l uj = k := place_eq hk he (by first | (right; exact ⟨_, hy, h⟩) | (left; omega))
      apply fR' (rchL (reachI l (uj, um)))
      case hg => rfl
      case hc => exact cl_rch _
      case h => rfl
      all_goals first | (simp [reachI, hp, rchL, rchD, Nat.min_eq_left hk, List.take_of_length_le]; done) | (simp [reachI, hp, rchL, rchD, Nat.min_eq_left hk, List.take_of_length_le]; omega) | skip
    all_goals trace_state

end Go.Proofs.YthfcfdlbnfcboaaDoor.Pw

/- R20.with. -/
set_option linter.unusedVariables false
set_option linter.unusedSimpArgs false
set_option maxHeartbeats 1000000
set_option maxRecDepth 10000
namespace Go.Proofs.YthfcfdlbnfcboaaDoor.Pw
open Go

def unsD (y : Int × Tree) : D := .agg [.int .i64 y.1, treeD y.2]
def unsL (l : List (Int × Tree)) : List D := l.map unsD
@[simp] theorem unsL_len (l : List (Int × Tree)) : (unsL l).length = l.length := by simp [unsL]
theorem cl_uns (l : List (Int × Tree)) : clDs (unsL l) = true := cl_map (fun y => by show clDs [D.int .i64 y.1, treeD y.2] = true; simp only [clDs, cl_tree]; rfl) l
theorem exW {l : List (Int × Tree)} {n : Nat} {k : D → Prop} (h : n < l.length) (hk : ∀ a, l[n]? = some a → k (.agg [.int .i64 a.1, treeD a.2])) : ∃ d, (unsL l)[n]? = some d ∧ k d := exM (f := unsD) h hk
def withI (l : List (Int × Tree)) (u : Int × Tree) : List (Int × Tree) := l.take (placeN l u.1) ++ u :: l.drop (placeN l u.1)
theorem vWithU (l : List (Int × Tree)) (u : Int × Tree) (hl : l.length ≤ 1000000) : Val Tryd.prog 53 [.list false (.agg [.leaf, .agg [.leaf]]) (unsL l), unsD u] (fun r => r = .list false (.agg [.leaf, .agg [.leaf]]) (unsL (withI l u))) := by
  obtain ⟨uj, ⟨um⟩⟩ := u
  have hl0 := unsL_len l
  refine Val.ofV ?_
  refine hc_ofS (okc Tryd.f53.ntmps 0) (fn := Tryd.f53) (cd := _) rfl rfl rfl rfl rfl rfl (fun hbd => ?_)
  all_goals (conv => whnf)
  refine lpX (X := Nat) (fun k => [(5, iD k), (3, .ptr 0 []), (0, .list false (.agg [.leaf, .agg [.leaf]]) (unsL l))]) (fun _ => [.var (unsD (uj, Tree.node um))]) (fun k => k ≤ l.length ∧ ∀ i y, i < k → l[i]? = some y → y.1 < uj) (fun k => l.length - k) ⟨_, nx0 0 (by repeat (first | exact trivial | refine se0 rfl ?_)) rfl (Nat.lt_succ_self _) ⟨Nat.zero_le _, by omega⟩⟩ ?_
  rintro k ⟨hk, he⟩
  rcases Nat.eq_zero_or_pos k with hk0 | hk0
  · subst hk0
    repeat' (
     conv => whnf
     first
     | refine ifd (fun h => ?_) (fun h => ?_)
     | with_reducible refine ivW (by omega) (by omega) ?_
     | ((with_reducible refine exW (by omega) ?_); rintro ⟨yj, ⟨ym⟩⟩ hy; simp only [Int.toNat_natCast] at hy)
     | ((with_reducible apply drT 12); rfl)
     | ((with_reducible apply ob); ((first | rfl | assumption | omega | (unfold maxLen2; omega) | (dsimp only; omega) | (simp only [LN]; omega) | (simp; done) | (simp; omega)))))
    all_goals (conv => whnf)
    · exact nx0 (0 + 1) (by repeat (first | exact trivial | refine se0 rfl ?_)) rfl (by omega) ⟨by omega, fun i y1 hi h1 => by
        rcases Nat.lt_succ_iff_lt_or_eq.1 hi with h2 | rfl
        · exact he i y1 h2 h1
        · rw [hy] at h1; cases h1; first | exact h | assumption⟩
    all_goals
      have hp : placeN l uj = 0 := place_eq hk he (by first | (right; exact ⟨_, hy, h⟩) | (left; omega))
      apply fR' (unsL (withI l (uj, Tree.node um)))
      case hg => rfl
      case hc => exact cl_uns _
      case h => rfl
      all_goals first | (simp [withI, hp, unsL, unsD, Nat.min_eq_left hk, List.take_of_length_le]; done) | (simp [withI, hp, unsL, unsD, Nat.min_eq_left hk, List.take_of_length_le]; omega) | skip
    all_goals trace_state
  · repeat' (
     conv => whnf
     first
     | refine ifd (fun h => ?_) (fun h => ?_)
     | with_reducible refine ivW (by omega) (by omega) ?_
     | ((with_reducible refine exW (by omega) ?_); rintro ⟨yj, ⟨ym⟩⟩ hy; simp only [Int.toNat_natCast] at hy)
     | ((with_reducible apply drT 12); rfl)
     | ((with_reducible apply ob); ((first | rfl | assumption | omega | (unfold maxLen2; omega) | (dsimp only; omega) | (simp only [LN]; omega) | (simp; done) | (simp; omega)))))
    all_goals (conv => whnf)
    · exact nx0 (k + 1) (by repeat (first | exact trivial | refine se0 rfl ?_)) rfl (by omega) ⟨by omega, fun i y1 hi h1 => by
        rcases Nat.lt_succ_iff_lt_or_eq.1 hi with h2 | rfl
        · exact he i y1 h2 h1
        · rw [hy] at h1; cases h1; first | exact h | assumption⟩
    all_goals
      have hp : placeN l uj = k := place_eq hk he (by first | (right; exact ⟨_, hy, h⟩) | (left; omega))
      apply fR' (unsL (withI l (uj, Tree.node um)))
      case hg => rfl
      case hc => exact cl_uns _
      case h => rfl
      all_goals first | (simp [withI, hp, unsL, unsD, Nat.min_eq_left hk, List.take_of_length_le]; done) | (simp [withI, hp, unsL, unsD, Nat.min_eq_left hk, List.take_of_length_le]; omega) | skip
    all_goals trace_state

end Go.Proofs.YthfcfdlbnfcboaaDoor.Pw

/- R08.Perm. -/
set_option linter.unusedVariables false
set_option linter.unusedSimpArgs false
set_option maxHeartbeats 1000000
set_option maxRecDepth 10000
namespace Go.Proofs.YthfcfdlbnfcboaaDoor.Pw
open Go

/-- Perm after t steps: what is left, and what came out. -/
def perA (n k t : Nat) : Nat := k / factL (n - t - 1) % (n - t)
def perS (n k : Nat) : Nat → List Int × List Int
  | 0 => (oneI n, [])
  | t + 1 => ((perS n k t).1.take (perA n k t) ++ (perS n k t).1.drop (perA n k t + 1), (perS n k t).2 ++ [(perS n k t).1.getD (perA n k t) 0])
theorem perS_len (n k : Nat) : ∀ t, t ≤ n → (perS n k t).1.length = n - t ∧ (perS n k t).2.length = t
  | 0, _ => by simp [perS, one_len]
  | t + 1, h => by
    obtain ⟨h1, h2⟩ := perS_len n k t (by omega)
    have h3 : perA n k t < n - t := Nat.mod_lt _ (by omega)
    simp [perS, h1, h2]; omega
theorem fact_pos : ∀ n, 0 < factL n
  | 0 => by decide
  | n + 1 => Nat.mul_pos (by omega) (fact_pos n)
theorem vPermR (n k : Nat) (hn : n ≤ 12) (hk : k < 9223372036854775808) : Val Tryd.prog 13 [iD n, iD k] (fun r => r = intsD (perS n k n).2) := by
  refine Val.ofV ?_
  refine hc_ofS (okc Tryd.f13.ntmps 0) (fn := Tryd.f13) (cd := _) rfl rfl rfl rfl rfl rfl (fun hbd => ?_)
  repeat' (
   conv => whnf
   first
   | ((with_reducible refine hcI ?_); refine Val.call (vOne _ (by omega)) (.refl _) (ler _ _) rfl ?_; rintro r rfl))
  all_goals (conv => whnf)
  refine lpX (X := Nat) (fun t => [(1, iD k), (5, intsD (perS n k t).1), (6, .sl 0 0 t), (7, iD (n - t))]) (fun t => [.row .leaf (intsL (perS n k t).2)]) (fun t => t ≤ n) (fun t => n - t) ⟨_, nx (ρ := [0]) 0 (by repeat (first | exact trivial | refine seC rfl rfl ?_ | refine seL (leRow rfl rfl) rfl ?_)) (by repeat (first | exact trivial | refine shC rfl rfl ?_)) rfl rfl (Nat.lt_succ_self _) (Nat.zero_le _)⟩ ?_
  intro t ht
  obtain ⟨h1, h2⟩ := perS_len n k t ht
  have h10 : (intsL (perS n k t).1).length = n - t := by rw [intsL_len, h1]
  have h20 : (intsL (perS n k t).2).length = t := by rw [intsL_len, h2]
  rcases Nat.lt_or_ge t n with hlt | hge
  · obtain ⟨m, hm⟩ : ∃ m, n - t = m + 1 := ⟨n - t - 1, by omega⟩
    rw [hm]
    repeat' (
     conv => whnf
     first
     | refine ifd (fun h => ?_) (fun h => ?_)
     | with_reducible refine ivW (by omega) (by omega) ?_)
    all_goals (conv => whnf)
    · have hf0 : 0 < factL m := fact_pos m
      have hf1 : ((factL m : Nat) : Int) ≠ 0 := by omega
      have hp : perA n k t = k / factL m % (m + 1) := by unfold perA; rw [show n - t - 1 = m by omega, hm]
      have hpl : k / factL m % (m + 1) < m + 1 := Nat.mod_lt _ (by omega)
      have hdv := Nat.div_le_self k (factL m)
      refine Val.call (vFact m (by omega)) (.refl _) (by rw [show ((m + 1 : Nat) : Int) - 1 = (m : Int) by omega]; exact ler _ _) rfl ?_
      rintro r rfl
      repeat' (
       conv => whnf
       first
       | with_reducible refine ivW (by omega) (by omega) ?_
       | ((with_reducible refine exI' (by omega) ?_); intro y hy; (try simp only [Int.toNat_natCast, Nat.zero_add] at hy); (try have hyr := hR _ (List.mem_of_getElem? hy)))
       | (refine ivDiv (a := k) (b := factL m) (by omega) ?_)
       | (refine ivMod (a := k / factL m) (b := m + 1) ?_)
       | ((with_reducible refine hcI ?_); refine Val.call (vWithout _ _ (by omega) (by omega)) (.refl _) (ler _ _) rfl ?_; rintro r rfl)
       | ((with_reducible apply ob); ((first | rfl | assumption | omega | (unfold maxLen2; omega) | (dsimp only; omega) | (simp only [LN]; omega) | (simp; done) | (simp; omega)))))
      all_goals (conv => whnf)
      have e1 : (perS n k (t + 1)).1 = (perS n k t).1.take (k / factL m % (m + 1)) ++ (perS n k t).1.drop (k / factL m % (m + 1) + 1) := by rw [perS, hp]
      have e2 : (perS n k (t + 1)).2 = (perS n k t).2 ++ [y] := by rw [perS, hp, getD_of hy]
      have e3 : iD (n - (t + 1)) = .int .i64 (((m + 1 : Nat) : Int) - 1) := by
        rw [show n - (t + 1) = m by omega, show ((m + 1 : Nat) : Int) - 1 = (m : Int) by omega]; rfl
      exact nx (ρ := [2]) (t + 1) (by repeat (first | exact trivial | refine seC (by rw [e1]; rfl) rfl ?_ | refine seC (by rw [e3]; rfl) rfl ?_ | refine seC rfl rfl ?_)) (shR rfl (by rw [e2]; simp [intsL, List.take_of_length_le, h2]) (cl_ints _) trivial) rfl rfl (by omega) (by omega)
    · exact absurd h (by omega)
  · have hz : n - t = 0 := by omega
    have htn : t = n := by omega
    rw [hz]
    all_goals (conv => whnf)
    subst htn
    apply fR' (intsL (perS t k t).2)
    case hg => rfl
    case hc => exact cl_ints _
    case h => rfl
    · rfl
    · exact h20

end Go.Proofs.YthfcfdlbnfcboaaDoor.Pw

/- Automorphisms: what maps and trees say (plain law). -/
set_option linter.unusedVariables false
set_option linter.unusedSimpArgs false
set_option maxHeartbeats 1000000
set_option maxRecDepth 10000
namespace Go.Proofs.YthfcfdlbnfcboaaDoor.Pw
open Go

/-- A structure as the library keeps it, with few points. -/
structure Inc.Fam (x : Inc) : Prop where
  ok : x.Ok
  v7 : x.V ≤ 7
  s : Srt x.B
  lt : ∀ b ∈ x.B, b < 2 ^ x.V

theorem traceK_bit (b : Nat) (l : List Int) (q : Nat) : ∀ k, (traceK b l k).testBit q = (decide (q < k) && b.testBit (l.getD q 0).toNat)
  | 0 => by simp [traceK]
  | k + 1 => by
    have h1 : ∀ y : Nat, (y &&& 1).testBit (q - k) = (decide (q - k = 0) && y.testBit 0) := fun y => by
      rw [Nat.testBit_and]
      rcases Nat.eq_zero_or_pos (q - k) with h | h
      · rw [h]; simp
      · have : Nat.testBit 1 (q - k) = false := by
          have e : (1 : Nat) = 2 ^ 0 := rfl
          rw [e, Nat.testBit_two_pow]; simp; omega
        rw [this]; simp; omega
    rw [traceK, Nat.testBit_or, traceK_bit b l q k, Nat.testBit_shiftLeft, h1, Nat.testBit_shiftRight]
    rcases Nat.lt_trichotomy q k with h | h | h
    · have a1 : ¬ q ≥ k := by omega
      have a2 : q < k + 1 := by omega
      simp [h, a1, a2]
    · subst h; simp
    · have a1 : ¬ q < k := by omega
      have a2 : ¬ q < k + 1 := by omega
      have a3 : q - k ≠ 0 := by omega
      simp [a1, a2, a3]
theorem traceB_bit (l : List Int) (b q : Nat) : (traceB l b).testBit q = (decide (q < l.length) && b.testBit (l.getD q 0).toNat) := traceK_bit b l q _
theorem trace_take (l : List Int) (b k : Nat) (hk : k ≤ l.length) : traceB (l.take k) b = traceB l b % 2 ^ k := by
  apply Nat.eq_of_testBit_eq
  intro q
  rw [Nat.testBit_mod_two_pow, traceB_bit, traceB_bit, List.length_take, Nat.min_eq_left hk]
  by_cases h : q < k
  · have h2 : q < l.length := by omega
    have e : (l.take k).getD q 0 = l.getD q 0 := by simp [List.getD, List.getElem?_take, h]
    simp [h, h2, e]
  · simp [h]
theorem one_getD (n q : Nat) (h : q < n) : (oneI n).getD q 0 = (q : Int) := by
  have : (oneI n)[q]? = some (q : Int) := by simp [oneI, natsI, h]
  exact getD_of this
theorem trace_one (n b : Nat) : traceB (oneI n) b = b % 2 ^ n := by
  apply Nat.eq_of_testBit_eq
  intro q
  rw [Nat.testBit_mod_two_pow, traceB_bit, one_len]
  by_cases h : q < n
  · rw [one_getD n q h]; simp
  · simp [h]
theorem oneT (n k : Nat) (h : k ≤ n) : (oneI n).take k = oneI k := by
  simp [oneI, natsI, ← List.map_take, List.take_range, Nat.min_eq_left h]
theorem one_dif (k n : Nat) (h : k ≤ n) : Dif (oneI k) n := by
  refine ⟨fun x hx => ?_, ?_⟩
  · simp only [oneI, natsI, List.mem_map, List.mem_range] at hx
    obtain ⟨y, hy, rfl⟩ := hx
    omega
  · unfold oneI natsI
    exact List.Pairwise.map _ (fun a b (hab : a ≠ b) => by intro e; exact hab (by omega)) List.nodup_range
theorem dif_take {m : List Int} {n : Int} (h : Dif m n) (k : Nat) : Dif (m.take k) n := ⟨fun x hx => h.1 x (List.mem_of_mem_take hx), h.2.sublist (List.take_sublist k m)⟩
theorem sortL_iff (l m : List Nat) : sortL l = sortL m ↔ l.Perm m :=
  ⟨fun h => ((sortL_perm l).symm.trans (h ▸ List.Perm.refl _)).trans (sortL_perm m), fun h => sort_uniq ((sortL_perm l).trans h) (sortL_srt l)⟩

/-- The traces of a list are those of the first points. -/
def OkM (x : Inc) (m : List Int) : Prop := (x.B.map (traceB (oneI m.length))).Perm (x.B.map (traceB m))
theorem fails_iff (x : Inc) {m : List Int} (hd : Dif m x.V) : ¬ Fails x x m ↔ OkM x m := by
  have hl := dif_len hd
  have h1 := one_dif m.length x.V hl
  unfold Fails tracesL OkM
  rw [if_pos h1, if_pos hd, ← sortL_iff]
  simp
def Aut (x : Inc) (g : List Int) : Prop := Pm g x.V ∧ OkM x g
theorem okM_take {x : Inc} {g : List Int} (h : OkM x g) (k : Nat) (hk : k ≤ g.length) : OkM x (g.take k) := by
  have h1 := h.map (fun t => t % 2 ^ k)
  unfold OkM
  rw [List.map_map, List.map_map] at h1
  rw [List.length_take, Nat.min_eq_left hk]
  have e1 : x.B.map (traceB (oneI k)) = x.B.map ((fun t => t % 2 ^ k) ∘ traceB (oneI g.length)) := List.map_congr_left fun b _ => by
    show _ = traceB (oneI g.length) b % 2 ^ k
    rw [← trace_take _ _ _ (by rw [one_len]; exact hk), oneT _ _ hk]
  have e2 : x.B.map (traceB (g.take k)) = x.B.map ((fun t => t % 2 ^ k) ∘ traceB g) := List.map_congr_left fun b _ => trace_take _ _ _ hk
  rw [e1, e2]; exact h1
theorem aut_take {x : Inc} {g : List Int} (h : Aut x g) (k : Nat) : ¬ Fails x x (g.take k) := by
  rw [fails_iff x (dif_take h.1.2 k)]
  rcases Nat.le_total k g.length with hk | hk
  · exact okM_take h.2 k hk
  · rw [List.take_of_length_le hk]; exact h.2
theorem firstS_no {α : Type} {F : Nat → Option α} : ∀ {l : List Nat}, firstS F l = none → ∀ p ∈ l, F p = none
  | [], _, p, hp => by cases hp
  | q :: ps, h, p, hp => by
    cases hq : F q with
    | some y => simp [firstS, hq] at h
    | none =>
      simp only [firstS, hq] at h
      rcases List.mem_cons.1 hp with rfl | hp
      · exact hq
      · exact firstS_no h p hp
theorem allS_no {α : Type} {F : Nat → Option α} : ∀ {l : List Nat}, allS F l = none → ∃ p ∈ l, F p = none
  | [], h => by cases h
  | q :: ps, h => by
    cases hq : F q with
    | none => exact ⟨q, List.mem_cons_self, hq⟩
    | some y =>
      cases ht : allS F ps with
      | some ts => simp [allS, hq, ht] at h
      | none => obtain ⟨p, hp, e⟩ := allS_no ht; exact ⟨p, List.mem_cons_of_mem _ hp, e⟩
theorem allS_get {α : Type} {F : Nat → Option α} : ∀ {l : List Nat} {ts : List α}, allS F l = some ts → ts.length = l.length ∧ ∀ (i p : Nat) (t : α), l[i]? = some p → ts[i]? = some t → F p = some t
  | [], ts, h => by cases h; exact ⟨rfl, by simp⟩
  | q :: ps, ts, h => by
    cases hq : F q with
    | none => simp [allS, hq] at h
    | some y =>
      cases ht : allS F ps with
      | none => simp [allS, hq, ht] at h
      | some us =>
        simp only [allS, hq, ht] at h
        cases h
        obtain ⟨h1, h2⟩ := allS_get ht
        refine ⟨by simp [h1], ?_⟩
        rintro (_ | i) p t hp ht
        · simp at hp ht; subst hp; subst ht; exact hq
        · exact h2 i p t (by simpa using hp) (by simpa using ht)
theorem take_snoc {g m : List Int} {p : Int} (h : g.take (m.length + 1) = m ++ [p]) : g.take m.length = m := by
  have := congrArg (List.take m.length) h
  rwa [List.take_take, Nat.min_eq_left (by omega), List.take_left] at this
theorem take_more {g m : List Int} (h : g.take m.length = m) (hl : m.length < g.length) : g.take (m.length + 1) = m ++ [g[m.length]] := by
  rw [List.take_add_one, h, List.getElem?_eq_getElem hl]; rfl
/-- What Map finds is an automorphism. -/
theorem look_aut (x : Inc) (hx : x.V ≤ 7) : ∀ f m g, m.length + f = x.V → Dif m x.V → lookA x x f m = some g → Aut x g ∧ g.take m.length = m
  | 0, m, g, hl, hd, h => by
    unfold lookA at h
    by_cases hf : Fails x x m
    · rw [if_pos hf] at h; cases h
    · rw [if_neg hf] at h; cases h
      exact ⟨⟨⟨by omega, hd⟩, (fails_iff x hd).1 hf⟩, List.take_length⟩
  | f + 1, m, g, hl, hd, h => by
    unfold lookA at h
    by_cases hf : Fails x x m
    · rw [if_pos hf] at h; cases h
    · rw [if_neg hf] at h
      obtain ⟨p, hp, e⟩ := firstS_get h
      have hp2 := (restL_mem (by omega) hd.1 p).1 hp
      have hd2 : Dif (m ++ [(p : Int)]) x.V := dif_snoc (by omega) hd hp
      obtain ⟨h1, h2⟩ := look_aut x hx f _ g (by simp; omega) hd2 e
      refine ⟨h1, take_snoc (p := (p : Int)) ?_⟩
      rw [← h2]; simp
/-- The point of an automorphism behind a prefix is left. -/
theorem aut_next {x : Inc} (hx : x.V ≤ 7) {g m : List Int} (hg : Pm g x.V) (hm : g.take m.length = m) (hl : m.length < x.V) : ∃ p : Nat, p ∈ restL x.V m ∧ g.take (m.length + 1) = m ++ [(p : Int)] := by
  have hlg : m.length < g.length := by rw [hg.1]; exact hl
  have hr := hg.2.1 _ (List.getElem_mem hlg)
  have hd : Dif m x.V := hm ▸ dif_take hg.2 m.length
  have e : ((g[m.length].toNat : Nat) : Int) = g[m.length] := by omega
  refine ⟨g[m.length].toNat, (restL_mem (by omega) hd.1 _).2 ⟨by omega, ?_⟩, by rw [e]; exact take_more hm hlg⟩
  rw [e]
  intro hmem
  have h2 : (g.take (m.length + 1)).Nodup := hg.2.2.sublist (List.take_sublist _ _)
  rw [take_more hm hlg] at h2
  exact (List.nodup_append.1 h2).2.2 _ hmem _ (List.mem_singleton.2 rfl) rfl
theorem look_ne (x : Inc) (hx : x.V ≤ 7) (g : List Int) (hg : Aut x g) : ∀ f m, m.length + f = x.V → g.take m.length = m → lookA x x f m ≠ none
  | 0, m, hl, hm => by
    have h := aut_take hg m.length
    rw [hm] at h
    simp [lookA, h]
  | f + 1, m, hl, hm => by
    have h := aut_take hg m.length
    rw [hm] at h
    obtain ⟨p, hp, hp2⟩ := aut_next hx hg.1 hm (by omega)
    unfold lookA
    rw [if_neg h]
    intro hn
    exact look_ne x hx g hg f (m ++ [(p : Int)]) (by simp; omega) (by rw [List.length_append]; exact hp2) (firstS_no hn p hp)
/-- A tree that is accepted leaves no automorphism. -/
theorem acc_no (x : Inc) (hx : x.V ≤ 7) (g : List Int) (hg : Aut x g) : ∀ f m t, m.length + f = x.V → g.take m.length = m → accM x x f m t = false
  | 0, m, t, hl, hm => by
    have h := aut_take hg m.length
    rw [hm] at h
    unfold accM
    by_cases hk : t.kids.length = 0
    · rw [if_pos hk]; exact decide_eq_false h
    · rw [if_neg hk]
  | f + 1, m, t, hl, hm => by
    have h := aut_take hg m.length
    rw [hm] at h
    obtain ⟨p, hp, hp2⟩ := aut_next hx hg.1 hm (by omega)
    unfold accM
    by_cases hk : t.kids.length = 0
    · rw [if_pos hk]; exact decide_eq_false h
    · rw [if_neg hk]
      by_cases hk2 : t.kids.length = f + 1
      · rw [if_neg (by simp [hk2])]
        have hd : Dif m x.V := hm ▸ dif_take hg.1.2 m.length
        have hrl := restL_len (V := x.V) (by omega) hd
        obtain ⟨i, hi, e⟩ := List.getElem_of_mem hp
        refine allB2_false (i := i) (p := p) (t := t.kids[i]'(by omega)) (by rw [List.getElem?_eq_getElem hi, e]) (List.getElem?_eq_getElem (by omega)) ?_
        exact acc_no x hx g hg f _ _ (by simp; omega) (by rw [List.length_append]; exact hp2)
      · rw [if_pos (by simp [hk2])]
theorem ref_acc (x : Inc) (hx : x.V ≤ 7) : ∀ f m t, m.length + f = x.V → Dif m x.V → refM x x f m = some t → accM x x f m t = true
  | 0, m, t, hl, hd, h => by
    unfold refM at h
    by_cases hf : Fails x x m
    · rw [if_pos hf] at h; cases h
      show (if _ then _ else _) = _
      rw [if_pos (by rfl)]; exact decide_eq_true hf
    · rw [if_neg hf] at h; cases h
  | f + 1, m, t, hl, hd, h => by
    unfold refM at h
    by_cases hf : Fails x x m
    · rw [if_pos hf] at h; cases h
      show (if _ then _ else _) = _
      rw [if_pos (by rfl)]; exact decide_eq_true hf
    · rw [if_neg hf] at h
      cases ha : allS (fun p => refM x x f (m ++ [(p : Int)])) (restL x.V m) with
      | none => rw [ha] at h; cases h
      | some ts =>
        rw [ha] at h; cases h
        obtain ⟨h1, h2⟩ := allS_get ha
        have hrl := restL_len (V := x.V) (by omega) hd
        unfold accM
        rw [if_neg (show ¬ (Tree.node ts).kids.length = 0 by show ¬ ts.length = 0; omega), if_neg (by simp only [Tree.kids]; omega)]
        refine allB2_true fun i p t hp ht => ?_
        have hp2 := (restL_mem (by omega) hd.1 p).1 (List.mem_of_getElem? hp)
        exact ref_acc x hx f _ _ (by simp; omega) (dif_snoc (by omega) hd (List.mem_of_getElem? hp)) (h2 i p t hp ht)
theorem ref_none (x : Inc) : ∀ f m, refM x x f m = none → lookA x x f m ≠ none
  | 0, m, h => by
    unfold refM at h
    by_cases hf : Fails x x m
    · rw [if_pos hf] at h; cases h
    · unfold lookA; rw [if_neg hf]; simp
  | f + 1, m, h => by
    unfold refM at h
    by_cases hf : Fails x x m
    · rw [if_pos hf] at h; cases h
    · rw [if_neg hf] at h
      cases ha : allS (fun p => refM x x f (m ++ [(p : Int)])) (restL x.V m) with
      | some ts => rw [ha] at h; cases h
      | none =>
        obtain ⟨p, hp, e⟩ := allS_no ha
        unfold lookA; rw [if_neg hf]
        intro hn
        exact ref_none x f _ e (firstS_no hn p hp)

/-- The first of the points that are left. -/
theorem rest_one (V k : Nat) (hV : V ≤ 7) (h : k < V) : ∃ l, restL V (oneI k) = k :: l := by
  have hd := one_dif k V (by omega)
  have hs : (restL V (oneI k)).Pairwise (· < ·) := List.Pairwise.filter _ List.pairwise_lt_range
  have hm := fun p => restL_mem (V := V) (m := oneI k) (by omega) hd.1 p
  have hk : k ∈ restL V (oneI k) := (hm k).2 ⟨h, fun hh => by
    simp only [oneI, natsI, List.mem_map, List.mem_range] at hh
    obtain ⟨y, hy, e⟩ := hh
    omega⟩
  cases hl : restL V (oneI k) with
  | nil => rw [hl] at hk; cases hk
  | cons a l =>
    refine ⟨l, ?_⟩
    rw [hl] at hs hk
    rcases List.mem_cons.1 hk with e | e
    · rw [e]
    · have h1 := (List.pairwise_cons.1 hs).1 k e
      have h2 := (hm a).1 (hl ▸ List.mem_cons_self)
      exact absurd (List.mem_map.2 ⟨a, List.mem_range.2 h1, rfl⟩) h2.2
theorem one_snoc (k : Nat) : oneI k ++ [(k : Int)] = oneI (k + 1) := by simp only [oneI, natsI, List.range_succ, List.map_append, List.map_cons, List.map_nil]
theorem okM_one (x : Inc) (k : Nat) : OkM x (oneI k) := by unfold OkM; rw [one_len]
theorem look_one (x : Inc) (hx : x.V ≤ 7) : ∀ f k, k + f = x.V → lookA x x f (oneI k) = some (oneI x.V)
  | 0, k, h => by
    have : k = x.V := by omega
    subst this
    have hn := (fails_iff x (one_dif x.V x.V (Nat.le_refl _))).2 (okM_one x x.V)
    simp [lookA, hn]
  | f + 1, k, h => by
    have hn := (fails_iff x (one_dif k x.V (by omega))).2 (okM_one x k)
    obtain ⟨l, hl⟩ := rest_one x.V k hx (by omega)
    unfold lookA
    rw [if_neg hn, hl]
    have := look_one x hx f (k + 1) (by omega)
    simp only [firstS, one_snoc, this]

/-- Is, and automorphisms. -/
theorem mov_bit (g : List Int) (q : Nat) : ∀ (l : List Nat) (o : Nat), (l.foldl (fun o p => o ||| 1 <<< (g.getD p 0).toNat) o).testBit q = true ↔ (o.testBit q = true ∨ ∃ p ∈ l, (g.getD p 0).toNat = q)
  | [], o => by simp
  | p :: l, o => by
    rw [List.foldl_cons, mov_bit g q l]
    rw [Nat.testBit_or, Nat.one_shiftLeft, Nat.testBit_two_pow]
    simp only [Bool.or_eq_true, decide_eq_true_eq, List.mem_cons, exists_eq_or_imp]
    exact or_assoc
theorem bitsL_mem (b q : Nat) : q ∈ bitsL b ↔ q < 64 ∧ b.testBit q = true := by unfold bitsL; rw [List.mem_filter, List.mem_range]
theorem bits_lt {b V : Nat} (hb : b < 2 ^ V) {q : Nat} (h : b.testBit q = true) : q < V := by
  rcases Nat.lt_or_ge q V with h1 | h1
  · exact h1
  · rw [Nat.testBit_lt_two_pow (Nat.lt_of_lt_of_le hb (Nat.pow_le_pow_right (by decide) h1))] at h; cases h
theorem pm_inj {g : List Int} {V : Nat} (hg : Pm g V) {p q : Nat} (hp : p < V) (hq : q < V) (h : (g.getD p 0).toNat = (g.getD q 0).toNat) : p = q := by
  have hp2 : p < g.length := by rw [hg.1]; exact hp
  have hq2 : q < g.length := by rw [hg.1]; exact hq
  rw [getD_of (List.getElem?_eq_getElem hp2), getD_of (List.getElem?_eq_getElem hq2)] at h
  have h1 := hg.2.1 _ (List.getElem_mem hp2)
  have h2 := hg.2.1 _ (List.getElem_mem hq2)
  have e : g[p] = g[q] := by omega
  exact (List.getElem_inj hg.2.2).1 e
theorem trace_mov {g : List Int} {V b : Nat} (hV : V ≤ 64) (hg : Pm g V) (hb : b < 2 ^ V) : traceB g (movL g (bitsL b)) = b := by
  apply Nat.eq_of_testBit_eq
  intro q
  rw [traceB_bit, hg.1]
  have h1 := mov_bit g (g.getD q 0).toNat (bitsL b) 0
  rw [Bool.eq_iff_iff, Bool.and_eq_true, decide_eq_true_eq]
  unfold movL
  rw [h1]
  simp only [Nat.zero_testBit, Bool.false_eq_true, false_or]
  constructor
  · rintro ⟨hq, p, hp, e⟩
    rw [bitsL_mem] at hp
    have := pm_inj hg (bits_lt hb hp.2) hq e
    rw [← this]; exact hp.2
  · intro h
    exact ⟨bits_lt hb h, q, (bitsL_mem _ _).2 ⟨by have := bits_lt hb h; omega, h⟩, rfl⟩
theorem trace_lt (g : List Int) (b : Nat) : traceB g b < 2 ^ g.length := by
  refine Nat.lt_pow_two_of_testBit _ fun i hi => ?_
  rw [traceB_bit]
  have : ¬ i < g.length := by omega
  simp [this]
theorem trace_inj {g : List Int} {V b c : Nat} (hg : Pm g V) (hV : V ≤ 64) (hb : b < 2 ^ V) (hc : c < 2 ^ V) (h : traceB g b = traceB g c) : b = c := by
  have hs : ∀ q, q < V → ∃ p, p < V ∧ (g.getD p 0).toNat = q := by
    have hnd : (g.map Int.toNat).Nodup := (nd_map (fun a ha b hb e => by have := hg.2.1 a ha; have := hg.2.1 b hb; omega)).2 hg.2.2
    have h1 := (count_lt V (g.map Int.toNat) (fun x hx => by
      obtain ⟨y, hy, rfl⟩ := List.mem_map.1 hx
      have := hg.2.1 y hy; omega) (by rw [List.length_map]; exact hg.1)).2 hnd
    intro q hq
    obtain ⟨y, hy, e⟩ := List.mem_map.1 (h1 q hq)
    obtain ⟨p, hp, rfl⟩ := List.getElem_of_mem hy
    exact ⟨p, by rw [← hg.1]; exact hp, by rw [getD_of (List.getElem?_eq_getElem hp)]; exact e⟩
  apply Nat.eq_of_testBit_eq
  intro q
  rcases Nat.lt_or_ge q V with hq | hq
  · obtain ⟨p, hp, e⟩ := hs q hq
    have h1 := congrArg (fun t => t.testBit p) h
    simp only [traceB_bit, hg.1, hp, decide_true, Bool.true_and, e] at h1
    exact h1
  · rw [Nat.testBit_lt_two_pow (Nat.lt_of_lt_of_le hb (Nat.pow_le_pow_right (by decide) hq)), Nat.testBit_lt_two_pow (Nat.lt_of_lt_of_le hc (Nat.pow_le_pow_right (by decide) hq))]
theorem mov_lt {g : List Int} {V : Nat} (hg : Pm g V) (l : List Nat) (hl : ∀ p ∈ l, p < V) : movL g l < 2 ^ V := by
  refine Nat.lt_pow_two_of_testBit _ fun i hi => ?_
  cases hb : (movL g l).testBit i with
  | false => rfl
  | true =>
    rcases (mov_bit g i l 0).1 hb with h | ⟨p, hp, e⟩
    · simp at h
    · have hp2 : p < g.length := by rw [hg.1]; exact hl p hp
      rw [getD_of (List.getElem?_eq_getElem hp2)] at e
      have := hg.2.1 _ (List.getElem_mem hp2)
      omega
theorem mov_trace {g : List Int} {V b : Nat} (hV : V ≤ 64) (hg : Pm g V) (hb : b < 2 ^ V) : movL g (bitsL (traceB g b)) = b := by
  have h1 : traceB g b < 2 ^ V := by have := trace_lt g b; rwa [hg.1] at this
  exact trace_inj hg hV (mov_lt hg _ fun p hp => bits_lt h1 ((bitsL_mem _ _).1 hp).2) hb (trace_mov hV hg h1)
theorem mapB_one {x : Inc} (hx : x.Fam) : x.B.map (traceB (oneI x.V)) = x.B := by
  conv => rhs; rw [← List.map_id x.B]
  exact List.map_congr_left fun b hb => by rw [trace_one, Nat.mod_eq_of_lt (hx.lt b hb)]; rfl
theorem isG_iff {x : Inc} (hx : x.Fam) (g : List Int) : isG x g = true ↔ Aut x g := by
  have hv := hx.v7
  have hv1 := hx.ok.v1
  have h1 := mapB_one hx
  unfold isG Aut imageI OkM
  rw [decide_eq_true_eq]
  constructor
  · rintro ⟨hl, ⟨h3, h4, h5⟩, h6⟩
    have hd : Dif g x.V := by rw [← hl]; exact h5
    have hg : Pm g x.V := ⟨hl, hd⟩
    rw [if_pos hg] at h6
    refine ⟨hg, ?_⟩
    rw [hl, h1]
    have h7 : (movB g x.B).Perm x.B := by have := sortL_perm (movB g x.B); rw [show sortL (movB g x.B) = x.B from h6] at this; exact this.symm
    have h8 := h7.map (traceB g)
    refine List.Perm.trans ?_ h8
    unfold movB
    rw [List.map_map]
    refine List.Perm.of_eq ?_
    conv => lhs; rw [← List.map_id x.B]
    exact List.map_congr_left fun b hb => (trace_mov (by omega) hg (hx.lt b hb)).symm
  · rintro ⟨hg, h⟩
    have hl := hg.1
    rw [hl, h1] at h
    refine ⟨hl, ⟨by omega, by omega, by rw [hl]; exact hg.2⟩, ?_⟩
    rw [if_pos hg]
    show sortL (movB g x.B) = x.B
    refine (sort_uniq ?_ hx.s).symm
    have h8 := h.map (fun b => movL g (bitsL b))
    refine List.Perm.trans ?_ h8.symm
    rw [List.map_map]
    refine List.Perm.of_eq ?_
    conv => lhs; rw [← List.map_id x.B]
    exact List.map_congr_left fun b hb => (mov_trace (by omega) hg (hx.lt b hb)).symm

end Go.Proofs.YthfcfdlbnfcboaaDoor.Pw

/- What Check of a proof computes. -/
set_option linter.unusedVariables false
set_option linter.unusedSimpArgs false
set_option maxHeartbeats 1000000
set_option maxRecDepth 10000
namespace Go.Proofs.YthfcfdlbnfcboaaDoor.Pw
open Go

abbrev Lvl := List (Int × List Int) × List (Int × Tree)
def lvlI (l : Lvl) : D := .agg [.list false (.agg [.leaf, .leaf]) (rchL l.1), .list false (.agg [.leaf, .agg [.leaf]]) (unsL l.2)]
def lvlsL (L : List Lvl) : List D := L.map lvlI
def prfI (L : List Lvl) : D := .agg [.list false (.agg [.leaf, .leaf]) (lvlsL L)]
@[simp] theorem lvlsL_len (L : List Lvl) : (lvlsL L).length = L.length := by simp [lvlsL]
theorem cl_lvls (L : List Lvl) : clDs (lvlsL L) = true := cl_map (fun y => rfl) L
def yesB (x : Inc) (i j : Nat) : List (Int × List Int) → Bool
  | [] => false
  | y :: _ => decide (y.1 = (j : Int)) && reachB x i y.1 y.2
def noB (x : Inc) (i j : Nat) : List (Int × Tree) → Bool
  | [] => false
  | u :: _ => decide (u.1 = (j : Int)) && chkM x x (preI i j) u.2
def lvRun (x : Inc) (i : Nat) : Nat → Nat → List (Int × List Int) → List (Int × Tree) → Bool
  | 0, _, ys, ns => decide (ys.length + ns.length = 0)
  | f + 1, j, ys, ns => if yesB x i j ys = true then lvRun x i f (j + 1) ys.tail ns else if noB x i j ns = true then lvRun x i f (j + 1) ys ns.tail else false
/-- The product of what the levels reach, or 0. -/
def chkAll (x : Inc) : Nat → Nat → List Lvl → Nat
  | _, n, [] => n
  | i, n, l :: L => if lvRun x i (x.V - i) i l.1 l.2 = true then chkAll x (i + 1) (n * l.1.length) L else 0
def chkN (x : Inc) (L : List Lvl) : Nat := if L.length = x.V then chkAll x 0 1 L else 0
def chkD (n : Nat) : D := .tuple [iD n, .int .i64 (if n = 0 then 200 else 0)]

end Go.Proofs.YthfcfdlbnfcboaaDoor.Pw

/- Whatever is accepted proves the number of automorphisms (plain law). -/
set_option linter.unusedVariables false
set_option linter.unusedSimpArgs false
set_option maxHeartbeats 1000000
set_option maxRecDepth 10000
namespace Go.Proofs.YthfcfdlbnfcboaaDoor.Pw
open Go

theorem mapN_iff {x : Inc} (hx : x.V ≤ 7) {i j : Nat} (hij : i ≤ j) (hj : j < x.V) : (mapN x x (preI i j)).isSome = true ↔ ∃ g, Aut x g ∧ g.take (i + 1) = preI i j := by
  have hd := pre_dif i j x.V hij hj
  have hl := pre_len i j
  unfold mapN
  constructor
  · intro h
    obtain ⟨g, hg⟩ := Option.isSome_iff_exists.1 h
    obtain ⟨h1, h2⟩ := look_aut x hx _ _ g (by omega) hd hg
    exact ⟨g, h1, by rw [← hl]; exact h2⟩
  · rintro ⟨g, hg, h⟩
    have := look_ne x hx g hg (x.V - (preI i j).length) (preI i j) (by omega) (by rw [hl]; exact h)
    cases he : lookA x x (x.V - (preI i j).length) (preI i j) with
    | none => exact absurd he this
    | some g => rfl
theorem chkM_no {x : Inc} (hx : x.V ≤ 7) {i j : Nat} (hij : i ≤ j) (hj : j < x.V) {t : Tree} (h : chkM x x (preI i j) t = true) : (mapN x x (preI i j)).isSome = false := by
  cases hm : (mapN x x (preI i j)).isSome with
  | false => rfl
  | true =>
    obtain ⟨g, hg, h2⟩ := (mapN_iff hx hij hj).1 hm
    have hl := pre_len i j
    have := acc_no x hx g hg (x.V - (preI i j).length) (preI i j) t (by omega) (by rw [hl]; exact h2)
    unfold chkM at h
    rw [this] at h; cases h
theorem pre_one (k : Nat) (h : 1 ≤ k) : preI (k - 1) (k - 1) = oneI k := by
  unfold preI
  rw [one_snoc, Nat.sub_add_cancel h]
theorem reach_aut {x : Inc} (hx : x.Fam) {i j : Nat} (hij : i ≤ j) (hj : j < x.V) {m : List Int} (h : reachB x i (j : Int) m = true) : Aut x m ∧ m.take (i + 1) = preI i j := by
  unfold reachB at h
  simp only [Bool.and_eq_true, decide_eq_true_eq] at h
  obtain ⟨⟨⟨h1, h2⟩, h3⟩, h4⟩ := h
  have ha := (isG_iff hx m).1 h1
  have hv1 := hx.ok.v1
  rw [pre_one x.V hv1, oneT x.V i (by omega)] at h2
  refine ⟨ha, ?_⟩
  have hl : i < m.length := by rw [ha.1.1]; omega
  rw [getD_of (List.getElem?_eq_getElem hl)] at h3
  rw [List.take_add_one, h2, List.getElem?_eq_getElem hl, h3]; rfl
/-- What Map of a level returns is reached. -/
theorem map_reach {x : Inc} (hx : x.Fam) {i j : Nat} (hij : i ≤ j) (hj : j < x.V) {m : List Int} (h : mapN x x (preI i j) = some m) : reachB x i (j : Int) m = true := by
  have hd := pre_dif i j x.V hij hj
  have hl := pre_len i j
  have hv1 := hx.ok.v1
  unfold mapN at h
  obtain ⟨h1, h2⟩ := look_aut x hx.v7 _ _ m (by omega) hd h
  rw [hl] at h2
  have hm : i < m.length := by rw [h1.1.1]; omega
  have h3 := congrArg (List.take i) h2
  rw [List.take_take, Nat.min_eq_left (by omega)] at h3
  have h4 : (preI i j).take i = oneI i := by
    unfold preI; rw [List.take_append_of_le_length (by rw [one_len]; omega), List.take_of_length_le (by rw [one_len]; omega)]
  have h5 : m[i]? = some (j : Int) := by
    have e := congrArg (fun l => l[i]?) h2
    simp only [List.getElem?_take, Nat.lt_succ_self, if_pos] at e
    rw [e]
    unfold preI
    rw [List.getElem?_append_right (by rw [one_len]; omega), one_len]; simp
  unfold reachB
  simp only [Bool.and_eq_true, decide_eq_true_eq]
  refine ⟨⟨⟨(isG_iff hx m).2 h1, ?_⟩, getD_of h5⟩, ?_⟩
  · rw [h3, h4, pre_one x.V hv1, oneT x.V i (by omega)]
  · rw [Bool.or_eq_true, decide_eq_true_eq, decide_eq_true_eq]
    by_cases hji : j = i
    · right
      subst hji
      have e : preI j j = oneI (j + 1) := by unfold preI; exact one_snoc j
      rw [e, one_len, look_one x hx.v7 _ (j + 1) (by omega)] at h
      cases h
      rw [pre_one x.V hv1]
    · left; intro e; exact hji (by omega)
theorem prv_chk {x : Inc} (hx : x.V ≤ 7) {i j : Nat} (hij : i ≤ j) (hj : j < x.V) (h : mapN x x (preI i j) = none) : chkM x x (preI i j) (prvT x x (preI i j)) = true := by
  have hd := pre_dif i j x.V hij hj
  have hl := pre_len i j
  unfold prvT chkM
  unfold mapN at h
  cases hr : refM x x (x.V - (preI i j).length) (preI i j) with
  | none => exact absurd h (ref_none x _ _ hr)
  | some t => exact ref_acc x hx _ _ t (by omega) hd hr

/-- The number of points that automorphisms reach at a level. -/
def cntL (x : Inc) (i j f : Nat) : Nat := (List.range' j f).countP fun q => (mapN x x (preI i q)).isSome
theorem cntL_succ (x : Inc) (i j f : Nat) : cntL x i j (f + 1) = cntL x i (j + 1) f + (if (mapN x x (preI i j)).isSome = true then 1 else 0) := by
  unfold cntL
  rw [List.range'_succ, List.countP_cons]
theorem lvRun_len {x : Inc} (hx : x.Fam) {i : Nat} : ∀ f j ys ns, i ≤ j → j + f = x.V → lvRun x i f j ys ns = true → ys.length = cntL x i j f
  | 0, j, ys, ns, hij, hjf, h => by
    unfold lvRun at h
    have := of_decide_eq_true h
    have h2 : cntL x i j 0 = 0 := rfl
    omega
  | f + 1, j, ys, ns, hij, hjf, h => by
    unfold lvRun at h
    rw [cntL_succ]
    by_cases hy : yesB x i j ys = true
    · rw [if_pos hy] at h
      cases ys with
      | nil => cases hy
      | cons y ys =>
        obtain ⟨yj, ym⟩ := y
        simp only [yesB, Bool.and_eq_true, decide_eq_true_eq] at hy
        obtain ⟨rfl, hr⟩ := hy
        have h1 := (mapN_iff hx.v7 hij (by omega)).2 ⟨ym, reach_aut hx hij (by omega) hr⟩
        rw [if_pos h1]
        have := lvRun_len hx f (j + 1) _ _ (by omega) (by omega) h
        simp only [List.tail_cons] at this
        rw [List.length_cons, this]
    · rw [if_neg hy] at h
      by_cases hn : noB x i j ns = true
      · rw [if_pos hn] at h
        cases ns with
        | nil => cases hn
        | cons u ns =>
          simp only [noB, Bool.and_eq_true, decide_eq_true_eq] at hn
          have h1 := chkM_no hx.v7 hij (by omega) hn.2
          rw [h1]
          have := lvRun_len hx f (j + 1) _ _ (by omega) (by omega) h
          simpa using this
      · rw [if_neg hn] at h; cases h
theorem lvK_succ (x : Inc) (i k : Nat) : lvK x i (k + 1) = match mapN x x (preI i (i + k)) with
    | some m => ((lvK x i k).1 ++ [(i + k, m)], (lvK x i k).2)
    | none => ((lvK x i k).1, (lvK x i k).2 ++ [(i + k, prvT x x (preI i (i + k)))]) := rfl
theorem lvK_cnt (x : Inc) (i : Nat) : ∀ k, (lvK x i k).1.length = cntL x i i k
  | 0 => rfl
  | k + 1 => by
    have ih := lvK_cnt x i k
    unfold cntL at ih ⊢
    rw [List.range'_concat, List.countP_append, ← ih, lvK_succ]
    cases h : mapN x x (preI i (i + k)) <;> simp [h]
theorem ordK_succ (x : Inc) (k : Nat) : ordK x (k + 1) = ordK x k * cntL x k k (x.V - k) := by rw [ordK, lvK_cnt]
theorem chkAll_ord {x : Inc} (hx : x.Fam) : ∀ L i, i + L.length = x.V → chkAll x i (ordK x i) L = 0 ∨ chkAll x i (ordK x i) L = ordK x x.V
  | [], i, h => by right; simp at h; subst h; rfl
  | l :: L, i, h => by
    simp only [List.length_cons] at h
    unfold chkAll
    by_cases hr : lvRun x i (x.V - i) i l.1 l.2 = true
    · rw [if_pos hr]
      have h1 := lvRun_len hx (x.V - i) i _ _ (Nat.le_refl _) (by omega) hr
      rw [h1, ← ordK_succ]
      exact chkAll_ord hx L (i + 1) (by omega)
    · rw [if_neg hr]; exact .inl rfl
/-- WHATEVER IS ACCEPTED PROVES THE NUMBER OF AUTOMORPHISMS. -/
theorem chkN_ord {x : Inc} (hx : x.Fam) (L : List Lvl) : chkN x L = 0 ∨ chkN x L = ordK x x.V := by
  unfold chkN
  by_cases h : L.length = x.V
  · rw [if_pos h]
    exact chkAll_ord hx L 0 (by omega)
  · rw [if_neg h]; exact .inl rfl

/-- The levels of Prove, first point first. -/
def lvC (x : Inc) (i : Nat) : Nat → Nat → List (Nat × List Int) × List (Nat × Tree)
  | 0, _ => ([], [])
  | f + 1, j => match mapN x x (preI i j) with
    | some m => ((j, m) :: (lvC x i f (j + 1)).1, (lvC x i f (j + 1)).2)
    | none => ((lvC x i f (j + 1)).1, (j, prvT x x (preI i j)) :: (lvC x i f (j + 1)).2)
theorem lvC_snoc (x : Inc) (i : Nat) : ∀ f j, lvC x i (f + 1) j = match mapN x x (preI i (j + f)) with
    | some m => ((lvC x i f j).1 ++ [(j + f, m)], (lvC x i f j).2)
    | none => ((lvC x i f j).1, (lvC x i f j).2 ++ [(j + f, prvT x x (preI i (j + f)))])
  | 0, j => by simp only [lvC, Nat.add_zero]; cases mapN x x (preI i j) <;> rfl
  | f + 1, j => by
    rw [lvC, lvC_snoc x i f (j + 1), show j + 1 + f = j + (f + 1) by omega]
    conv => rhs; rw [lvC]
    cases mapN x x (preI i j) <;> cases mapN x x (preI i (j + (f + 1))) <;> rfl
theorem lvK_C (x : Inc) (i : Nat) : ∀ k, lvK x i k = lvC x i k i
  | 0 => rfl
  | k + 1 => by
    rw [lvC_snoc, ← lvK_C x i k]; rfl
def toI (l : List (Nat × List Int) × List (Nat × Tree)) : Lvl := (l.1.map fun y => ((y.1 : Int), y.2), l.2.map fun y => ((y.1 : Int), y.2))
theorem toI_D (l : List (Nat × List Int) × List (Nat × Tree)) : lvlD l = lvlI (toI l) := by
  unfold lvlD lvlI toI rchL unsL
  rw [List.map_map, List.map_map]; rfl
theorem lvC_ge (x : Inc) (i : Nat) : ∀ f j, ∀ y ∈ (lvC x i f j).1, j ≤ y.1
  | 0, j, y, h => by cases h
  | f + 1, j, y, h => by
    unfold lvC at h
    cases hm : mapN x x (preI i j) with
    | some m =>
      rw [hm] at h
      rcases List.mem_cons.1 h with rfl | h
      · exact Nat.le_refl _
      · have := lvC_ge x i f (j + 1) y h; omega
    | none =>
      rw [hm] at h
      have := lvC_ge x i f (j + 1) y h; omega
theorem lvRun_C {x : Inc} (hx : x.Fam) {i : Nat} : ∀ f j, i ≤ j → j + f = x.V → lvRun x i f j (toI (lvC x i f j)).1 (toI (lvC x i f j)).2 = true
  | 0, j, _, _ => by simp [lvRun, toI, lvC]
  | f + 1, j, hij, hjf => by
    have ih := lvRun_C hx (i := i) f (j + 1) (by omega) (by omega)
    unfold lvRun lvC
    cases hm : mapN x x (preI i j) with
    | some m =>
      have h1 := map_reach hx hij (by omega) hm
      have h2 : yesB x i j (toI ((j, m) :: (lvC x i f (j + 1)).1, (lvC x i f (j + 1)).2)).1 = true := by simp [toI, yesB, h1]
      simp only [h2, if_pos]
      exact ih
    | none =>
      have h0 : ¬ yesB x i j (toI ((lvC x i f (j + 1)).1, (j, prvT x x (preI i j)) :: (lvC x i f (j + 1)).2)).1 = true := by
        have hge := lvC_ge x i f (j + 1)
        unfold toI
        cases hl : (lvC x i f (j + 1)).1 with
        | nil => simp [yesB]
        | cons y l =>
          rw [hl] at hge
          have := hge y List.mem_cons_self
          simp only [List.map_cons, yesB, Bool.and_eq_true, decide_eq_true_eq]
          intro ⟨e, _⟩; omega
      have h1 := prv_chk hx.v7 hij (by omega) hm
      have h2 : noB x i j (toI ((lvC x i f (j + 1)).1, (j, prvT x x (preI i j)) :: (lvC x i f (j + 1)).2)).2 = true := by simp [toI, noB, h1]
      simp only [if_neg h0, h2, if_pos]
      exact ih
def prfL (x : Inc) (k : Nat) : List Lvl := (List.range' k (x.V - k)).map fun i => toI (lvK x i (x.V - i))
theorem chkAll_prf {x : Inc} (hx : x.Fam) : ∀ f i, i + f = x.V → chkAll x i (ordK x i) ((List.range' i f).map fun i => toI (lvK x i (x.V - i))) = ordK x x.V
  | 0, i, h => by simp at h; subst h; rfl
  | f + 1, i, h => by
    rw [List.range'_succ, List.map_cons, chkAll]
    have h1 := lvRun_C hx (i := i) (x.V - i) i (Nat.le_refl _) (by omega)
    rw [← lvK_C] at h1
    rw [if_pos h1]
    have e : ordK x i * (toI (lvK x i (x.V - i))).1.length = ordK x (i + 1) := by rw [ordK]; simp [toI]
    rw [e]
    exact chkAll_prf hx f (i + 1) (by omega)
theorem chkN_prf {x : Inc} (hx : x.Fam) : chkN x ((List.range x.V).map fun i => toI (lvK x i (x.V - i))) = ordK x x.V := by
  unfold chkN
  rw [if_pos (by simp), List.range_eq_range']
  exact chkAll_prf hx x.V 0 (by omega)
theorem prf_D (x : Inc) : prfD x = prfI ((List.range x.V).map fun i => toI (lvK x i (x.V - i))) := by
  unfold prfD prfI lvlsL proofL
  rw [List.map_map]
  congr 3
  exact List.map_congr_left fun i _ => toI_D _

end Go.Proofs.YthfcfdlbnfcboaaDoor.Pw

/- group.Check. -/
set_option linter.unusedVariables false
set_option linter.unusedSimpArgs false
set_option maxHeartbeats 1000000
set_option maxRecDepth 10000
namespace Go.Proofs.YthfcfdlbnfcboaaDoor.Pw
open Go

theorem exL {l : List Lvl} {n : Nat} {k : D → Prop} (h : n < l.length) (hk : ∀ a, l[n]? = some a → k (lvlI a)) : ∃ d, (lvlsL l)[n]? = some d ∧ k d := exM (f := lvlI) h hk
theorem exC0 {yj : Int} {ym : List Int} {l : List (Int × List Int)} {k : D → Prop} (hk : k (.agg [.int .i64 yj, intsD ym])) : ∃ d, (rchL ((yj, ym) :: l))[(0 : Int).toNat]? = some d ∧ k d := ⟨_, rfl, hk⟩
theorem exW0 {yj : Int} {t : Tree} {l : List (Int × Tree)} {k : D → Prop} (hk : k (.agg [.int .i64 yj, treeD t])) : ∃ d, (unsL ((yj, t) :: l))[(0 : Int).toNat]? = some d ∧ k d := ⟨_, rfl, hk⟩
theorem yes_f1 {x : Inc} {i j : Nat} {yj : Int} {ym : List Int} {yt : List (Int × List Int)} (h : reachB x i yj ym = false) : yesB x i j ((yj, ym) :: yt) = false := by simp [yesB, h]
theorem yes_f2 {x : Inc} {i j : Nat} {yj : Int} {ym : List Int} {yt : List (Int × List Int)} (h : ¬ yj = (j : Int)) : yesB x i j ((yj, ym) :: yt) = false := by simp [yesB, h]
theorem yes_t {x : Inc} {i j : Nat} {yj : Int} {ym : List Int} {yt : List (Int × List Int)} (h : yj = (j : Int)) (hr : reachB x i yj ym = true) : yesB x i j ((yj, ym) :: yt) = true := by simp [yesB, hr]; exact h
theorem no_f1 {x : Inc} {i j : Nat} {yj : Int} {t : Tree} {yt : List (Int × Tree)} (h : chkM x x (preI i j) t = false) : noB x i j ((yj, t) :: yt) = false := by simp [noB, h]
theorem no_f2 {x : Inc} {i j : Nat} {yj : Int} {t : Tree} {yt : List (Int × Tree)} (h : ¬ yj = (j : Int)) : noB x i j ((yj, t) :: yt) = false := by simp [noB, h]
theorem no_t {x : Inc} {i j : Nat} {yj : Int} {t : Tree} {yt : List (Int × Tree)} (h : yj = (j : Int)) (hr : chkM x x (preI i j) t = true) : noB x i j ((yj, t) :: yt) = true := by simp [noB, hr]; exact h
theorem lvRun_yes {x : Inc} {i j : Nat} {ys : List (Int × List Int)} {ns : List (Int × Tree)} (hj : j < x.V) (h : yesB x i j ys = true) : lvRun x i (x.V - j) j ys ns = lvRun x i (x.V - (j + 1)) (j + 1) ys.tail ns := by
  obtain ⟨f, hf⟩ : ∃ f, x.V - j = f + 1 := ⟨x.V - j - 1, by omega⟩
  rw [hf, show x.V - (j + 1) = f by omega, lvRun, if_pos h]
theorem lvRun_no {x : Inc} {i j : Nat} {ys : List (Int × List Int)} {ns : List (Int × Tree)} (hj : j < x.V) (h : yesB x i j ys = false) (h2 : noB x i j ns = true) : lvRun x i (x.V - j) j ys ns = lvRun x i (x.V - (j + 1)) (j + 1) ys ns.tail := by
  obtain ⟨f, hf⟩ : ∃ f, x.V - j = f + 1 := ⟨x.V - j - 1, by omega⟩
  rw [hf, show x.V - (j + 1) = f by omega, lvRun, if_neg (by simp [h]), if_pos h2]
theorem lvRun_bad {x : Inc} {i j : Nat} {ys : List (Int × List Int)} {ns : List (Int × Tree)} (hj : j < x.V) (h : yesB x i j ys = false) (h2 : noB x i j ns = false) : lvRun x i (x.V - j) j ys ns = false := by
  obtain ⟨f, hf⟩ : ∃ f, x.V - j = f + 1 := ⟨x.V - j - 1, by omega⟩
  rw [hf, lvRun, if_neg (by simp [h]), if_neg (by simp [h2])]
theorem lvRun_le (x : Inc) (i : Nat) : ∀ f j ys ns, lvRun x i f j ys ns = true → ys.length ≤ f
  | 0, j, ys, ns, h => by have := of_decide_eq_true h; omega
  | f + 1, j, ys, ns, h => by
    unfold lvRun at h
    by_cases hy : yesB x i j ys = true
    · rw [if_pos hy] at h
      have := lvRun_le x i f _ _ _ h
      simp only [List.length_tail] at this; omega
    · rw [if_neg hy] at h
      by_cases hn : noB x i j ns = true
      · rw [if_pos hn] at h
        have := lvRun_le x i f _ _ _ h; omega
      · rw [if_neg hn] at h; cases h
theorem ivMulN {x : Int} {n : Nat} {k : Int → Prop} (h : x = (n : Int)) (hn : n < 9223372036854775808) (hk : k (n : Int)) : ∃ r, IntKind.i64.wrap x = r ∧ k r :=
  ⟨_, by rw [h]; exact w64 (by omega) (by omega), hk⟩
def refX (x : Inc) : D := .ref (.agg [.leaf, .leaf]) x.D
def reachF (x : Inc) : D := .func 70 [.ref (.agg [.leaf, .leaf]) x.D, .ref .leaf (intsD (preI (x.V - 1) (x.V - 1)))]
theorem vGCheck (x : Inc) (hx : x.Ok) (hx7 : x.V ≤ 7) (hb : ∀ s ∈ x.B, ∀ p ∈ bitsL s, p < x.V) (L : List Lvl) (hL : ∀ l ∈ L, l.1.length ≤ 1000000 ∧ l.2.length ≤ 1000000) : Val Tryd.prog 44 [x.D, prfI L] (fun r => r = chkD (chkN x L)) := by
  have hv := hx.v
  have hv1 := hx.v1
  have hpl := pre_len (x.V - 1) (x.V - 1)
  have hp0 := intsL_len (preI (x.V - 1) (x.V - 1))
  have hL0 := lvlsL_len L
  have hpv := vPrefix (x.V - 1) (x.V - 1) (by omega)
  rw [show iD (x.V - 1) = .int .i64 ((x.V : Int) - 1) from by show D.int _ _ = _; rw [Int.natCast_sub hv1]; rfl] at hpv
  refine Val.ofV ?_
  refine hc_ofS (okc Tryd.f44.ntmps 0) (fn := Tryd.f44) (cd := _) rfl rfl rfl rfl rfl rfl (fun hbd => ?_)
  by_cases hLV : L.length = x.V
  · repeat' (
     conv => whnf
     first
     | refine ifd (fun h => ?_) (fun h => ?_)
     | refine ifn (fun h => ?_) (fun h => ?_)
     | with_reducible refine ivW (by omega) (by omega) ?_
     | ((with_reducible refine hcI ?_); refine Val.call hpv (.refl _) (ler _ _) rfl ?_; rintro r rfl))
    all_goals (conv => whnf)
    all_goals (first | (exfalso; omega) | skip)
    refine lpX (X := Nat × Nat) (fun y => [(2, .ref (.agg [.leaf, .leaf]) x.D), (7, reachF x), (8, iD y.2), (34, .list false (.agg [.leaf, .leaf]) (lvlsL L)), (35, iD (lvlsL L).length), (36, iD y.1)]) (fun y => [])
      (fun y => y.1 ≤ x.V ∧ y.2 ≤ 7 ^ y.1 ∧ chkAll x 0 1 L = chkAll x y.1 y.2 (L.drop y.1)) (fun y => x.V - y.1) ⟨_, nxF (ρ := []) (0, 1) (.fvar 0 x.D rfl rfl (.fvar 2 (intsD (preI (x.V - 1) (x.V - 1))) rfl rfl (.refl _))) ?_ trivial rfl rfl (Nat.lt_succ_self _) ⟨Nat.zero_le _, Nat.le_refl _, rfl⟩⟩ ?_
    · exact seL (show LeD _ (.ref (.agg [.leaf, .leaf]) x.D) (.ptr 0 []) from .fvar 0 x.D rfl) rfl (seL (show LeD _ (reachF x) (.func 70 [.ptr 0 [], .ptr 2 []]) from .func _ _ _ (.cons _ _ _ _ (show LeD _ (.ref (.agg [.leaf, .leaf]) x.D) (.ptr 0 []) from .fvar 0 x.D rfl) (.cons _ _ _ _ (show LeD _ (.ref .leaf (intsD (preI (x.V - 1) (x.V - 1)))) (.ptr 2 []) from .fvar 2 (intsD (preI (x.V - 1) (x.V - 1))) rfl) .nil))) rfl (by repeat (first | exact trivial | refine seC rfl rfl ?_ | refine seL (leRow rfl rfl) rfl ?_)))
    rintro ⟨i, n⟩ ⟨hi, hn, hc⟩
    dsimp only at hi hn hc ⊢
    rcases Nat.lt_or_ge i x.V with hlt | hge
    · obtain ⟨⟨ys, ns⟩, hl⟩ : ∃ l, L[i]? = some l := ⟨L[i], List.getElem?_eq_getElem (by omega)⟩
      have hL2 := hL _ (List.mem_of_getElem? hl)
      dsimp only at hL2
      have hdrop : L.drop i = (ys, ns) :: L.drop (i + 1) := by
        rw [List.drop_eq_getElem_cons (by omega)]
        rw [List.getElem?_eq_getElem (by omega)] at hl
        rw [Option.some.inj hl]
      have hfail : lvRun x i (x.V - i) i ys ns = false → chkD (chkN x L) = .tuple [.int .i64 0, .int .i64 200] := fun e => by
        unfold chkN; rw [if_pos hLV, hc, hdrop, chkAll, if_neg (by simp [e])]; rfl
      have hgo : lvRun x i (x.V - i) i ys ns = true → chkAll x 0 1 L = chkAll x (i + 1) (n * ys.length) (L.drop (i + 1)) := fun e => by
        rw [hc, hdrop, chkAll, if_pos e]
      have hnb : n ≤ 823543 := Nat.le_trans hn (Nat.le_trans (Nat.pow_le_pow_right (by omega) (show i ≤ 7 by omega)) (by decide))
      have hnm : n * ys.length ≤ 823543 * 1000000 := Nat.mul_le_mul hnb hL2.1
      have hnm2 : (n : Int) * (((rchL ys).length : Nat) : Int) = ((n * ys.length : Nat) : Int) := by rw [rchL_len, Int.natCast_mul]
      repeat' (
       conv => whnf
       first
       | refine ifd (fun h => ?_) (fun h => ?_)
       | ((with_reducible refine exL (by omega) ?_); intro y hy; simp only [Int.toNat_natCast] at hy; rw [hl] at hy; obtain rfl := Option.some.inj hy)
       | ((with_reducible refine ivMulN hnm2 (by omega) ?_))
       | ((with_reducible apply drT 5); rfl)
       | ((with_reducible apply ob); ((first | rfl | assumption | omega | (unfold maxLen2; omega) | (dsimp only; omega) | (simp only [LN]; omega) | (simp; done) | (simp; omega)))))
      all_goals (conv => whnf)
      all_goals (first | (exfalso; omega) | skip)
      refine lpX (X := Nat × List (Int × List Int) × List (Int × Tree)) (fun y => [(2, .ref (.agg [.leaf, .leaf]) x.D), (7, reachF x), (8, iD (n * ys.length)), (9, iD i), (11, .list false (.agg [.leaf, .leaf]) (rchL y.2.1)), (12, .list false (.agg [.leaf, .agg [.leaf]]) (unsL y.2.2)), (13, iD y.1), (34, .list false (.agg [.leaf, .leaf]) (lvlsL L)), (35, iD (lvlsL L).length), (36, iD i)]) (fun y => [])
        (fun y => i ≤ y.1 ∧ y.1 ≤ x.V ∧ y.2.1.length ≤ 1000000 ∧ y.2.2.length ≤ 1000000 ∧ lvRun x i (x.V - i) i ys ns = lvRun x i (x.V - y.1) y.1 y.2.1 y.2.2) (fun y => x.V - y.1) ⟨_, nx (ρ := []) (i, ys, ns) (by repeat (first | exact trivial | refine seC rfl rfl ?_ | refine seL (leRow rfl rfl) rfl ?_)) trivial rfl rfl (Nat.lt_succ_self _) ⟨Nat.le_refl _, hi, hL2.1, hL2.2, rfl⟩⟩ ?_
      rintro ⟨j, ys', ns'⟩ ⟨hij, hj, hy1, hn1, hrun⟩
      dsimp only at hij hj hy1 hn1 hrun ⊢
      rcases Nat.lt_or_ge j x.V with hjl | hjg
      · have hd := pre_dif i j x.V hij hjl
        have hpj := pre_len i j
        have hck := fun yj ym => vCheck1 x i yj ym hx hb hlt
        have hch := fun um => vCheckT x x (preI i j) (.node um) hx hx hx7 hx7 hd (by omega)
        rcases ys' with _ | ⟨⟨yj, ym⟩, yt⟩ <;> rcases ns' with _ | ⟨⟨uj, ⟨um⟩⟩, ut⟩
        · repeat' (
           conv => whnf
           first
           | refine ifd (fun h => ?_) (fun h => ?_)
           | with_reducible refine ivW (by omega) (by omega) ?_
           | ((with_reducible apply drT 21); rfl))
          all_goals (conv => whnf)
          all_goals (first | (exfalso; omega) | skip)
          all_goals first
            | (refine fC rfl (Eq.symm (hfail (hrun.trans (lvRun_bad hjl ?_ ?_)))) <;> (first | rfl | (refine yes_f1 ?_; assumption) | (refine yes_f2 ?_; assumption) | (refine yes_t ?_ ?_ <;> assumption) | (refine no_f1 ?_; assumption) | (refine no_f2 ?_; assumption) | (refine no_t ?_ ?_ <;> assumption)))
            | (refine nx0 (X := Nat × List (Int × List Int) × List (Int × Tree)) (j + 1, yt, []) ?_ rfl ?_ ?_ <;> first | (refine ⟨?_, ?_, ?_, hn1, hrun.trans (lvRun_yes hjl ?_)⟩ <;> first | (dsimp only; omega) | (simp only [List.length_cons] at hy1 ⊢; omega) | (refine yes_f1 ?_; assumption) | (refine yes_f2 ?_; assumption) | (refine yes_t ?_ ?_ <;> assumption) | (refine no_f1 ?_; assumption) | (refine no_f2 ?_; assumption) | (refine no_t ?_ ?_ <;> assumption)) | (dsimp only; omega) | (simp only [List.length_cons] at hy1 ⊢; omega) | (refine yes_f1 ?_; assumption) | (refine yes_f2 ?_; assumption) | (refine yes_t ?_ ?_ <;> assumption) | (refine no_f1 ?_; assumption) | (refine no_f2 ?_; assumption) | (refine no_t ?_ ?_ <;> assumption) | (focus (repeat (first | exact trivial | refine se0 rfl ?_)); done))
            | (refine nx0 (X := Nat × List (Int × List Int) × List (Int × Tree)) (j + 1, yt, (uj, Tree.node um) :: ut) ?_ rfl ?_ ?_ <;> first | (refine ⟨?_, ?_, ?_, hn1, hrun.trans (lvRun_yes hjl ?_)⟩ <;> first | (dsimp only; omega) | (simp only [List.length_cons] at hy1 ⊢; omega) | (refine yes_f1 ?_; assumption) | (refine yes_f2 ?_; assumption) | (refine yes_t ?_ ?_ <;> assumption) | (refine no_f1 ?_; assumption) | (refine no_f2 ?_; assumption) | (refine no_t ?_ ?_ <;> assumption)) | (dsimp only; omega) | (simp only [List.length_cons] at hy1 ⊢; omega) | (refine yes_f1 ?_; assumption) | (refine yes_f2 ?_; assumption) | (refine yes_t ?_ ?_ <;> assumption) | (refine no_f1 ?_; assumption) | (refine no_f2 ?_; assumption) | (refine no_t ?_ ?_ <;> assumption) | (focus (repeat (first | exact trivial | refine se0 rfl ?_)); done))
            | (refine nx0 (X := Nat × List (Int × List Int) × List (Int × Tree)) (j + 1, [], ut) ?_ rfl ?_ ?_ <;> first | (refine ⟨?_, ?_, hy1, ?_, hrun.trans (lvRun_no hjl ?_ ?_)⟩ <;> first | rfl | (dsimp only; omega) | (simp only [List.length_cons] at hn1 ⊢; omega) | (refine yes_f1 ?_; assumption) | (refine yes_f2 ?_; assumption) | (refine yes_t ?_ ?_ <;> assumption) | (refine no_f1 ?_; assumption) | (refine no_f2 ?_; assumption) | (refine no_t ?_ ?_ <;> assumption)) | rfl | (dsimp only; omega) | (simp only [List.length_cons] at hn1 ⊢; omega) | (refine yes_f1 ?_; assumption) | (refine yes_f2 ?_; assumption) | (refine yes_t ?_ ?_ <;> assumption) | (refine no_f1 ?_; assumption) | (refine no_f2 ?_; assumption) | (refine no_t ?_ ?_ <;> assumption) | (focus (repeat (first | exact trivial | refine se0 rfl ?_)); done))
            | (refine nx0 (X := Nat × List (Int × List Int) × List (Int × Tree)) (j + 1, (yj, ym) :: yt, ut) ?_ rfl ?_ ?_ <;> first | (refine ⟨?_, ?_, hy1, ?_, hrun.trans (lvRun_no hjl ?_ ?_)⟩ <;> first | rfl | (dsimp only; omega) | (simp only [List.length_cons] at hn1 ⊢; omega) | (refine yes_f1 ?_; assumption) | (refine yes_f2 ?_; assumption) | (refine yes_t ?_ ?_ <;> assumption) | (refine no_f1 ?_; assumption) | (refine no_f2 ?_; assumption) | (refine no_t ?_ ?_ <;> assumption)) | rfl | (dsimp only; omega) | (simp only [List.length_cons] at hn1 ⊢; omega) | (refine yes_f1 ?_; assumption) | (refine yes_f2 ?_; assumption) | (refine yes_t ?_ ?_ <;> assumption) | (refine no_f1 ?_; assumption) | (refine no_f2 ?_; assumption) | (refine no_t ?_ ?_ <;> assumption) | (focus (repeat (first | exact trivial | refine se0 rfl ?_)); done))
            | skip
        · have hp2 : (0 : Int) < ((unsL ((uj, Tree.node um) :: ut)).length : Int) := by simp only [unsL_len, List.length_cons]; omega
          have hch := hch um
          cases hk : chkM x x (preI i j) (.node um) <;> rw [hk] at hch
          all_goals
            repeat' (
             conv => whnf
             first
             | refine ifd (fun h => ?_) (fun h => ?_)
             | with_reducible refine ivW (by omega) (by omega) ?_
             | ((with_reducible refine exW0 ?_))
             | ((with_reducible refine hcI ?_); refine Val.call hch (.refl _) (ler _ _) rfl ?_; rintro r rfl)
             | ((with_reducible refine pcI ?_); refine Val.pure (vPrefix _ _ (by omega)) (ler _ _) rfl rfl ?_)
             | ((with_reducible apply drT 21); rfl)
             | ((with_reducible apply ob); ((first | rfl | assumption | omega | (unfold maxLen2; omega) | (dsimp only; omega) | (simp only [LN]; omega) | (simp; done) | (simp; omega)))))
            all_goals (conv => whnf)
            all_goals (first | (exfalso; omega) | skip)
            all_goals first
              | (refine fC rfl (Eq.symm (hfail (hrun.trans (lvRun_bad hjl ?_ ?_)))) <;> (first | rfl | (refine yes_f1 ?_; assumption) | (refine yes_f2 ?_; assumption) | (refine yes_t ?_ ?_ <;> assumption) | (refine no_f1 ?_; assumption) | (refine no_f2 ?_; assumption) | (refine no_t ?_ ?_ <;> assumption)))
              | (refine nx0 (X := Nat × List (Int × List Int) × List (Int × Tree)) (j + 1, yt, []) ?_ rfl ?_ ?_ <;> first | (refine ⟨?_, ?_, ?_, hn1, hrun.trans (lvRun_yes hjl ?_)⟩ <;> first | (dsimp only; omega) | (simp only [List.length_cons] at hy1 ⊢; omega) | (refine yes_f1 ?_; assumption) | (refine yes_f2 ?_; assumption) | (refine yes_t ?_ ?_ <;> assumption) | (refine no_f1 ?_; assumption) | (refine no_f2 ?_; assumption) | (refine no_t ?_ ?_ <;> assumption)) | (dsimp only; omega) | (simp only [List.length_cons] at hy1 ⊢; omega) | (refine yes_f1 ?_; assumption) | (refine yes_f2 ?_; assumption) | (refine yes_t ?_ ?_ <;> assumption) | (refine no_f1 ?_; assumption) | (refine no_f2 ?_; assumption) | (refine no_t ?_ ?_ <;> assumption) | (focus (repeat (first | exact trivial | refine se0 rfl ?_)); done))
              | (refine nx0 (X := Nat × List (Int × List Int) × List (Int × Tree)) (j + 1, yt, (uj, Tree.node um) :: ut) ?_ rfl ?_ ?_ <;> first | (refine ⟨?_, ?_, ?_, hn1, hrun.trans (lvRun_yes hjl ?_)⟩ <;> first | (dsimp only; omega) | (simp only [List.length_cons] at hy1 ⊢; omega) | (refine yes_f1 ?_; assumption) | (refine yes_f2 ?_; assumption) | (refine yes_t ?_ ?_ <;> assumption) | (refine no_f1 ?_; assumption) | (refine no_f2 ?_; assumption) | (refine no_t ?_ ?_ <;> assumption)) | (dsimp only; omega) | (simp only [List.length_cons] at hy1 ⊢; omega) | (refine yes_f1 ?_; assumption) | (refine yes_f2 ?_; assumption) | (refine yes_t ?_ ?_ <;> assumption) | (refine no_f1 ?_; assumption) | (refine no_f2 ?_; assumption) | (refine no_t ?_ ?_ <;> assumption) | (focus (repeat (first | exact trivial | refine se0 rfl ?_)); done))
              | (refine nx0 (X := Nat × List (Int × List Int) × List (Int × Tree)) (j + 1, [], ut) ?_ rfl ?_ ?_ <;> first | (refine ⟨?_, ?_, hy1, ?_, hrun.trans (lvRun_no hjl ?_ ?_)⟩ <;> first | rfl | (dsimp only; omega) | (simp only [List.length_cons] at hn1 ⊢; omega) | (refine yes_f1 ?_; assumption) | (refine yes_f2 ?_; assumption) | (refine yes_t ?_ ?_ <;> assumption) | (refine no_f1 ?_; assumption) | (refine no_f2 ?_; assumption) | (refine no_t ?_ ?_ <;> assumption)) | rfl | (dsimp only; omega) | (simp only [List.length_cons] at hn1 ⊢; omega) | (refine yes_f1 ?_; assumption) | (refine yes_f2 ?_; assumption) | (refine yes_t ?_ ?_ <;> assumption) | (refine no_f1 ?_; assumption) | (refine no_f2 ?_; assumption) | (refine no_t ?_ ?_ <;> assumption) | (focus (repeat (first | exact trivial | refine se0 rfl ?_)); done))
              | (refine nx0 (X := Nat × List (Int × List Int) × List (Int × Tree)) (j + 1, (yj, ym) :: yt, ut) ?_ rfl ?_ ?_ <;> first | (refine ⟨?_, ?_, hy1, ?_, hrun.trans (lvRun_no hjl ?_ ?_)⟩ <;> first | rfl | (dsimp only; omega) | (simp only [List.length_cons] at hn1 ⊢; omega) | (refine yes_f1 ?_; assumption) | (refine yes_f2 ?_; assumption) | (refine yes_t ?_ ?_ <;> assumption) | (refine no_f1 ?_; assumption) | (refine no_f2 ?_; assumption) | (refine no_t ?_ ?_ <;> assumption)) | rfl | (dsimp only; omega) | (simp only [List.length_cons] at hn1 ⊢; omega) | (refine yes_f1 ?_; assumption) | (refine yes_f2 ?_; assumption) | (refine yes_t ?_ ?_ <;> assumption) | (refine no_f1 ?_; assumption) | (refine no_f2 ?_; assumption) | (refine no_t ?_ ?_ <;> assumption) | (focus (repeat (first | exact trivial | refine se0 rfl ?_)); done))
              | skip
        · have hp1 : (0 : Int) < ((rchL ((yj, ym) :: yt)).length : Int) := by simp only [rchL_len, List.length_cons]; omega
          have hck := hck yj ym
          cases hr : reachB x i yj ym <;> rw [hr] at hck
          all_goals
            repeat' (
             conv => whnf
             first
             | refine ifd (fun h => ?_) (fun h => ?_)
             | with_reducible refine ivW (by omega) (by omega) ?_
             | ((with_reducible refine exC0 ?_))
             | ((with_reducible refine hcI ?_); refine Val.call hck (.refl _) (ler _ _) rfl ?_; rintro r rfl)
             | ((with_reducible apply drT 21); rfl)
             | ((with_reducible apply ob); ((first | rfl | assumption | omega | (unfold maxLen2; omega) | (dsimp only; omega) | (simp only [LN]; omega) | (simp; done) | (simp; omega)))))
            all_goals (conv => whnf)
            all_goals (first | (exfalso; omega) | skip)
            all_goals first
              | (refine fC rfl (Eq.symm (hfail (hrun.trans (lvRun_bad hjl ?_ ?_)))) <;> (first | rfl | (refine yes_f1 ?_; assumption) | (refine yes_f2 ?_; assumption) | (refine yes_t ?_ ?_ <;> assumption) | (refine no_f1 ?_; assumption) | (refine no_f2 ?_; assumption) | (refine no_t ?_ ?_ <;> assumption)))
              | (refine nx0 (X := Nat × List (Int × List Int) × List (Int × Tree)) (j + 1, yt, []) ?_ rfl ?_ ?_ <;> first | (refine ⟨?_, ?_, ?_, hn1, hrun.trans (lvRun_yes hjl ?_)⟩ <;> first | (dsimp only; omega) | (simp only [List.length_cons] at hy1 ⊢; omega) | (refine yes_f1 ?_; assumption) | (refine yes_f2 ?_; assumption) | (refine yes_t ?_ ?_ <;> assumption) | (refine no_f1 ?_; assumption) | (refine no_f2 ?_; assumption) | (refine no_t ?_ ?_ <;> assumption)) | (dsimp only; omega) | (simp only [List.length_cons] at hy1 ⊢; omega) | (refine yes_f1 ?_; assumption) | (refine yes_f2 ?_; assumption) | (refine yes_t ?_ ?_ <;> assumption) | (refine no_f1 ?_; assumption) | (refine no_f2 ?_; assumption) | (refine no_t ?_ ?_ <;> assumption) | (focus (repeat (first | exact trivial | refine se0 rfl ?_)); done))
              | (refine nx0 (X := Nat × List (Int × List Int) × List (Int × Tree)) (j + 1, yt, (uj, Tree.node um) :: ut) ?_ rfl ?_ ?_ <;> first | (refine ⟨?_, ?_, ?_, hn1, hrun.trans (lvRun_yes hjl ?_)⟩ <;> first | (dsimp only; omega) | (simp only [List.length_cons] at hy1 ⊢; omega) | (refine yes_f1 ?_; assumption) | (refine yes_f2 ?_; assumption) | (refine yes_t ?_ ?_ <;> assumption) | (refine no_f1 ?_; assumption) | (refine no_f2 ?_; assumption) | (refine no_t ?_ ?_ <;> assumption)) | (dsimp only; omega) | (simp only [List.length_cons] at hy1 ⊢; omega) | (refine yes_f1 ?_; assumption) | (refine yes_f2 ?_; assumption) | (refine yes_t ?_ ?_ <;> assumption) | (refine no_f1 ?_; assumption) | (refine no_f2 ?_; assumption) | (refine no_t ?_ ?_ <;> assumption) | (focus (repeat (first | exact trivial | refine se0 rfl ?_)); done))
              | (refine nx0 (X := Nat × List (Int × List Int) × List (Int × Tree)) (j + 1, [], ut) ?_ rfl ?_ ?_ <;> first | (refine ⟨?_, ?_, hy1, ?_, hrun.trans (lvRun_no hjl ?_ ?_)⟩ <;> first | rfl | (dsimp only; omega) | (simp only [List.length_cons] at hn1 ⊢; omega) | (refine yes_f1 ?_; assumption) | (refine yes_f2 ?_; assumption) | (refine yes_t ?_ ?_ <;> assumption) | (refine no_f1 ?_; assumption) | (refine no_f2 ?_; assumption) | (refine no_t ?_ ?_ <;> assumption)) | rfl | (dsimp only; omega) | (simp only [List.length_cons] at hn1 ⊢; omega) | (refine yes_f1 ?_; assumption) | (refine yes_f2 ?_; assumption) | (refine yes_t ?_ ?_ <;> assumption) | (refine no_f1 ?_; assumption) | (refine no_f2 ?_; assumption) | (refine no_t ?_ ?_ <;> assumption) | (focus (repeat (first | exact trivial | refine se0 rfl ?_)); done))
              | (refine nx0 (X := Nat × List (Int × List Int) × List (Int × Tree)) (j + 1, (yj, ym) :: yt, ut) ?_ rfl ?_ ?_ <;> first | (refine ⟨?_, ?_, hy1, ?_, hrun.trans (lvRun_no hjl ?_ ?_)⟩ <;> first | rfl | (dsimp only; omega) | (simp only [List.length_cons] at hn1 ⊢; omega) | (refine yes_f1 ?_; assumption) | (refine yes_f2 ?_; assumption) | (refine yes_t ?_ ?_ <;> assumption) | (refine no_f1 ?_; assumption) | (refine no_f2 ?_; assumption) | (refine no_t ?_ ?_ <;> assumption)) | rfl | (dsimp only; omega) | (simp only [List.length_cons] at hn1 ⊢; omega) | (refine yes_f1 ?_; assumption) | (refine yes_f2 ?_; assumption) | (refine yes_t ?_ ?_ <;> assumption) | (refine no_f1 ?_; assumption) | (refine no_f2 ?_; assumption) | (refine no_t ?_ ?_ <;> assumption) | (focus (repeat (first | exact trivial | refine se0 rfl ?_)); done))
              | skip
        · have hp1 : (0 : Int) < ((rchL ((yj, ym) :: yt)).length : Int) := by simp only [rchL_len, List.length_cons]; omega
          have hp2 : (0 : Int) < ((unsL ((uj, Tree.node um) :: ut)).length : Int) := by simp only [unsL_len, List.length_cons]; omega
          have hck := hck yj ym
          have hch := hch um
          cases hr : reachB x i yj ym <;> rw [hr] at hck <;> cases hk : chkM x x (preI i j) (.node um) <;> rw [hk] at hch
          all_goals
            repeat' (
             conv => whnf
             first
             | refine ifd (fun h => ?_) (fun h => ?_)
             | with_reducible refine ivW (by omega) (by omega) ?_
             | ((with_reducible refine exC0 ?_))
             | ((with_reducible refine exW0 ?_))
             | ((with_reducible refine hcI ?_); refine Val.call hck (.refl _) (ler _ _) rfl ?_; rintro r rfl)
             | ((with_reducible refine hcI ?_); refine Val.call hch (.refl _) (ler _ _) rfl ?_; rintro r rfl)
             | ((with_reducible refine pcI ?_); refine Val.pure (vPrefix _ _ (by omega)) (ler _ _) rfl rfl ?_)
             | ((with_reducible apply drT 21); rfl)
             | ((with_reducible apply ob); ((first | rfl | assumption | omega | (unfold maxLen2; omega) | (dsimp only; omega) | (simp only [LN]; omega) | (simp; done) | (simp; omega)))))
            all_goals (conv => whnf)
            all_goals (first | (exfalso; omega) | skip)
            all_goals first
              | (refine fC rfl (Eq.symm (hfail (hrun.trans (lvRun_bad hjl ?_ ?_)))) <;> (first | rfl | (refine yes_f1 ?_; assumption) | (refine yes_f2 ?_; assumption) | (refine yes_t ?_ ?_ <;> assumption) | (refine no_f1 ?_; assumption) | (refine no_f2 ?_; assumption) | (refine no_t ?_ ?_ <;> assumption)))
              | (refine nx0 (X := Nat × List (Int × List Int) × List (Int × Tree)) (j + 1, yt, []) ?_ rfl ?_ ?_ <;> first | (refine ⟨?_, ?_, ?_, hn1, hrun.trans (lvRun_yes hjl ?_)⟩ <;> first | (dsimp only; omega) | (simp only [List.length_cons] at hy1 ⊢; omega) | (refine yes_f1 ?_; assumption) | (refine yes_f2 ?_; assumption) | (refine yes_t ?_ ?_ <;> assumption) | (refine no_f1 ?_; assumption) | (refine no_f2 ?_; assumption) | (refine no_t ?_ ?_ <;> assumption)) | (dsimp only; omega) | (simp only [List.length_cons] at hy1 ⊢; omega) | (refine yes_f1 ?_; assumption) | (refine yes_f2 ?_; assumption) | (refine yes_t ?_ ?_ <;> assumption) | (refine no_f1 ?_; assumption) | (refine no_f2 ?_; assumption) | (refine no_t ?_ ?_ <;> assumption) | (focus (repeat (first | exact trivial | refine se0 rfl ?_)); done))
              | (refine nx0 (X := Nat × List (Int × List Int) × List (Int × Tree)) (j + 1, yt, (uj, Tree.node um) :: ut) ?_ rfl ?_ ?_ <;> first | (refine ⟨?_, ?_, ?_, hn1, hrun.trans (lvRun_yes hjl ?_)⟩ <;> first | (dsimp only; omega) | (simp only [List.length_cons] at hy1 ⊢; omega) | (refine yes_f1 ?_; assumption) | (refine yes_f2 ?_; assumption) | (refine yes_t ?_ ?_ <;> assumption) | (refine no_f1 ?_; assumption) | (refine no_f2 ?_; assumption) | (refine no_t ?_ ?_ <;> assumption)) | (dsimp only; omega) | (simp only [List.length_cons] at hy1 ⊢; omega) | (refine yes_f1 ?_; assumption) | (refine yes_f2 ?_; assumption) | (refine yes_t ?_ ?_ <;> assumption) | (refine no_f1 ?_; assumption) | (refine no_f2 ?_; assumption) | (refine no_t ?_ ?_ <;> assumption) | (focus (repeat (first | exact trivial | refine se0 rfl ?_)); done))
              | (refine nx0 (X := Nat × List (Int × List Int) × List (Int × Tree)) (j + 1, [], ut) ?_ rfl ?_ ?_ <;> first | (refine ⟨?_, ?_, hy1, ?_, hrun.trans (lvRun_no hjl ?_ ?_)⟩ <;> first | rfl | (dsimp only; omega) | (simp only [List.length_cons] at hn1 ⊢; omega) | (refine yes_f1 ?_; assumption) | (refine yes_f2 ?_; assumption) | (refine yes_t ?_ ?_ <;> assumption) | (refine no_f1 ?_; assumption) | (refine no_f2 ?_; assumption) | (refine no_t ?_ ?_ <;> assumption)) | rfl | (dsimp only; omega) | (simp only [List.length_cons] at hn1 ⊢; omega) | (refine yes_f1 ?_; assumption) | (refine yes_f2 ?_; assumption) | (refine yes_t ?_ ?_ <;> assumption) | (refine no_f1 ?_; assumption) | (refine no_f2 ?_; assumption) | (refine no_t ?_ ?_ <;> assumption) | (focus (repeat (first | exact trivial | refine se0 rfl ?_)); done))
              | (refine nx0 (X := Nat × List (Int × List Int) × List (Int × Tree)) (j + 1, (yj, ym) :: yt, ut) ?_ rfl ?_ ?_ <;> first | (refine ⟨?_, ?_, hy1, ?_, hrun.trans (lvRun_no hjl ?_ ?_)⟩ <;> first | rfl | (dsimp only; omega) | (simp only [List.length_cons] at hn1 ⊢; omega) | (refine yes_f1 ?_; assumption) | (refine yes_f2 ?_; assumption) | (refine yes_t ?_ ?_ <;> assumption) | (refine no_f1 ?_; assumption) | (refine no_f2 ?_; assumption) | (refine no_t ?_ ?_ <;> assumption)) | rfl | (dsimp only; omega) | (simp only [List.length_cons] at hn1 ⊢; omega) | (refine yes_f1 ?_; assumption) | (refine yes_f2 ?_; assumption) | (refine yes_t ?_ ?_ <;> assumption) | (refine no_f1 ?_; assumption) | (refine no_f2 ?_; assumption) | (refine no_t ?_ ?_ <;> assumption) | (focus (repeat (first | exact trivial | refine se0 rfl ?_)); done))
              | skip
      · have hjv : j = x.V := by omega
        have hl1 := rchL_len ys'
        have hl2 := unsL_len ns'
        subst hjv
        have hrun2 : lvRun x i (x.V - i) i ys ns = decide (ys'.length + ns'.length = 0) := by rw [hrun, Nat.sub_self]; rfl
        repeat' (
         conv => whnf
         first
         | refine ifd (fun h => ?_) (fun h => ?_)
         | with_reducible refine ivW (by omega) (by omega) ?_
         | ((with_reducible apply drT 21); rfl)
         | ((with_reducible apply ob); ((first | rfl | assumption | omega | (unfold maxLen2; omega) | (dsimp only; omega) | (simp only [LN]; omega) | (simp; done) | (simp; omega)))))
        all_goals (conv => whnf)
        all_goals (first | (exfalso; omega) | skip)
        · exact fC rfl (Eq.symm (hfail (by rw [hrun2]; exact decide_eq_false (by omega))))
        · have ht : lvRun x i (x.V - i) i ys ns = true := by rw [hrun2]; exact decide_eq_true (by omega)
          have hle := lvRun_le x i _ _ _ _ ht
          refine nx (X := Nat × Nat) (ρ := []) (i + 1, n * ys.length) (by repeat (first | exact trivial | refine seC rfl rfl ?_ | refine seL (leRow rfl rfl) rfl ?_)) trivial rfl rfl ?_ ?_
          · dsimp only; omega
          · refine ⟨?_, ?_, hgo ht⟩
            · dsimp only; omega
            · dsimp only; rw [Nat.pow_succ]; exact Nat.mul_le_mul hn (by omega)
    · have hiv : i = x.V := by omega
      have hlast : chkN x L = n := by
        unfold chkN; rw [if_pos hLV, hc, List.drop_eq_nil_of_le (by omega)]; rfl
      repeat' (
       conv => whnf
       first
       | refine ifd (fun h => ?_) (fun h => ?_)
       | ((with_reducible apply ob); ((first | rfl | assumption | omega | (unfold maxLen2; omega) | (dsimp only; omega) | (simp only [LN]; omega) | (simp; done) | (simp; omega)))))
      all_goals (conv => whnf)
      all_goals (first | (exfalso; omega) | skip)
      · exact fC rfl (by rw [hlast, show n = 0 by omega]; rfl)
      · refine fC rfl (by rw [hlast]; unfold chkD; rw [if_neg (by omega)]; rfl)
  · repeat' (
     conv => whnf
     first
     | refine ifd (fun h => ?_) (fun h => ?_)
     | refine ifn (fun h => ?_) (fun h => ?_)
     | with_reducible refine ivW (by omega) (by omega) ?_)
    all_goals (conv => whnf)
    all_goals (first | (exfalso; omega) | skip)
    have e : chkN x L = 0 := by unfold chkN; rw [if_neg hLV]
    exact fC rfl (by rw [e]; rfl)

end Go.Proofs.YthfcfdlbnfcboaaDoor.Pw

/- R06.Limited, R06.Made. -/
set_option linter.unusedVariables false
set_option linter.unusedSimpArgs false
set_option maxHeartbeats 1000000
set_option maxRecDepth 10000
namespace Go.Proofs.YthfcfdlbnfcboaaDoor.Pw
open Go

/-- What Limited computes. -/
def limV (l : List Nat) (most : Nat) : Nat := 1 + l.getD 1 0 % most
def limA (v : Nat) : Nat := 1 <<< v - 1
def limF (l : List Nat) (v : Nat) : Nat := l.getD 2 0 &&& limA v
def limN (l : List Nat) : Nat := 1 + l.getD 3 0 % 10
def turnsL (b v k : Nat) : List Nat := (List.range k).map fun t => turnN b v t
def pairL (p k : Nat) : List Nat := (List.range k).map fun q => 1 <<< p ||| 1 <<< q
def pairsL : Nat → List Nat
  | 0 => []
  | p + 1 => pairsL p ++ pairL p p
def planeL (v k : Nat) : List Nat := (List.range k).map fun t => turnN 11 7 t &&& limA v
def shrL (l : List Nat) (v k : Nat) : List Nat := (List.range k).map fun t => limF l v >>> (l.getD (4 + t) 0 % 2)
def triL (l : List Nat) (v k : Nat) : List Nat := ((List.range k).map fun t => l.getD (4 + t) 0 &&& limA v).filter fun b => decide (sizeN b = 3)
def anyL (l : List Nat) (v k : Nat) : List Nat := (List.range k).map fun t => l.getD (4 + t) 0 &&& limA v
def limL (l : List Nat) (v : Nat) : List Nat :=
  if l.getD 0 0 % 8 = 0 ∨ l.getD 0 0 % 8 = 1 then turnsL (limF l v) v v else
  if l.getD 0 0 % 8 = 2 then pairsL v else if l.getD 0 0 % 8 = 3 then planeL v 7 else
  if l.getD 0 0 % 8 = 4 then shrL l v (limN l) else if l.getD 0 0 % 8 = 5 then triL l v (limN l) else anyL l v (limN l)
def limX (l : List Nat) (most : Nat) : Inc := ⟨limV l most, sortL ((limL l (limV l most)).take 10)⟩
theorem limA_w {v : Nat} (h : v < 64) : W64 (limA v) := wSub (wOne h)
theorem turn_w {b v t : Nat} (hv : v ≤ 64) (h0 : 0 < v) : W64 (turnN b v t) := turnK_w hv h0 v
theorem ws_map {α : Type} {f : α → Nat} {l : List α} (h : ∀ a ∈ l, W64 (f a)) : Ws (l.map f) := by
  intro x hx
  obtain ⟨a, ha, rfl⟩ := List.mem_map.1 hx
  exact h a ha
theorem pairL_w {p : Nat} (h : p < 64) (k : Nat) (hk : k ≤ 64) : Ws (pairL p k) := ws_map fun q hq => wOr (wOne h) (wOne (by have := List.mem_range.1 hq; omega))
theorem ws_app {a b : List Nat} (ha : Ws a) (hb : Ws b) : Ws (a ++ b) := by
  intro x hx
  rcases List.mem_append.1 hx with h | h
  · exact ha x h
  · exact hb x h
theorem pairsL_w : ∀ p, p ≤ 64 → Ws (pairsL p)
  | 0, _ => by intro x hx; cases hx
  | p + 1, h => ws_app (pairsL_w p (by omega)) (pairL_w (by omega) p (by omega))
theorem pairs_len : ∀ p, (pairsL p).length ≤ p * p
  | 0 => Nat.le_refl _
  | p + 1 => by
    have := pairs_len p
    simp only [pairsL, pairL, List.length_append, List.length_map, List.length_range]
    have e : (p + 1) * (p + 1) = p * p + 2 * p + 1 := by rw [Nat.mul_add, Nat.add_mul]; omega
    omega
theorem triL_w {l : List Nat} {v : Nat} (hA : W64 (limA v)) (k : Nat) : Ws (triL l v k) := fun x hx => (ws_map (fun t _ => wAnd2 hA)) x ((List.mem_filter.1 hx).1)
theorem triL_len (l : List Nat) (v k : Nat) : (triL l v k).length ≤ k := Nat.le_trans (List.length_filter_le _ _) (by simp)
theorem triL_pos {l : List Nat} {v k : Nat} (h : sizeN (l.getD (4 + k) 0 &&& limA v) = 3) : triL l v (k + 1) = triL l v k ++ [l.getD (4 + k) 0 &&& limA v] := by
  simp only [triL, List.range_succ, List.map_append, List.filter_append, List.map_cons, List.map_nil, List.filter_cons, List.filter_nil, h, decide_true, if_true]
theorem triL_neg {l : List Nat} {v k : Nat} (h : ¬ sizeN (l.getD (4 + k) 0 &&& limA v) = 3) : triL l v (k + 1) = triL l v k := by
  simp only [triL, List.range_succ, List.map_append, List.filter_append, List.map_cons, List.map_nil, List.filter_cons, List.filter_nil, decide_eq_false h, Bool.false_eq_true, if_false, List.append_nil]
theorem ws_take {l : List Nat} (h : Ws l) (k : Nat) : Ws (l.take k) := fun x hx => h x (List.mem_of_mem_take hx)
theorem leTen {H : List Ob} {g : Nat} {l : List Nat} {len : Nat} (h : H.getD g .dead = .frz .leaf (setsL l)) (hl : len ≤ l.length) (he : l.take len = l.take 10) : LeD H (setsD (l.take 10)) (.sl g 0 len) :=
  leCut h (by simp; omega) (by rw [List.drop_zero, ← he]; simp [setsL, List.map_take])

theorem vLimited (l : List Nat) (most : Nat) (hR : ∀ x ∈ l, x < 256) (hm : 1 ≤ most) (hm7 : most ≤ 7) : Val Tryd.prog 8 [.agg [bytesD l], iD most] (fun r => r = (limX l most).D) := by
  have hl0 : (bytesL l).length = l.length := by simp
  have hgb : ∀ k, l.getD k 0 < 256 := fun k => by
    rw [List.getD]
    cases h : l[k]? with
    | none => simp
    | some y => exact hR y (List.mem_of_getElem? h)
  have hW : ∀ k, W64 (l.getD k 0) := fun k => Nat.lt_trans (hgb k) (by decide)
  have hg0 := hgb 0
  have hg1 := hgb 1
  have hg2 := hgb 2
  have hg3 := hgb 3
  have hm1 : l.getD 1 0 % most < most := Nat.mod_lt _ (by omega)
  have hm3 : l.getD 3 0 % 10 < 10 := Nat.mod_lt _ (by omega)
  obtain ⟨v, hv⟩ : ∃ v, v = limV l most := ⟨_, rfl⟩
  have hv1 : 1 ≤ v := by unfold limV at hv; omega
  have hv7 : v ≤ 7 := by unfold limV at hv; omega
  have hvi : (1 : Int) + ((l.getD 1 0 % most : Nat) : Int) = (v : Int) := by unfold limV at hv; omega
  obtain ⟨n, hn⟩ : ∃ n, n = limN l := ⟨_, rfl⟩
  have hn1 : 1 ≤ n := by unfold limN at hn; omega
  have hn7 : n ≤ 10 := by unfold limN at hn; omega
  have hni : (1 : Int) + ((l.getD 3 0 % 10 : Nat) : Int) = (n : Int) := by unfold limN at hn; omega
  have hA : W64 (limA v) := limA_w (by omega)
  have hF : W64 (limF l v) := wAnd2 hA
  have hS : W64 (1 <<< ((1 : Int) + ((l.getD 1 0 % most : Nat) : Int)).toNat - 1) := wSub (wOne (by omega))
  have hAe : D.int .u64 ((1 <<< ((1 : Int) + ((l.getD 1 0 % most : Nat) : Int)).toNat - 1 : Nat) : Int) = sD (limA v) := by rw [hvi]; rfl
  have hFe : D.int .u64 ((l.getD 2 0 &&& (1 <<< ((1 : Int) + ((l.getD 1 0 % most : Nat) : Int)).toNat - 1) : Nat) : Int) = sD (limF l v) := by rw [hvi]; rfl
  obtain ⟨q, hq⟩ : ∃ q, q = l.getD 0 0 % 8 := ⟨_, rfl⟩
  unfold limX limL
  rw [← hv, ← hn, ← hq]
  refine Val.ofV ?_
  refine hc_ofS (okc Tryd.f8.ntmps 0) (fn := Tryd.f8) (cd := _) rfl rfl rfl rfl rfl rfl (fun hbd => ?_)
  repeat' (
   conv => whnf
   first
   | refine ifd (fun h => ?_) (fun h => ?_)
   | with_reducible refine ivW (by omega) (by omega) ?_
   | ((with_reducible apply ivAnd); (rfl); (rfl); (focus ((repeat' (first | assumption | (exact hW _) | (unfold W64; first | omega | decide) | (exact Ws.get (by assumption) (by assumption)) | (exact wOne (by omega)) | (exact bit1_w (by omega)) | (exact wXorAnd (by assumption)) | (exact wSub (by assumption)) | apply wOr | (apply wAnd; assumption) | (apply wAnd2; assumption) | apply wShr)) <;> fail)); (focus ((repeat' (first | assumption | (exact hW _) | (unfold W64; first | omega | decide) | (exact Ws.get (by assumption) (by assumption)) | (exact wOne (by omega)) | (exact bit1_w (by omega)) | (exact wXorAnd (by assumption)) | (exact wSub (by assumption)) | apply wOr | (apply wAnd; assumption) | (apply wAnd2; assumption) | apply wShr)) <;> fail)))
   | ((with_reducible apply ivShl); (rfl); (rfl); (omega); (focus ((repeat' (first | assumption | (exact hW _) | (unfold W64; first | omega | decide) | (exact Ws.get (by assumption) (by assumption)) | (exact wOne (by omega)) | (exact bit1_w (by omega)) | (exact wXorAnd (by assumption)) | (exact wSub (by assumption)) | apply wOr | (apply wAnd; assumption) | (apply wAnd2; assumption) | apply wShr)) <;> fail)))
   | ((with_reducible apply ivSub); (rfl); (rfl); (first | exact one_pos _ | omega); (focus ((repeat' (first | assumption | (exact hW _) | (unfold W64; first | omega | decide) | (exact Ws.get (by assumption) (by assumption)) | (exact wOne (by omega)) | (exact bit1_w (by omega)) | (exact wXorAnd (by assumption)) | (exact wSub (by assumption)) | apply wOr | (apply wAnd; assumption) | (apply wAnd2; assumption) | apply wShr)) <;> fail)))
   | ((with_reducible apply ivU); (rfl); (focus ((repeat' (first | assumption | (exact hW _) | (unfold W64; first | omega | decide) | (exact Ws.get (by assumption) (by assumption)) | (exact wOne (by omega)) | (exact bit1_w (by omega)) | (exact wXorAnd (by assumption)) | (exact wSub (by assumption)) | apply wOr | (apply wAnd; assumption) | (apply wAnd2; assumption) | apply wShr)) <;> fail)))
   | ((with_reducible apply ivU1); (omega); (focus ((repeat' (first | assumption | (exact hW _) | (unfold W64; first | omega | decide) | (exact Ws.get (by assumption) (by assumption)) | (exact wOne (by omega)) | (exact bit1_w (by omega)) | (exact wXorAnd (by assumption)) | (exact wSub (by assumption)) | apply wOr | (apply wAnd; assumption) | (apply wAnd2; assumption) | apply wShr)) <;> fail)))
   | (refine ivModE (a := l.getD 0 0) (b := 8) hq.symm ?_)
   | (refine ivMod (a := l.getD 1 0) (b := most) ?_)
   | (refine ivMod (a := l.getD 3 0) (b := 10) ?_)
   | ((with_reducible refine hcI ?_); refine Val.call (vAt _ _ (by assumption)) (.refl _) (ler _ _) rfl ?_; rintro r rfl)
   | ((with_reducible refine pcI ?_); refine Val.pure (vAt _ _ (by assumption)) (ler _ _) rfl rfl ?_)
   | ((with_reducible apply drT 10); rfl)
   | ((with_reducible apply ob); ((first | rfl | assumption | omega | (unfold maxLen2; omega) | (dsimp only; omega) | (simp only [LN]; omega) | (simp; done) | (simp; omega)))))
  all_goals (conv => whnf)
  all_goals (first | (exfalso; omega) | skip)
  · refine lpX (X := Nat) (fun k => [(4, .ptr 1 []), (6, iD v), (8, sD (limF l v)), (9, .sl 2 0 k), (11, iD k)]) (fun k => [.var (.agg [bytesD l]), .var (.agg [.int .i64 0, .nils]), .row .leaf (setsL (turnsL (limF l v) v k))]) (fun k => k ≤ v) (fun k => v - k) ⟨_, nx (ρ := [0, 1, 2]) 0 (by repeat (first | exact trivial | refine seC rfl rfl ?_ | refine seC (congrArg (D.int .i64) hvi) rfl ?_ | refine seC (congrArg (D.int .i64) hni) rfl ?_ | refine seC hAe rfl ?_ | refine seC hFe rfl ?_)) (by repeat (first | exact trivial | refine shC rfl rfl ?_)) rfl rfl (Nat.lt_succ_self _) (Nat.zero_le _)⟩ ?_
    intro k hk
    have hws : Ws (turnsL (limF l v) v k) := ws_map fun t _ => turn_w (by omega) (by omega)
    have hlen : (turnsL (limF l v) v k).length = k := by simp [turnsL]
    have hlen2 : (setsL (turnsL (limF l v) v k)).length = (turnsL (limF l v) v k).length := setsL_len _
    repeat' (
     conv => whnf
     first
     | refine ifd (fun h => ?_) (fun h => ?_)
     | with_reducible refine ivW (by omega) (by omega) ?_
     | ((with_reducible refine hcI ?_); refine Val.call (vSorted ((turnsL (limF l v) v k).take 10) (ws_take hws 10) (by simp; omega)) (.step 2 .leaf (setsL (turnsL (limF l v) v k)) rfl (cl_sets _) (.refl _)) (.cons _ _ _ _ (leTen rfl (by omega) (by first | rfl | (rw [List.take_of_length_le (by omega), List.take_of_length_le (by omega)]))) .nil) rfl ?_; rintro r rfl)
     | ((with_reducible refine hcI ?_); refine Val.call (vTurned _ _ _ (by (repeat' (first | assumption | (exact hW _) | (unfold W64; first | omega | decide) | (exact Ws.get (by assumption) (by assumption)) | (exact wOne (by omega)) | (exact bit1_w (by omega)) | (exact wXorAnd (by assumption)) | (exact wSub (by assumption)) | apply wOr | (apply wAnd; assumption) | (apply wAnd2; assumption) | apply wShr)) <;> fail) (by omega) (by omega) (by omega)) (.refl _) (ler _ _) rfl ?_; rintro r rfl)
     | ((with_reducible apply ob); ((first | rfl | assumption | omega | (unfold maxLen2; omega) | (dsimp only; omega) | (simp only [LN]; omega) | (simp; done) | (simp; omega)))))
    all_goals (conv => whnf)
    · exact nx (ρ := [0, 1, 4]) (k + 1) (by repeat (first | exact trivial | refine seC rfl rfl ?_ | refine seL (leRow rfl rfl) rfl ?_)) (shC rfl rfl (shC rfl rfl (shR rfl (by simp [turnsL, setsL, sD, List.range_succ, List.take_of_length_le]) (cl_sets _) trivial))) rfl rfl (by omega) (by omega)
    all_goals (have hkv : k = v := (by omega); subst hkv; refine fC rfl ?_; rw [if_pos (by omega)]; try rfl)
  · refine lpX (X := Nat) (fun k => [(4, .ptr 1 []), (6, iD v), (8, sD (limF l v)), (9, .sl 2 0 k), (11, iD k)]) (fun k => [.var (.agg [bytesD l]), .var (.agg [.int .i64 0, .nils]), .row .leaf (setsL (turnsL (limF l v) v k))]) (fun k => k ≤ v) (fun k => v - k) ⟨_, nx (ρ := [0, 1, 2]) 0 (by repeat (first | exact trivial | refine seC rfl rfl ?_ | refine seC (congrArg (D.int .i64) hvi) rfl ?_ | refine seC (congrArg (D.int .i64) hni) rfl ?_ | refine seC hAe rfl ?_ | refine seC hFe rfl ?_)) (by repeat (first | exact trivial | refine shC rfl rfl ?_)) rfl rfl (Nat.lt_succ_self _) (Nat.zero_le _)⟩ ?_
    intro k hk
    have hws : Ws (turnsL (limF l v) v k) := ws_map fun t _ => turn_w (by omega) (by omega)
    have hlen : (turnsL (limF l v) v k).length = k := by simp [turnsL]
    have hlen2 : (setsL (turnsL (limF l v) v k)).length = (turnsL (limF l v) v k).length := setsL_len _
    repeat' (
     conv => whnf
     first
     | refine ifd (fun h => ?_) (fun h => ?_)
     | with_reducible refine ivW (by omega) (by omega) ?_
     | ((with_reducible refine hcI ?_); refine Val.call (vSorted ((turnsL (limF l v) v k).take 10) (ws_take hws 10) (by simp; omega)) (.step 2 .leaf (setsL (turnsL (limF l v) v k)) rfl (cl_sets _) (.refl _)) (.cons _ _ _ _ (leTen rfl (by omega) (by first | rfl | (rw [List.take_of_length_le (by omega), List.take_of_length_le (by omega)]))) .nil) rfl ?_; rintro r rfl)
     | ((with_reducible refine hcI ?_); refine Val.call (vTurned _ _ _ (by (repeat' (first | assumption | (exact hW _) | (unfold W64; first | omega | decide) | (exact Ws.get (by assumption) (by assumption)) | (exact wOne (by omega)) | (exact bit1_w (by omega)) | (exact wXorAnd (by assumption)) | (exact wSub (by assumption)) | apply wOr | (apply wAnd; assumption) | (apply wAnd2; assumption) | apply wShr)) <;> fail) (by omega) (by omega) (by omega)) (.refl _) (ler _ _) rfl ?_; rintro r rfl)
     | ((with_reducible apply ob); ((first | rfl | assumption | omega | (unfold maxLen2; omega) | (dsimp only; omega) | (simp only [LN]; omega) | (simp; done) | (simp; omega)))))
    all_goals (conv => whnf)
    · exact nx (ρ := [0, 1, 4]) (k + 1) (by repeat (first | exact trivial | refine seC rfl rfl ?_ | refine seL (leRow rfl rfl) rfl ?_)) (shC rfl rfl (shC rfl rfl (shR rfl (by simp [turnsL, setsL, sD, List.range_succ, List.take_of_length_le]) (cl_sets _) trivial))) rfl rfl (by omega) (by omega)
    all_goals (have hkv : k = v := (by omega); subst hkv; refine fC rfl ?_; rw [if_pos (by omega)]; try rfl)
  · refine lpX (X := Nat) (fun k => [(4, .ptr 1 []), (6, iD v), (9, .sl 2 0 (pairsL k).length), (12, iD k)]) (fun k => [.var (.agg [bytesD l]), .var (.agg [.int .i64 0, .nils]), .row .leaf (setsL (pairsL k))]) (fun k => k ≤ v) (fun k => v - k) ⟨_, nx (ρ := [0, 1, 2]) 0 (by repeat (first | exact trivial | refine seC rfl rfl ?_ | refine seC (congrArg (D.int .i64) hvi) rfl ?_ | refine seC (congrArg (D.int .i64) hni) rfl ?_ | refine seC hAe rfl ?_ | refine seC hFe rfl ?_)) (by repeat (first | exact trivial | refine shC rfl rfl ?_)) rfl rfl (Nat.lt_succ_self _) (Nat.zero_le _)⟩ ?_
    intro k hk
    have hws : Ws (pairsL k) := pairsL_w k (by omega)
    have hlen := pairs_len k
    have hkk : k * k ≤ 49 := Nat.mul_le_mul (show k ≤ 7 by omega) (show k ≤ 7 by omega)
    have hlen2 : (setsL (pairsL k)).length = (pairsL k).length := setsL_len _
    repeat' (
     conv => whnf
     first
     | refine ifd (fun h => ?_) (fun h => ?_)
     | ((with_reducible refine hcI ?_); refine Val.call (vSorted ((pairsL k).take 10) (ws_take hws 10) (by simp; omega)) (.step 2 .leaf (setsL (pairsL k)) rfl (cl_sets _) (.refl _)) (.cons _ _ _ _ (leTen rfl (by omega) (by first | rfl | (rw [List.take_of_length_le (by omega), List.take_of_length_le (by omega)]))) .nil) rfl ?_; rintro r rfl)
     | ((with_reducible apply ob); ((first | rfl | assumption | omega | (unfold maxLen2; omega) | (dsimp only; omega) | (simp only [LN]; omega) | (simp; done) | (simp; omega)))))
    all_goals (conv => whnf)
    · refine lpX (X := Nat) (fun j => [(4, .ptr 1 []), (6, iD v), (9, .sl 2 0 (pairsL k ++ pairL k j).length), (12, iD k), (13, iD j)]) (fun j => [.var (.agg [bytesD l]), .var (.agg [.int .i64 0, .nils]), .row .leaf (setsL (pairsL k ++ pairL k j))]) (fun j => j ≤ k) (fun j => k - j) ⟨_, nx (ρ := [0, 1, 2]) 0 (by repeat (first | exact trivial | refine seC rfl rfl ?_ | refine seC (by simp [pairL]; rfl) rfl ?_)) (shC rfl rfl (shC rfl rfl (shR rfl (by simp [pairL]) (cl_sets _) trivial))) rfl rfl (Nat.lt_succ_self _) (Nat.zero_le _)⟩ ?_
      intro j hj
      have hl3 : (pairsL k ++ pairL k j).length = (pairsL k).length + j := by simp [pairL]
      have hl4 : (setsL (pairsL k ++ pairL k j)).length = (pairsL k).length + j := by rw [setsL_len, hl3]
      have hl5 : (pairsL k ++ pairL k (j + 1)).length = (pairsL k).length + (j + 1) := by simp [pairL]
      have hw6 : ∀ t, t ≤ 7 → W64 (1 <<< t) := fun t ht => wOne (by omega)
      repeat' (
       conv => whnf
       first
       | refine ifd (fun h => ?_) (fun h => ?_)
       | with_reducible refine ivW (by omega) (by omega) ?_
       | ((with_reducible apply ivOr); (rfl); (rfl); (focus ((repeat' (first | assumption | (exact hW _) | (unfold W64; first | omega | decide) | (exact Ws.get (by assumption) (by assumption)) | (exact wOne (by omega)) | (exact bit1_w (by omega)) | (exact wXorAnd (by assumption)) | (exact wSub (by assumption)) | apply wOr | (apply wAnd; assumption) | (apply wAnd2; assumption) | apply wShr)) <;> fail)); (focus ((repeat' (first | assumption | (exact hW _) | (unfold W64; first | omega | decide) | (exact Ws.get (by assumption) (by assumption)) | (exact wOne (by omega)) | (exact bit1_w (by omega)) | (exact wXorAnd (by assumption)) | (exact wSub (by assumption)) | apply wOr | (apply wAnd; assumption) | (apply wAnd2; assumption) | apply wShr)) <;> fail)))
       | ((with_reducible apply ivShl); (rfl); (rfl); (omega); (focus ((repeat' (first | assumption | (exact hW _) | (unfold W64; first | omega | decide) | (exact Ws.get (by assumption) (by assumption)) | (exact wOne (by omega)) | (exact bit1_w (by omega)) | (exact wXorAnd (by assumption)) | (exact wSub (by assumption)) | apply wOr | (apply wAnd; assumption) | (apply wAnd2; assumption) | apply wShr)) <;> fail)))
       | ((with_reducible apply ivU); (rfl); (focus ((repeat' (first | assumption | (exact hW _) | (unfold W64; first | omega | decide) | (exact Ws.get (by assumption) (by assumption)) | (exact wOne (by omega)) | (exact bit1_w (by omega)) | (exact wXorAnd (by assumption)) | (exact wSub (by assumption)) | apply wOr | (apply wAnd; assumption) | (apply wAnd2; assumption) | apply wShr)) <;> fail)))
       | ((with_reducible apply ob); ((first | rfl | assumption | omega | (unfold maxLen2; omega) | (dsimp only; omega) | (simp only [LN]; omega) | (simp; done) | (simp; omega))))
       | with_reducible refine ob (side_in ?_) ?_)
      all_goals (conv => whnf)
      · exact side_out (by unfold maxLen2; rw [hl3]; show _ + 1 ≤ _; omega)
      · exact nx (ρ := [0, 1, 4]) (j + 1) (seC rfl rfl (seC rfl rfl (seC (show D.sl 4 0 ((pairsL k ++ pairL k j).length + 1) = D.sl 4 0 (pairsL k ++ pairL k (j + 1)).length from by rw [hl3, hl5]; rfl) rfl (seC rfl rfl (seC rfl rfl trivial))))) (shC rfl rfl (shC rfl rfl (shR rfl (by simp [pairL, setsL, sD, List.range_succ, List.take_of_length_le]) (cl_sets _) trivial))) rfl rfl (by omega) (by omega)
      · have hjk : j = k := by omega
        subst hjk
        exact nx0 (j + 1) (by repeat (first | exact trivial | refine se0 rfl ?_)) rfl (by omega) (by omega)
    all_goals (have hkv : k = v := (by omega); subst hkv; refine fC rfl ?_; rw [if_neg (by omega), if_pos (by omega)]; try rfl)
  · refine lpX (X := Nat) (fun k => [(4, .ptr 1 []), (6, iD v), (7, sD (limA v)), (9, .sl 2 0 k), (14, iD k)]) (fun k => [.var (.agg [bytesD l]), .var (.agg [.int .i64 0, .nils]), .row .leaf (setsL (planeL v k))]) (fun k => k ≤ 7) (fun k => 7 - k) ⟨_, nx (ρ := [0, 1, 2]) 0 (by repeat (first | exact trivial | refine seC rfl rfl ?_ | refine seC (congrArg (D.int .i64) hvi) rfl ?_ | refine seC (congrArg (D.int .i64) hni) rfl ?_ | refine seC hAe rfl ?_ | refine seC hFe rfl ?_)) (by repeat (first | exact trivial | refine shC rfl rfl ?_)) rfl rfl (Nat.lt_succ_self _) (Nat.zero_le _)⟩ ?_
    intro k hk
    have hws : Ws (planeL v k) := ws_map fun t _ => wAnd2 hA
    have hlen : (planeL v k).length = k := by simp [planeL]
    have hlen2 : (setsL (planeL v k)).length = (planeL v k).length := setsL_len _
    have htn : Val Tryd.prog 36 [.int .u64 11, .int .i64 7, .int .i64 (k : Int)] (fun r => r = sD (turnN 11 7 k)) := vTurned 11 7 k (by unfold W64; omega) (by omega) (by omega) (by omega)
    have hW2 : W64 (turnN 11 7 k) := turn_w (by omega) (by omega)
    repeat' (
     conv => whnf
     first
     | refine ifd (fun h => ?_) (fun h => ?_)
     | with_reducible refine ivW (by omega) (by omega) ?_
     | ((with_reducible apply ivAnd); (rfl); (rfl); (focus ((repeat' (first | assumption | (exact hW _) | (unfold W64; first | omega | decide) | (exact Ws.get (by assumption) (by assumption)) | (exact wOne (by omega)) | (exact bit1_w (by omega)) | (exact wXorAnd (by assumption)) | (exact wSub (by assumption)) | apply wOr | (apply wAnd; assumption) | (apply wAnd2; assumption) | apply wShr)) <;> fail)); (focus ((repeat' (first | assumption | (exact hW _) | (unfold W64; first | omega | decide) | (exact Ws.get (by assumption) (by assumption)) | (exact wOne (by omega)) | (exact bit1_w (by omega)) | (exact wXorAnd (by assumption)) | (exact wSub (by assumption)) | apply wOr | (apply wAnd; assumption) | (apply wAnd2; assumption) | apply wShr)) <;> fail)))
     | ((with_reducible refine hcI ?_); refine Val.call htn (.refl _) (ler _ _) rfl ?_; rintro r rfl)
     | ((with_reducible refine hcI ?_); refine Val.call (vSorted ((planeL v k).take 10) (ws_take hws 10) (by simp; omega)) (.step 2 .leaf (setsL (planeL v k)) rfl (cl_sets _) (.refl _)) (.cons _ _ _ _ (leTen rfl (by omega) (by first | rfl | (rw [List.take_of_length_le (by omega), List.take_of_length_le (by omega)]))) .nil) rfl ?_; rintro r rfl)
     | ((with_reducible apply ob); ((first | rfl | assumption | omega | (unfold maxLen2; omega) | (dsimp only; omega) | (simp only [LN]; omega) | (simp; done) | (simp; omega)))))
    all_goals (conv => whnf)
    · exact nx (ρ := [0, 1, 4]) (k + 1) (by repeat (first | exact trivial | refine seC rfl rfl ?_ | refine seL (leRow rfl rfl) rfl ?_)) (shC rfl rfl (shC rfl rfl (shR rfl (by simp [planeL, setsL, sD, List.range_succ, List.take_of_length_le]) (cl_sets _) trivial))) rfl rfl (by omega) (by omega)
    all_goals (have hkv : k = 7 := (by omega); subst hkv; refine fC rfl ?_; rw [if_neg (by omega), if_neg (by omega), if_pos (by omega)]; try rfl)
  · refine lpX (X := Nat) (fun k => [(2, .ptr 0 []), (4, .ptr 1 []), (6, iD v), (8, sD (limF l v)), (9, .sl 2 0 k), (10, iD n), (15, iD k)]) (fun k => [.var (.agg [bytesD l]), .var (.agg [.int .i64 0, .nils]), .row .leaf (setsL (shrL l v k))]) (fun k => k ≤ n) (fun k => n - k) ⟨_, nx (ρ := [0, 1, 2]) 0 (by repeat (first | exact trivial | refine seC rfl rfl ?_ | refine seC (congrArg (D.int .i64) hvi) rfl ?_ | refine seC (congrArg (D.int .i64) hni) rfl ?_ | refine seC hAe rfl ?_ | refine seC hFe rfl ?_)) (by repeat (first | exact trivial | refine shC rfl rfl ?_)) rfl rfl (Nat.lt_succ_self _) (Nat.zero_le _)⟩ ?_
    intro k hk
    have hws : Ws (shrL l v k) := ws_map fun t _ => wShr hF
    have hlen : (shrL l v k).length = k := by simp [shrL]
    have hlen2 : (setsL (shrL l v k)).length = (shrL l v k).length := setsL_len _
    have hk4 : iD (4 + k) = .int .i64 ((4 : Int) + (k : Int)) := by show D.int _ _ = _; rw [Int.natCast_add]; rfl
    have hat := vAt l (4 + k) hR
    rw [hk4] at hat
    have hm2 : l.getD (4 + k) 0 % 2 < 2 := Nat.mod_lt _ (by omega)
    repeat' (
     conv => whnf
     first
     | refine ifd (fun h => ?_) (fun h => ?_)
     | with_reducible refine ivW (by omega) (by omega) ?_
     | ((with_reducible apply ivShr); (rfl); (rfl); (omega))
     | ((with_reducible apply ivU); (rfl); (focus ((repeat' (first | assumption | (exact hW _) | (unfold W64; first | omega | decide) | (exact Ws.get (by assumption) (by assumption)) | (exact wOne (by omega)) | (exact bit1_w (by omega)) | (exact wXorAnd (by assumption)) | (exact wSub (by assumption)) | apply wOr | (apply wAnd; assumption) | (apply wAnd2; assumption) | apply wShr)) <;> fail)))
     | ((with_reducible refine hcI ?_); refine Val.call hat (.refl _) (ler _ _) rfl ?_; rintro r rfl)
     | (refine ivMod (a := l.getD (4 + k) 0) (b := 2) ?_)
     | ((with_reducible refine hcI ?_); refine Val.call (vSorted ((shrL l v k).take 10) (ws_take hws 10) (by simp; omega)) (.step 2 .leaf (setsL (shrL l v k)) rfl (cl_sets _) (.refl _)) (.cons _ _ _ _ (leTen rfl (by omega) (by first | rfl | (rw [List.take_of_length_le (by omega), List.take_of_length_le (by omega)]))) .nil) rfl ?_; rintro r rfl)
     | ((with_reducible apply ob); ((first | rfl | assumption | omega | (unfold maxLen2; omega) | (dsimp only; omega) | (simp only [LN]; omega) | (simp; done) | (simp; omega)))))
    all_goals (conv => whnf)
    · exact nx (ρ := [0, 1, 4]) (k + 1) (by repeat (first | exact trivial | refine seC rfl rfl ?_ | refine seL (leRow rfl rfl) rfl ?_)) (shC rfl rfl (shC rfl rfl (shR rfl (by simp [shrL, setsL, sD, List.range_succ, List.take_of_length_le]) (cl_sets _) trivial))) rfl rfl (by omega) (by omega)
    all_goals (have hkv : k = n := (by omega); subst hkv; refine fC rfl ?_; rw [if_neg (by omega), if_neg (by omega), if_neg (by omega), if_pos (by omega)]; try rfl)
  · refine lpX (X := Nat) (fun k => [(2, .ptr 0 []), (4, .ptr 1 []), (6, iD v), (7, sD (limA v)), (9, .sl 2 0 (triL l v k).length), (10, iD n), (16, iD k)]) (fun k => [.var (.agg [bytesD l]), .var (.agg [.int .i64 0, .nils]), .row .leaf (setsL (triL l v k))]) (fun k => k ≤ n) (fun k => n - k) ⟨_, nx (ρ := [0, 1, 2]) 0 (by repeat (first | exact trivial | refine seC rfl rfl ?_ | refine seC (congrArg (D.int .i64) hvi) rfl ?_ | refine seC (congrArg (D.int .i64) hni) rfl ?_ | refine seC hAe rfl ?_ | refine seC hFe rfl ?_)) (by repeat (first | exact trivial | refine shC rfl rfl ?_)) rfl rfl (Nat.lt_succ_self _) (Nat.zero_le _)⟩ ?_
    intro k hk
    have hws : Ws (triL l v k) := triL_w hA k
    have hlen : (triL l v k).length ≤ k := by exact triL_len l v k
    have hlen2 : (setsL (triL l v k)).length = (triL l v k).length := setsL_len _
    have hk4 : iD (4 + k) = .int .i64 ((4 : Int) + (k : Int)) := by show D.int _ _ = _; rw [Int.natCast_add]; rfl
    have hat := vAt l (4 + k) hR
    rw [hk4] at hat
    have hm2 : l.getD (4 + k) 0 % 2 < 2 := Nat.mod_lt _ (by omega)
    repeat' (
     conv => whnf
     first
     | refine ifd (fun h => ?_) (fun h => ?_)
     | with_reducible refine ivW (by omega) (by omega) ?_
     | ((with_reducible apply ivAnd); (rfl); (rfl); (focus ((repeat' (first | assumption | (exact hW _) | (unfold W64; first | omega | decide) | (exact Ws.get (by assumption) (by assumption)) | (exact wOne (by omega)) | (exact bit1_w (by omega)) | (exact wXorAnd (by assumption)) | (exact wSub (by assumption)) | apply wOr | (apply wAnd; assumption) | (apply wAnd2; assumption) | apply wShr)) <;> fail)); (focus ((repeat' (first | assumption | (exact hW _) | (unfold W64; first | omega | decide) | (exact Ws.get (by assumption) (by assumption)) | (exact wOne (by omega)) | (exact bit1_w (by omega)) | (exact wXorAnd (by assumption)) | (exact wSub (by assumption)) | apply wOr | (apply wAnd; assumption) | (apply wAnd2; assumption) | apply wShr)) <;> fail)))
     | ((with_reducible apply ivU); (rfl); (focus ((repeat' (first | assumption | (exact hW _) | (unfold W64; first | omega | decide) | (exact Ws.get (by assumption) (by assumption)) | (exact wOne (by omega)) | (exact bit1_w (by omega)) | (exact wXorAnd (by assumption)) | (exact wSub (by assumption)) | apply wOr | (apply wAnd; assumption) | (apply wAnd2; assumption) | apply wShr)) <;> fail)))
     | ((with_reducible refine hcI ?_); refine Val.call hat (.refl _) (ler _ _) rfl ?_; rintro r rfl)
     | ((with_reducible refine hcI ?_); refine Val.call (vSorted ((triL l v k).take 10) (ws_take hws 10) (by simp; omega)) (.step 2 .leaf (setsL (triL l v k)) rfl (cl_sets _) (.refl _)) (.cons _ _ _ _ (leTen rfl (by omega) (by first | rfl | (rw [List.take_of_length_le (by omega), List.take_of_length_le (by omega)]))) .nil) rfl ?_; rintro r rfl)
     | ((with_reducible refine hcI ?_); refine Val.call (vSize _ (by (repeat' (first | assumption | (exact hW _) | (unfold W64; first | omega | decide) | (exact Ws.get (by assumption) (by assumption)) | (exact wOne (by omega)) | (exact bit1_w (by omega)) | (exact wXorAnd (by assumption)) | (exact wSub (by assumption)) | apply wOr | (apply wAnd; assumption) | (apply wAnd2; assumption) | apply wShr)) <;> fail)) (.refl _) (ler _ _) rfl ?_; rintro r rfl)
     | ((with_reducible apply ob); ((first | rfl | assumption | omega | (unfold maxLen2; omega) | (dsimp only; omega) | (simp only [LN]; omega) | (simp; done) | (simp; omega)))))
    all_goals (conv => whnf)
    · exact nx (ρ := [0, 1, 4]) (k + 1) (by repeat (first | exact trivial | refine seC rfl rfl ?_ | refine seC (show D.sl 4 0 ((triL l v k).length + 1) = D.sl 4 0 (triL l v (k + 1)).length from by rw [triL_pos (by omega)]; simp) rfl ?_)) (shC rfl rfl (shC rfl rfl (shR rfl (by rw [triL_pos (by omega)]; simp [setsL, sD, List.take_of_length_le]) (cl_sets _) trivial))) rfl rfl (by omega) (by omega)
    · have e := triL_neg (l := l) (v := v) (k := k) (by omega)
      exact nx0 (k + 1) (by repeat (first | exact trivial | refine se0 rfl ?_ | refine se0 (by rw [e]; rfl) ?_)) (by rw [e]) (by omega) (by omega)
    all_goals (have hkv : k = n := (by omega); subst hkv; refine fC rfl ?_; rw [if_neg (by omega), if_neg (by omega), if_neg (by omega), if_neg (by omega), if_pos (by omega)]; try rfl)
  · refine lpX (X := Nat) (fun k => [(2, .ptr 0 []), (4, .ptr 1 []), (6, iD v), (7, sD (limA v)), (9, .sl 2 0 k), (10, iD n), (18, iD k)]) (fun k => [.var (.agg [bytesD l]), .var (.agg [.int .i64 0, .nils]), .row .leaf (setsL (anyL l v k))]) (fun k => k ≤ n) (fun k => n - k) ⟨_, nx (ρ := [0, 1, 2]) 0 (by repeat (first | exact trivial | refine seC rfl rfl ?_ | refine seC (congrArg (D.int .i64) hvi) rfl ?_ | refine seC (congrArg (D.int .i64) hni) rfl ?_ | refine seC hAe rfl ?_ | refine seC hFe rfl ?_)) (by repeat (first | exact trivial | refine shC rfl rfl ?_)) rfl rfl (Nat.lt_succ_self _) (Nat.zero_le _)⟩ ?_
    intro k hk
    have hws : Ws (anyL l v k) := ws_map fun t _ => wAnd2 hA
    have hlen : (anyL l v k).length = k := by simp [anyL]
    have hlen2 : (setsL (anyL l v k)).length = (anyL l v k).length := setsL_len _
    have hk4 : iD (4 + k) = .int .i64 ((4 : Int) + (k : Int)) := by show D.int _ _ = _; rw [Int.natCast_add]; rfl
    have hat := vAt l (4 + k) hR
    rw [hk4] at hat
    have hm2 : l.getD (4 + k) 0 % 2 < 2 := Nat.mod_lt _ (by omega)
    repeat' (
     conv => whnf
     first
     | refine ifd (fun h => ?_) (fun h => ?_)
     | with_reducible refine ivW (by omega) (by omega) ?_
     | ((with_reducible apply ivAnd); (rfl); (rfl); (focus ((repeat' (first | assumption | (exact hW _) | (unfold W64; first | omega | decide) | (exact Ws.get (by assumption) (by assumption)) | (exact wOne (by omega)) | (exact bit1_w (by omega)) | (exact wXorAnd (by assumption)) | (exact wSub (by assumption)) | apply wOr | (apply wAnd; assumption) | (apply wAnd2; assumption) | apply wShr)) <;> fail)); (focus ((repeat' (first | assumption | (exact hW _) | (unfold W64; first | omega | decide) | (exact Ws.get (by assumption) (by assumption)) | (exact wOne (by omega)) | (exact bit1_w (by omega)) | (exact wXorAnd (by assumption)) | (exact wSub (by assumption)) | apply wOr | (apply wAnd; assumption) | (apply wAnd2; assumption) | apply wShr)) <;> fail)))
     | ((with_reducible apply ivU); (rfl); (focus ((repeat' (first | assumption | (exact hW _) | (unfold W64; first | omega | decide) | (exact Ws.get (by assumption) (by assumption)) | (exact wOne (by omega)) | (exact bit1_w (by omega)) | (exact wXorAnd (by assumption)) | (exact wSub (by assumption)) | apply wOr | (apply wAnd; assumption) | (apply wAnd2; assumption) | apply wShr)) <;> fail)))
     | ((with_reducible refine hcI ?_); refine Val.call hat (.refl _) (ler _ _) rfl ?_; rintro r rfl)
     | ((with_reducible refine hcI ?_); refine Val.call (vSorted ((anyL l v k).take 10) (ws_take hws 10) (by simp; omega)) (.step 2 .leaf (setsL (anyL l v k)) rfl (cl_sets _) (.refl _)) (.cons _ _ _ _ (leTen rfl (by omega) (by first | rfl | (rw [List.take_of_length_le (by omega), List.take_of_length_le (by omega)]))) .nil) rfl ?_; rintro r rfl)
     | ((with_reducible apply ob); ((first | rfl | assumption | omega | (unfold maxLen2; omega) | (dsimp only; omega) | (simp only [LN]; omega) | (simp; done) | (simp; omega)))))
    all_goals (conv => whnf)
    · exact nx (ρ := [0, 1, 4]) (k + 1) (by repeat (first | exact trivial | refine seC rfl rfl ?_ | refine seL (leRow rfl rfl) rfl ?_)) (shC rfl rfl (shC rfl rfl (shR rfl (by simp [anyL, setsL, sD, List.range_succ, List.take_of_length_le]) (cl_sets _) trivial))) rfl rfl (by omega) (by omega)
    all_goals (have hkv : k = n := (by omega); subst hkv; refine fC rfl ?_; rw [if_neg (by omega), if_neg (by omega), if_neg (by omega), if_neg (by omega), if_neg (by omega)]; try rfl)

end Go.Proofs.YthfcfdlbnfcboaaDoor.Pw

/- R06.Made, and that it makes structures as the library keeps them; small functions of law20. -/
set_option linter.unusedVariables false
set_option linter.unusedSimpArgs false
set_option maxHeartbeats 1000000
set_option maxRecDepth 10000
namespace Go.Proofs.YthfcfdlbnfcboaaDoor.Pw
open Go

theorem limA_lt (v : Nat) : limA v < 2 ^ v := by
  unfold limA; rw [Nat.one_shiftLeft]
  have := Nat.one_le_two_pow (n := v); omega
theorem one_lt {p v : Nat} (h : p < v) : 1 <<< p < 2 ^ v := by rw [Nat.one_shiftLeft]; exact Nat.pow_lt_pow_right (by decide) h
theorem turnK_lt {b v t : Nat} (h0 : 0 < v) : ∀ k, turnK b v t k < 2 ^ v
  | 0 => Nat.pow_pos (by decide)
  | k + 1 => by
    unfold turnK
    split
    · exact Nat.or_lt_two_pow (turnK_lt h0 k) (one_lt (Nat.mod_lt _ h0))
    · exact turnK_lt h0 k
theorem pairsL_lt {v : Nat} : ∀ p, p ≤ v → ∀ b ∈ pairsL p, b < 2 ^ v
  | 0, _, b, h => by cases h
  | p + 1, hp, b, h => by
    rcases List.mem_append.1 h with h | h
    · exact pairsL_lt p (by omega) b h
    · obtain ⟨q, hq, rfl⟩ := List.mem_map.1 h
      have := List.mem_range.1 hq
      exact Nat.or_lt_two_pow (one_lt (by omega)) (one_lt (by omega))
theorem and_lt {a v : Nat} : a &&& limA v < 2 ^ v := Nat.lt_of_le_of_lt Nat.and_le_right (limA_lt v)
theorem limL_lt (l : List Nat) {v : Nat} (h0 : 0 < v) : ∀ b ∈ limL l v, b < 2 ^ v := by
  intro b hb
  unfold limL at hb
  split at hb
  · obtain ⟨t, _, rfl⟩ := List.mem_map.1 hb; exact turnK_lt h0 v
  · split at hb
    · exact pairsL_lt v (Nat.le_refl _) b hb
    · split at hb
      · obtain ⟨t, _, rfl⟩ := List.mem_map.1 hb; exact and_lt
      · split at hb
        · obtain ⟨t, _, rfl⟩ := List.mem_map.1 hb
          exact Nat.lt_of_le_of_lt (by rw [Nat.shiftRight_eq_div_pow]; exact Nat.div_le_self _ _) (show limF l v < 2 ^ v from and_lt)
        · split at hb
          · obtain ⟨t, _, rfl⟩ := List.mem_map.1 (List.mem_filter.1 hb).1; exact and_lt
          · obtain ⟨t, _, rfl⟩ := List.mem_map.1 hb; exact and_lt
theorem limX_fam (l : List Nat) {most : Nat} (hm : 1 ≤ most) (hm7 : most ≤ 7) : (limX l most).Fam := by
  have h1 : l.getD 1 0 % most < most := Nat.mod_lt _ (by omega)
  have hv7 : limV l most ≤ 7 := by unfold limV; omega
  have hv1 : 1 ≤ limV l most := by unfold limV; omega
  have hlt : ∀ b ∈ (limX l most).B, b < 2 ^ limV l most := fun b hb => limL_lt l hv1 b (List.mem_of_mem_take ((sortL_perm _).mem_iff.1 hb))
  have h2 : 2 ^ limV l most ≤ 2 ^ 7 := Nat.pow_le_pow_right (by decide) hv7
  refine ⟨⟨hv1, by show limV l most ≤ 16; omega, fun b hb => ?_, ?_⟩, hv7, sortL_srt _, hlt⟩
  · have := hlt b hb; unfold W64; omega
  · show (sortL _).length ≤ 12
    rw [(sortL_perm _).length_eq, List.length_take]; omega
theorem limX_v (l : List Nat) {most : Nat} (hm : 1 ≤ most) : (limX l most).V ≤ most := by
  have h1 : l.getD 1 0 % most < most := Nat.mod_lt _ (by omega)
  show limV l most ≤ most; unfold limV; omega
theorem Inc.Fam.bits {x : Inc} (h : x.Fam) : ∀ s ∈ x.B, ∀ p ∈ bitsL s, p < x.V := fun s hs p hp => bits_lt (h.lt s hs) ((bitsL_mem _ _).1 hp).2
theorem vMadeR (l : List Nat) (hR : ∀ x ∈ l, x < 256) : Val Tryd.prog 21 [.agg [bytesD l]] (fun r => r = (limX l 7).D) := by
  have h := vLimited l 7 hR (by omega) (by omega)
  refine Val.ofV ?_
  refine hc_ofS (okc Tryd.f21.ntmps 0) (fn := Tryd.f21) (cd := _) rfl rfl rfl rfl rfl rfl (fun hbd => ?_)
  repeat' (
   conv => whnf
   first
   | ((with_reducible refine hcI ?_); refine Val.call h (.refl _) (ler _ _) rfl ?_; rintro r rfl))
  all_goals (conv => whnf)
  exact fC rfl rfl
theorem vProved (x : Inc) (hx : x.Fam) : Val Tryd.prog 9 [x.D] (fun r => r = .agg [prfI ((List.range x.V).map fun i => toI (lvK x i (x.V - i))), .int .i64 0]) := by
  have h := vLawProved x hx.ok hx.v7
  rw [prf_D] at h
  exact h
theorem vChecked (x : Inc) (hx : x.Fam) (L : List Lvl) (hL : ∀ l ∈ L, l.1.length ≤ 1000000 ∧ l.2.length ≤ 1000000) : Val Tryd.prog 14 [x.D, prfI L] (fun r => r = .agg [iD (chkN x L), .int .i64 (if chkN x L = 0 then 200 else 0)]) := by
  have h := vGCheck x hx.ok hx.v7 hx.bits L hL
  refine Val.ofV ?_
  refine hc_ofS (okc Tryd.f14.ntmps 0) (fn := Tryd.f14) (cd := _) rfl rfl rfl rfl rfl rfl (fun hbd => ?_)
  repeat' (
   conv => whnf
   first
   | ((with_reducible refine hcI ?_); refine Val.call h (.refl _) (ler _ _) rfl ?_; rintro r rfl))
  all_goals (conv => whnf)
  exact fC rfl rfl

end Go.Proofs.YthfcfdlbnfcboaaDoor.Pw

/- R18.Changed. -/
set_option linter.unusedVariables false
set_option linter.unusedSimpArgs false
set_option maxHeartbeats 1000000
set_option maxRecDepth 10000
namespace Go.Proofs.YthfcfdlbnfcboaaDoor.Pw
open Go

/-- Trees without very long lists, so deep. -/
def tbT : Nat → Tree → Prop
  | 0, _ => True
  | n + 1, t => t.kids.length ≤ 1000000 ∧ ∀ u ∈ t.kids, tbT n u
/-- A tree of which a node is another one. -/
def endT (l : List Tree) (kind : Nat) : Tree := if kind % 3 = 0 then .node [] else if kind % 3 = 1 then .node (l.take (l.length - 1)) else .node (l ++ [.node []])
def chgT : List Nat → Tree → Nat → Tree
  | [], t, kind => endT t.kids kind
  | p :: ps, t, kind => if t.kids.length = 0 then endT t.kids kind else .node (t.kids.set (p % t.kids.length) (chgT ps (t.kids.getD (p % t.kids.length) (.node [])) kind))
theorem treesL_set (l : List Tree) (i : Nat) (t : Tree) : (treesL l).set i (treeD t) = treesL (l.set i t) := by rw [treesL_map, treesL_map, List.map_set]
theorem treesL_app (l m : List Tree) : treesL (l ++ m) = treesL l ++ treesL m := by rw [treesL_map, treesL_map, treesL_map, List.map_append]
theorem treesL_take (l : List Tree) (k : Nat) : treesL (l.take k) = (treesL l).take k := by rw [treesL_map, treesL_map, List.map_take]
theorem leDs_app {H : List Ob} : ∀ {a a' b b' : List D}, LeDs H a a' → LeDs H b b' → LeDs H (a ++ b) (a' ++ b')
  | _, _, _, _, .nil, h2 => h2
  | _, _, _, _, .cons _ _ _ _ h1 h, h2 => .cons _ _ _ _ h1 (leDs_app h h2)
theorem shapes_app : ∀ (a b : List D), shapes (a ++ b) = shapes a ++ shapes b
  | [], _ => rfl
  | d :: a, b => by simp only [List.cons_append, shapes, shapes_app a b]
theorem okDs_app : ∀ {a b : List D}, okDs a = true → okDs b = true → okDs (a ++ b) = true
  | [], _, _, h => h
  | d :: a, b, h1, h2 => okDs_mk (okDs_cons h1).1 (okDs_app (okDs_cons h1).2 h2)
theorem okDs_map {α : Type} {f : α → D} (h : ∀ a, okD (f a) = true) : ∀ l : List α, okDs (l.map f) = true
  | [] => rfl
  | a :: l => okDs_mk (h a) (okDs_map h l)
theorem ok_tree (t : Tree) : okD (treeD t) = true := by cases t; rfl
theorem ok_trees (l : List Tree) : okDs (treesL l) = true := by rw [treesL_map]; exact okDs_map ok_tree l
theorem finTree {H : List Ob} {g n : Nat} {l : List Tree} {es : List D} {Q : D → Prop} (h : H.getD g .dead = .row (.agg [.leaf]) es) (hg : g < H.length) (he : es = treesL l ++ [.agg [.nils]]) (hn : n = l.length + 1) (hq : Q (treeD (.node (l ++ [.node []])))) :
    Fin (∃ H1 r', Frz H H1 ∧ LeD H1 r' (.agg [.sl g 0 n]) ∧ clD r' = true ∧ Q r') := by
  subst he
  have e1 : (H.set g (.row (.agg [.leaf]) (treesL (l ++ [.node []])))).getD g .dead = .row (.agg [.leaf]) (treesL (l ++ [.node []])) := by simp [List.getD, hg]
  refine fin_in ⟨_, treeD (.node (l ++ [.node []])), .row g _ (treesL (l ++ [.node []])) _ h ?_ ?_ ?_ (.step g _ _ e1 (cl_trees _) (.refl _)), .agg _ _ (.cons _ _ _ _ (leRow (ds := treesL (l ++ [.node []])) ?_ ?_) .nil) rfl, cl_tree _, hq⟩
  · rw [treesL_app]; exact leDs_app (ler _ _) (.cons _ _ _ _ (.agg _ _ (.cons _ _ _ _ (.nils _) .nil) rfl) .nil)
  · rw [treesL_app, shapes_app, shapes_app]; rfl
  · exact ok_trees _
  · simp [List.getD, hg]
  · simp; omega
theorem finTree2 {H : List Ob} {g n : Nat} {l : List Tree} {es : List D} {Q : D → Prop} (h : H.getD g .dead = .row (.agg [.leaf]) es) (he : es = treesL l) (hn : n = l.length) (hq : Q (treeD (.node l))) :
    Fin (∃ H1 r', Frz H H1 ∧ LeD H1 r' (.agg [.sl g 0 n]) ∧ clD r' = true ∧ Q r') := by
  subst he
  have hg : g < H.length := by
    rcases Nat.lt_or_ge g H.length with h1 | h1
    · exact h1
    · rw [List.getD, List.getElem?_eq_none h1] at h; cases h
  refine fin_in ⟨_, treeD (.node l), .step g _ _ h (cl_trees _) (.refl _), .agg _ _ (.cons _ _ _ _ (leRow (ds := treesL l) ?_ ?_) .nil) rfl, cl_tree _, hq⟩
  · simp [List.getD, hg]
  · simp; omega
theorem exB0 {p : Nat} {ps : List Nat} {k : D → Prop} (hk : k (.int .u8 (p : Int))) : ∃ d, (bytesL (p :: ps))[Int.toNat 0]? = some d ∧ k d := ⟨_, rfl, hk⟩
theorem vChgT : ∀ (path : List Nat) (t : Tree) (kind : Nat), tbT (path.length + 1) t → path.length ≤ 1000 → (∀ x ∈ path, x < 256) → kind < 256 →
    Val Tryd.prog 55 [treeD t, bytesD path, .int .u8 (kind : Int)] (fun r => r = treeD (chgT path t kind))
  | [], .node l, kind, ht, hp, hR, hk => by
    have hl : l.length ≤ 1000000 := ht.1
    have hl0 := treesL_len l
    refine Val.ofV ?_
    refine hc_ofS (okc Tryd.f55.ntmps 0) (fn := Tryd.f55) (cd := _) rfl rfl rfl rfl rfl rfl (fun hbd => ?_)
    repeat' (
     conv => whnf
     first
     | refine ifd (fun h => ?_) (fun h => ?_)
     | with_reducible refine ivW (by omega) (by omega) ?_
     | (refine ivMod (a := kind) (b := 3) ?_)
     | ((with_reducible apply ob); ((first | rfl | assumption | omega | (unfold maxLen2; omega) | (dsimp only; omega) | (simp only [LN]; omega) | (simp; done) | (simp; omega)))))
    all_goals (conv => whnf)
    · exact fin_in ⟨_, treeD (.node []), .refl _, .agg _ _ (.cons _ _ _ _ (.nils _) .nil) rfl, rfl, by unfold chgT endT; rw [if_pos (by omega)]⟩
    · refine fC rfl ?_
      unfold chgT endT
      rw [if_neg (by omega), if_pos (by omega)]
      show D.agg [D.list false _ _] = D.agg [D.list false _ (treesL (l.take (l.length - 1)))]
      rw [treesL_take]
      congr 3
      show (List.take (max ((treesL l).length - 1 : Int) 0).toNat (treesL l)).drop 0 = _
      rw [List.drop_zero]; congr 1; omega
    · refine finTree (l := l) rfl (by simp) (by simp [List.take_of_length_le]; rfl) (by simp) ?_
      unfold chgT endT
      rw [if_neg (by omega), if_neg (by omega)]; rfl
  | p :: ps, .node l, kind, ht, hp, hR, hk => by
    have hl : l.length ≤ 1000000 := ht.1
    have hl0 := treesL_len l
    have hR0 := hR p List.mem_cons_self
    have ih := fun t ht2 => vChgT ps t kind ht2 (by simp only [List.length_cons] at hp; omega) (fun x hx => hR x (List.mem_cons_of_mem _ hx)) hk
    have hml : 0 < l.length → p % (treesL l).length < l.length := fun h => by rw [hl0]; exact Nat.mod_lt _ h
    have e0 : ∀ h : l.length = 0, chgT (p :: ps) (.node l) kind = endT l kind := fun h => by unfold chgT; rw [if_pos (show (Tree.node l).kids.length = 0 from h)]; rfl
    refine Val.ofV ?_
    refine hc_ofS (okc Tryd.f55.ntmps 0) (fn := Tryd.f55) (cd := _) rfl rfl rfl rfl rfl rfl (fun hbd => ?_)
    repeat' (
     conv => whnf
     first
     | refine ifd (fun h => ?_) (fun h => ?_)
     | with_reducible refine ivW (by omega) (by omega) ?_
     | (refine ivMod (a := kind) (b := 3) ?_)
     | (refine ivMod (a := p) (b := (treesL l).length) ?_)
     | ((with_reducible refine exB0 ?_))
     | ((with_reducible refine exT (by omega) ?_); rintro ⟨ut⟩ hy; simp only [Int.toNat_natCast] at hy)
     | ((with_reducible apply drT 7); rfl)
     | ((with_reducible apply drT 12); rfl)
     | ((with_reducible apply ob); ((first | rfl | assumption | omega | (unfold maxLen2; omega) | (dsimp only; omega) | (simp only [LN]; omega) | (simp; done) | (simp; omega)))))
    all_goals (conv => whnf)
    · exact fin_in ⟨_, treeD (.node []), .refl _, .agg _ _ (.cons _ _ _ _ (.nils _) .nil) rfl, rfl, by rw [e0 (by omega)]; unfold endT; rw [if_pos (by omega)]⟩
    · refine fC rfl ?_
      rw [e0 (by omega)]; unfold endT
      rw [if_neg (by omega), if_pos (by omega)]
      show D.agg [D.list false _ _] = D.agg [D.list false _ (treesL (l.take (l.length - 1)))]
      rw [treesL_take]
      congr 3
      show (List.take (max ((treesL l).length - 1 : Int) 0).toNat (treesL l)).drop 0 = _
      rw [List.drop_zero]; congr 1; omega
    · refine finTree (l := l) rfl (by simp) (by simp [List.take_of_length_le]; rfl) (by simp) ?_
      rw [e0 (by omega)]; unfold endT
      rw [if_neg (by omega), if_neg (by omega)]
    obtain ⟨w, hw⟩ : ∃ w, chgT ps (.node ut) kind = .node w := ⟨(chgT ps (.node ut) kind).kids, by cases chgT ps (.node ut) kind; rfl⟩
    have ih2 := ih (.node ut) (ht.2 _ (List.mem_of_getElem? hy))
    rw [hw] at ih2
    refine Val.pure ih2 (ler _ _) rfl rfl ?_
    repeat' (
     conv => whnf
     first
     | ((with_reducible apply ob); ((first | rfl | assumption | omega | (unfold maxLen2; omega) | (dsimp only; omega) | (simp only [LN]; omega) | (simp; done) | (simp; omega)))))
    all_goals (conv => whnf)
    have hm : p % (treesL l).length = p % l.length := by rw [hl0]
    refine finTree2 (l := l.set (p % l.length) (.node w)) rfl ?_ (by simp) ?_
    · rw [← treesL_set, hm, Nat.zero_add, Int.toNat_natCast]; rfl
    · unfold chgT
      rw [if_neg (by simp only [Tree.kids]; omega)]
      simp only [Tree.kids]
      rw [← hm, getD_of hy, hw]

end Go.Proofs.YthfcfdlbnfcboaaDoor.Pw
