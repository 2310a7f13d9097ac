/- Parts of the proof, merged: LA LB LC LD LE LF LG LH LI LJ LK LL. -/
import Derived.Test.YthplmnpfaagciaaPd
import Derived.Test.YthplmnpfaagciaaPt
/- Small functions of the layer's reference. -/
namespace Go.Proofs.Ythplmnpfaagciaa.Pw
open Go

/-- Is (n, d) a cell? -/
def isCell (n d m : Int) : Bool := decide (1 ≤ d) && decide (d ≤ n) && decide (n ≤ m)

theorem hcIs (n d m : Int) : HC Try.prog 27 [.int .i64 n, .int .i64 d, .int .i64 m] [] (fun r H' => H' = [] ∧ r = .bool (isCell n d m)) := by
  refine hc_of (okc 19 0) (fn := Try.f27) (cd := _) rfl rfl rfl rfl rfl rfl (fun hb => ?_)
  conv => whnf
  refine ifb (fun h1 => ?_) (fun h1 => ?_)
  · conv => whnf
    refine ifb (fun h2 => ?_) (fun h2 => ?_)
    · conv => whnf
      exact ⟨rfl, by simp_all [oneR, isCell] <;> omega⟩
    · conv => whnf
      exact ⟨rfl, by simp_all [oneR, isCell] <;> omega⟩
  · conv => whnf
    exact ⟨rfl, by simp_all [oneR, isCell] <;> omega⟩

/-- slices.Index. -/
theorem hcIndex (full : Bool) (l : List Int) (v : Int) : HC Try.prog 59 [.list full .leaf (l.map (.int .i64)), .int .i64 v] [] (fun r H' => H' = [] ∧ ∃ j : Int, r = .int .i64 j ∧ (0 ≤ j ↔ v ∈ l)) := by
  refine hc_of (okc 19 0) (fn := Try.f59) (cd := _) rfl rfl rfl rfl rfl rfl (fun hb => ?_)
  have hlen : l.length ≤ 9223372036854775807 := by simpa [maxInt] using hb.1.1
  conv => whnf
  refine lp (fun n e H => ∃ k : Nat, k ≤ l.length ∧ n = l.length - k ∧ (∀ i, i < k → l[i]? ≠ some v) ∧ H = [] ∧ e = [(8, .int .i64 k), (7, .int .i64 l.length), (0, .list full .leaf (l.map (.int .i64))), (1, .int .i64 v)]) ?_ ?_
  · refine ⟨l.length + 1, back l.length _ (by omega) ?_ ⟨0, by omega, by omega, by simp, rfl, rfl⟩⟩
    exact se0 rfl (se0 (show D.int .i64 ((l.map (D.int .i64)).length : Nat) = _ by simp) (se0 rfl (se0 rfl trivial)))
  · rintro n e H ⟨k, hk, rfl, hno, rfl, rfl⟩
    conv => whnf
    refine ifb (fun h1 => ?_) (fun h1 => ?_)
    · have h1 : k < l.length := by simpa using h1
      conv => whnf
      refine ob (by omega) ?_
      refine ⟨.int .i64 l[k], by simp [h1], ?_⟩
      conv => whnf
      refine ifb (fun h2 => ?_) (fun h2 => ?_)
      · conv => whnf
        exact ⟨rfl, k, rfl, by simp at h2; constructor; intro _; rw [h2]; simp; intro _; omega⟩
      · conv => whnf
        refine iv (k + 1) (w64 (by omega) (by omega)) ?_
        conv => whnf
        refine back (l.length - (k + 1)) _ (by omega) ?_ ⟨k + 1, by omega, rfl, ?_, rfl, rfl⟩
        · exact se0 rfl (se0 rfl (se0 rfl (se0 rfl trivial)))
        · intro i hi
          by_cases e : i = k
          · subst e; simp at h2; simp [h1]; exact fun h => h2 h.symm
          · exact hno i (by omega)
    · conv => whnf
      refine ⟨rfl, -1, rfl, ?_⟩
      have : k = l.length := by simp at h1; omega
      subst this
      constructor
      · intro h; omega
      · intro h
        obtain ⟨i, hi, he⟩ := List.getElem_of_mem h
        exact absurd (by simp [hi, he]) (hno i hi)

/-- slices.Contains. -/
theorem hcContains (full : Bool) (l : List Int) (v : Int) : HC Try.prog 50 [.list full .leaf (l.map (.int .i64)), .int .i64 v] [] (fun r H' => H' = [] ∧ r = .bool (decide (v ∈ l))) := by
  refine hc_of (okc 9 0) (fn := Try.f50) (cd := _) rfl rfl rfl rfl rfl rfl (fun hb => ?_)
  conv => whnf
  refine HC.val (hcIndex full l v) (.refl _) (ler _ _) (by simp [clDs, clD]) ?_
  rintro r H0' ⟨rfl, j, rfl, hj⟩
  refine ⟨rfl, rfl, ?_⟩
  conv => whnf
  exact ⟨rfl, by simp [oneR, hj]⟩

theorem hcCell (n d m : Int) : HC Try.prog 25 [.int .i64 n, .int .i64 d, .int .i64 m] [] (fun r H' => H' = [] ∧ r = .bool (isCell n d m)) := by
  refine hc_of (okc 19 0) (fn := Try.f25) (cd := _) rfl rfl rfl rfl rfl rfl (fun hb => ?_)
  conv => whnf
  refine ifb (fun h1 => ?_) (fun h1 => ?_)
  · conv => whnf
    refine ifb (fun h2 => ?_) (fun h2 => ?_)
    · conv => whnf
      exact ⟨rfl, by simp_all [oneR, isCell] <;> omega⟩
    · conv => whnf
      exact ⟨rfl, by simp_all [oneR, isCell] <;> omega⟩
  · conv => whnf
    exact ⟨rfl, by simp_all [oneR, isCell] <;> omega⟩

structure Known where
  n : Int
  d : Int
  up : Bool
  v : Int
  lm : Int
def Known.D (k : Known) : D := .agg [.int .i64 k.n, .int .i64 k.d, .bool k.up, .int .i64 k.v, .int .i64 k.lm]
def force (k : Known) (granted : List Int) : Bool := decide (k.lm = 0) || decide (k.lm ∈ granted)

theorem vForce (k : Known) (full : Bool) (l : List Int) : Val Try.prog 42 [k.D, .list full .leaf (l.map (.int .i64))] (fun r => r = .bool (force k l)) := by
  refine Val.of ?_
  refine hc_of (okc 14 0) (fn := Try.f42) (cd := _) rfl rfl rfl rfl rfl rfl (fun hb => ?_)
  conv => whnf
  refine ifb (fun h1 => ?_) (fun h1 => ?_)
  · conv => whnf
    exact ⟨rfl, by simp_all [oneR, force]⟩
  · conv => whnf
    refine HC.val (hcContains full l k.lm) (.refl _) (ler _ _) (by simp [clDs, clD]) ?_
    rintro r H0' ⟨rfl, rfl⟩
    refine ⟨rfl, rfl, ?_⟩
    conv => whnf
    exact ⟨rfl, by simp_all [oneR, force]⟩

theorem vForceR (k : Known) (full : Bool) (l : List Int) : Val Try.prog 44 [k.D, .list full .leaf (l.map (.int .i64))] (fun r => r = .bool (force k l)) := by
  refine Val.of ?_
  refine hc_of (okc 22 0) (fn := Try.f44) (cd := _) rfl rfl rfl rfl rfl rfl (fun hb => ?_)
  have hlen : l.length ≤ 9223372036854775807 := by simpa [maxInt] using hb.2.1.1
  conv => whnf
  refine ifb (fun h1 => ?_) (fun h1 => ?_)
  · conv => whnf
    exact ⟨rfl, by simp_all [oneR, force]⟩
  · conv => whnf
    refine lp (fun n e H => ∃ j : Nat, j ≤ l.length ∧ n = l.length - j ∧ (∀ i, i < j → l[i]? ≠ some k.lm) ∧ H = [.var k.D] ∧ e = [(5, .int .i64 j), (2, .ptr 0 []), (1, .list full .leaf (l.map (.int .i64)))]) ?_ ?_
    · refine ⟨l.length + 1, back l.length _ (by omega) ?_ ⟨0, by omega, by omega, by simp, rfl, rfl⟩⟩
      exact se0 rfl (se0 rfl (se0 rfl trivial))
    · rintro n e H ⟨j, hj, rfl, hno, rfl, rfl⟩
      conv => whnf
      refine ifb (fun h2 => ?_) (fun h2 => ?_)
      · have h2 : j < l.length := by simpa using h2
        conv => whnf
        refine dr 7 rfl ?_
        conv => whnf
        refine ob (by omega) ?_
        refine ⟨.int .i64 l[j], by simp [h2], ?_⟩
        conv => whnf
        refine ifb (fun h3 => ?_) (fun h3 => ?_)
        · conv => whnf
          exact ⟨rfl, by simp at h3; simp [oneR, force, ← h3]⟩
        · conv => whnf
          refine iv (j + 1) (w64 (by omega) (by omega)) ?_
          conv => whnf
          refine back (l.length - (j + 1)) _ (by omega) ?_ ⟨j + 1, by omega, rfl, ?_, rfl, rfl⟩
          · exact se0 rfl (se0 rfl (se0 rfl trivial))
          · intro i hi
            by_cases e : i = j
            · subst e; simp at h3; simp [h2]; exact h3
            · exact hno i (by omega)
      · conv => whnf
        have : j = l.length := by simp at h2; omega
        subst this
        refine ⟨rfl, ?_⟩
        have hn : k.lm ∉ l := by
          intro h
          obtain ⟨i, hi, he⟩ := List.getElem_of_mem h
          exact absurd (by simp [hi, he]) (hno i hi)
        simp_all [oneR, force]

def sh5 : Sh := .agg [.leaf, .leaf, .leaf, .leaf, .leaf]
theorem Known.bndD' (k : Known) : clD k.D = true := rfl

/-- slices.IndexFunc over known bounds. -/
theorem vIndexFunc (full : Bool) (l : List Known) (g : Nat) (p : Known → Bool) (hp : ∀ k ∈ l, Val Try.prog g [k.D] (fun r => r = .bool (p k))) :
    Val Try.prog 38 [.list full sh5 (l.map Known.D), .func g []] (fun r => ∃ j : Int, r = .int .i64 j ∧ (0 ≤ j ↔ l.any p = true)) := by
  refine Val.of ?_
  refine hc_of (okc 19 0) (fn := Try.f38) (cd := _) rfl rfl rfl rfl rfl rfl (fun hb => ?_)
  have hlen : l.length ≤ 9223372036854775807 := by simpa [maxInt] using hb.1.1
  conv => whnf
  refine lp (fun n e H => ∃ k : Nat, k ≤ l.length ∧ n = l.length - k ∧ (∀ (i : Nat) x, i < k → l[i]? = some x → p x = false) ∧ H = [] ∧ e = [(8, .int .i64 k), (7, .int .i64 l.length), (0, .list full sh5 (l.map Known.D)), (1, .func g [])]) ?_ ?_
  · refine ⟨l.length + 1, back l.length _ (by omega) ?_ ⟨0, by omega, by omega, by simp, rfl, rfl⟩⟩
    exact se0 rfl (se0 (show D.int .i64 ((l.map Known.D).length : Nat) = _ by simp) (se0 rfl (se0 rfl trivial)))
  · rintro n e H ⟨k, hk, rfl, hno, rfl, rfl⟩
    conv => whnf
    refine ifb (fun h1 => ?_) (fun h1 => ?_)
    · have h1 : k < l.length := by simpa using h1
      conv => whnf
      refine ob (by omega) ?_
      refine ⟨l[k].D, by simp [h1], ?_⟩
      conv => whnf
      refine Val.call (hp l[k] (List.getElem_mem h1)) (.refl _) (ler _ _) rfl ?_
      rintro r rfl
      conv => whnf
      refine ifb (fun h2 => ?_) (fun h2 => ?_)
      · conv => whnf
        refine ⟨rfl, k, rfl, ?_⟩
        constructor
        · intro _; exact List.any_eq_true.2 ⟨l[k], List.getElem_mem h1, h2⟩
        · intro _; omega
      · conv => whnf
        refine iv (k + 1) (w64 (by omega) (by omega)) ?_
        conv => whnf
        refine back (l.length - (k + 1)) _ (by omega) ?_ ⟨k + 1, by omega, rfl, ?_, rfl, rfl⟩
        · exact se0 rfl (se0 rfl (se0 rfl (se0 rfl trivial)))
        · intro i x hi hx
          by_cases e : i = k
          · subst e; simp [h1] at hx; rw [← hx]; exact h2
          · exact hno i x (by omega) hx
    · conv => whnf
      refine ⟨rfl, -1, rfl, ?_⟩
      have : k = l.length := by simp at h1; omega
      subst this
      constructor
      · intro h; omega
      · intro h
        obtain ⟨x, hx, hpx⟩ := List.any_eq_true.1 h
        obtain ⟨i, hi, he⟩ := List.getElem_of_mem hx
        rw [hno i x hi (by simp [hi, he])] at hpx
        cases hpx

/-- slices.ContainsFunc over known bounds. -/
theorem vContainsFunc (full : Bool) (l : List Known) (g : Nat) (p : Known → Bool) (hp : ∀ k ∈ l, Val Try.prog g [k.D] (fun r => r = .bool (p k))) :
    Val Try.prog 26 [.list full sh5 (l.map Known.D), .func g []] (fun r => r = .bool (l.any p)) := by
  refine Val.of ?_
  refine hc_of (okc 9 0) (fn := Try.f26) (cd := _) rfl rfl rfl rfl rfl rfl (fun hb => ?_)
  conv => whnf
  refine Val.call (vIndexFunc full l g p hp) (.refl _) (ler _ _) (by simp [clDs, clD]) ?_
  rintro r ⟨j, rfl, hj⟩
  conv => whnf
  refine ⟨rfl, ?_⟩
  show D.bool (decide (0 ≤ j)) = _
  congr 1
  rw [Bool.eq_iff_iff]
  simpa using hj

def wrongK (k : Known) : Bool := !isCell k.n k.d 8 || decide (k.v < 1) || decide (16777216 < k.v) || decide (k.lm < 0) || decide (1000 < k.lm)
theorem vWrong (k : Known) : Val Try.prog 24 [k.D] (fun r => r = .bool (wrongK k)) := by
  refine Val.of ?_
  refine hc_of (okc Try.f24.ntmps 0) (fn := Try.f24) (cd := _) rfl rfl rfl rfl rfl rfl (fun hb => ?_)
  conv => whnf
  refine HC.val (hcCell k.n k.d 8) (.refl _) (ler _ _) rfl ?_
  rintro r H0' ⟨rfl, rfl⟩
  refine ⟨rfl, rfl, ?_⟩
  conv => whnf
  refine ifb (fun h1 => ?_) (fun h1 => ?_)
  · conv => whnf
    exact ⟨rfl, by simp_all [oneR, wrongK] <;> omega⟩
  · skip
    conv => whnf
    refine ifb (fun h2 => ?_) (fun h2 => ?_)
    · conv => whnf
      exact ⟨rfl, by simp_all [oneR, wrongK] <;> omega⟩
    · skip
      conv => whnf
      refine ifb (fun h3 => ?_) (fun h3 => ?_)
      · conv => whnf
        exact ⟨rfl, by simp_all [oneR, wrongK] <;> omega⟩
      · skip
        conv => whnf
        refine ifb (fun h4 => ?_) (fun h4 => ?_)
        · conv => whnf
          exact ⟨rfl, by simp_all [oneR, wrongK] <;> omega⟩
        · skip
          conv => whnf
          exact ⟨rfl, by simp_all [oneR, wrongK] <;> omega⟩

def rightK (l : List Known) : Bool := decide (l.length ≤ 60) && !l.any wrongK
/-- table.Right. -/
theorem vRight (full : Bool) (l : List Known) : Val Try.prog 11 [.list full sh5 (l.map Known.D)] (fun r => r = .int .i64 (if rightK l then 0 else 1)) := by
  refine Val.of ?_
  refine hc_of (okc 12 0) (fn := Try.f11) (cd := _) rfl rfl rfl rfl rfl rfl (fun hb => ?_)
  conv => whnf
  refine ifb (fun h1 => ?_) (fun h1 => ?_)
  · conv => whnf
    exact ⟨rfl, by simp at h1; simp [oneR, rightK]; omega⟩
  · conv => whnf
    refine Val.call (vContainsFunc full l 24 wrongK (fun k _ => vWrong k)) (.refl _) (ler _ _) (by simp [clDs, clD]) ?_
    rintro r rfl
    conv => whnf
    refine ifb (fun h2 => ?_) (fun h2 => ?_)
    · conv => whnf
      exact ⟨rfl, by simp_all [oneR, rightK] <;> omega⟩
    · conv => whnf
      exact ⟨rfl, by simp_all [oneR, rightK] <;> omega⟩

end Go.Proofs.Ythplmnpfaagciaa.Pw

/- The table's rules. -/
namespace Go.Proofs.Ythplmnpfaagciaa.Pw
open Go

structure Side where
  n : Int
  d : Int
  up : Bool
  deriving DecidableEq
def Side.D (s : Side) : D := .agg [.int .i64 s.n, .int .i64 s.d, .bool s.up]
def better (s : Side) (v w : Int) : Bool := if s.up then decide (v < w) else decide (w < v)

theorem vBetter (s : Side) (v w : Int) : Val Try.prog 58 [s.D, .int .i64 v, .int .i64 w] (fun r => r = .bool (better s v w)) := by
  refine Val.of ?_
  refine hc_of (okc 15 0) (fn := Try.f58) (cd := _) rfl rfl rfl rfl rfl rfl (fun hb => ?_)
  conv => whnf
  refine ifb (fun h1 => ?_) (fun h1 => ?_)
  · conv => whnf
    exact ⟨rfl, by simp_all [oneR, better]⟩
  · conv => whnf
    exact ⟨rfl, by simp_all [oneR, better]⟩

theorem vSame (s : Side) (v : Int) : Val Try.prog 55 [s.D, .int .i64 v] (fun r => r = .int .i64 v) := by
  refine Val.of ?_
  refine hc_of (okc 6 0) (fn := Try.f55) (cd := _) rfl rfl rfl rfl rfl rfl (fun hb => ?_)
  conv => whnf
  exact ⟨rfl, rfl⟩

def otherS (s : Side) : Int × Int := if s.d.tmod 2 = 1 then (s.n + 1, s.d + 1) else (s.n - 1, s.d - 1)
def small (n : Int) : Prop := -1000000000 ≤ n ∧ n ≤ 1000000000
theorem vOther (s : Side) (hn : small s.n) (hd : small s.d) : Val Try.prog 57 [s.D] (fun r => r = .tuple [.int .i64 (otherS s).1, .int .i64 (otherS s).2]) := by
  refine Val.of ?_
  unfold small at hn hd
  refine hc_of (okc 20 0) (fn := Try.f57) (cd := _) rfl rfl rfl rfl rfl rfl (fun hb => ?_)
  conv => whnf
  refine ob (by decide) ?_
  refine iv (s.d.tmod 2) rfl ?_
  conv => whnf
  refine ifb (fun h1 => ?_) (fun h1 => ?_)
  · conv => whnf
    refine dr 8 rfl ?_
    conv => whnf
    refine iv (s.n + 1) (w64 (by omega) (by omega)) ?_
    conv => whnf
    refine iv (s.d + 1) (w64 (by omega) (by omega)) ?_
    conv => whnf
    exact ⟨rfl, by simp at h1; simp [oneR, otherS, h1]⟩
  · conv => whnf
    refine dr 8 rfl ?_
    conv => whnf
    refine iv (s.n - 1) (w64 (by omega) (by omega)) ?_
    conv => whnf
    refine iv (s.d - 1) (w64 (by omega) (by omega)) ?_
    conv => whnf
    exact ⟨rfl, by simp at h1; simp [oneR, otherS, h1]⟩

end Go.Proofs.Ythplmnpfaagciaa.Pw

/- The rules of the table. -/
set_option linter.unusedVariables false
namespace Go.Proofs.Ythplmnpfaagciaa.Pw
open Go

def stepS (s : Side) : Int := if s.up then 1 else -1
theorem stepS_le (s : Side) : -1 ≤ stepS s ∧ stepS s ≤ 1 := by unfold stepS; split <;> omega
theorem vStep (s : Side) : Val Try.prog 51 [s.D] (fun r => r = .int .i64 (stepS s)) := by
  refine Val.of ?_
  refine hc_of (okc Try.f51.ntmps 0) (fn := Try.f51) (cd := _) rfl rfl rfl rfl rfl rfl (fun hb => ?_)
  conv => whnf
  refine ifb (fun h1 => ?_) (fun h1 => ?_)
  · conv => whnf
    exact ⟨rfl, by simp_all [oneR, stepS]⟩
  · conv => whnf
    exact ⟨rfl, by simp_all [oneR, stepS]⟩

def stepF : D := .ref .leaf (.func 51 [])
theorem v52 (s : Side) (hn : small s.n) (hd : small s.d) : Val Try.prog 52 [s.D, stepF] (fun r => r = .tuple [.int .i64 (s.n - stepS s), .int .i64 s.d]) := by
  refine Val.of ?_
  unfold small at hn hd
  have hs := stepS_le s
  refine hc_of (okc Try.f52.ntmps 0) (fn := Try.f52) (cd := _) rfl rfl rfl rfl rfl rfl (fun hb => ?_)
  conv => whnf
  refine dr 10 rfl ?_
  conv => whnf
  refine ⟨_, none, PureC.val (vStep s) (ler _ _) rfl (fun r H h => h.2.2) rfl, ?_⟩
  conv => whnf
  refine iv (s.n - stepS s) (w64 (by omega) (by omega)) ?_
  conv => whnf
  exact ⟨rfl, rfl⟩
theorem v54 (s : Side) (hn : small s.n) (hd : small s.d) : Val Try.prog 54 [s.D, stepF] (fun r => r = .tuple [.int .i64 s.n, .int .i64 (s.d - stepS s)]) := by
  refine Val.of ?_
  unfold small at hn hd
  have hs := stepS_le s
  refine hc_of (okc Try.f54.ntmps 0) (fn := Try.f54) (cd := _) rfl rfl rfl rfl rfl rfl (fun hb => ?_)
  conv => whnf
  refine dr 10 rfl ?_
  conv => whnf
  refine ⟨_, none, PureC.val (vStep s) (ler _ _) rfl (fun r H h => h.2.2) rfl, ?_⟩
  conv => whnf
  refine iv (s.d - stepS s) (w64 (by omega) (by omega)) ?_
  conv => whnf
  exact ⟨rfl, rfl⟩
theorem v56 (s : Side) (hn : small s.n) (hd : small s.d) : Val Try.prog 56 [s.D, stepF] (fun r => r = .tuple [.int .i64 (s.n + stepS s), .int .i64 s.d]) := by
  refine Val.of ?_
  unfold small at hn hd
  have hs := stepS_le s
  refine hc_of (okc Try.f56.ntmps 0) (fn := Try.f56) (cd := _) rfl rfl rfl rfl rfl rfl (fun hb => ?_)
  conv => whnf
  refine dr 10 rfl ?_
  conv => whnf
  refine ⟨_, none, PureC.val (vStep s) (ler _ _) rfl (fun r H h => h.2.2) rfl, ?_⟩
  conv => whnf
  refine iv (s.n + stepS s) (w64 (by omega) (by omega)) ?_
  conv => whnf
  exact ⟨rfl, rfl⟩
def dbl (s : Side) (v : Int) : Int := if s.up then 2 * v else (v + 1).tdiv 2
theorem tdiv2 (a : Int) : (0 ≤ a → a.tdiv 2 = a / 2) ∧ (a ≤ 0 → a.tdiv 2 = -((-a) / 2)) := by
  constructor
  · intro h; exact Int.tdiv_eq_ediv_of_nonneg h
  · intro h
    have : (-(-a)).tdiv 2 = -((-a).tdiv 2) := Int.neg_tdiv ..
    rw [Int.neg_neg] at this
    rw [this, Int.tdiv_eq_ediv_of_nonneg (by omega)]
/-- A value of a step, far from the ends of int. -/
def fairV (v : Int) : Prop := -4611686018427387904 ≤ v ∧ v < 4611686018427387904
theorem v53 (s : Side) (v : Int) (hv : fairV v) : Val Try.prog 53 [s.D, .int .i64 v] (fun r => r = .int .i64 (dbl s v)) := by
  refine Val.of ?_
  unfold fairV at hv
  refine hc_of (okc Try.f53.ntmps 0) (fn := Try.f53) (cd := _) rfl rfl rfl rfl rfl rfl (fun hb => ?_)
  conv => whnf
  refine ifb (fun h1 => ?_) (fun h1 => ?_)
  · conv => whnf
    refine iv (2 * v) (w64 (by omega) (by omega)) ?_
    conv => whnf
    exact ⟨rfl, by simp_all [oneR, dbl]⟩
  · conv => whnf
    refine iv (v + 1) (w64 (by omega) (by omega)) ?_
    conv => whnf
    refine ob (by decide) ?_
    have ht := tdiv2 (v + 1)
    refine iv ((v + 1).tdiv 2) (w64 (by omega) (by omega)) ?_
    conv => whnf
    exact ⟨rfl, by simp_all [oneR, dbl]⟩

def ruleD (by_ : Int) (f g : D) : D := .agg [.int .i64 by_, f, g]
def rulesL : List D := [ruleD 3 (.func 52 [stepF]) (.func 53 []), ruleD 4 (.func 54 [stepF]) (.func 55 []), ruleD 5 (.func 56 [stepF]) (.func 55 []), ruleD 6 (.func 57 []) (.func 55 [])]
def sh3 : Sh := .agg [.leaf, .leaf, .leaf]
theorem vRules : Val Try.prog 43 [] (fun r => r = .list false sh3 rulesL) := by
  refine HC.ret (Q0 := fun r H' => ∃ g, r = .sl 1 0 4 ∧ g = D.ptr 0 [] ∧ H' = [.var (.func 51 []), .row sh3 [ruleD 3 (.func 52 [g]) (.func 53 []), ruleD 4 (.func 54 [g]) (.func 55 []), ruleD 5 (.func 56 [g]) (.func 55 []), ruleD 6 (.func 57 []) (.func 55 [])]]) ?_ ?_
  · refine hc_of (okc Try.f43.ntmps 0) (fn := Try.f43) (cd := _) rfl rfl rfl rfl rfl rfl (fun hb => ?_)
    conv => whnf
    exact ⟨_, rfl, rfl, rfl⟩
  · rintro r H' ⟨g, rfl, rfl, rfl⟩
    refine ⟨[.fvar (.func 51 []), .frz sh3 rulesL], .list false sh3 rulesL, ?_, ?_, rfl, rfl⟩
    · refine Frz.fvar 0 (.func 51 []) rfl rfl ?_
      refine Frz.row 1 sh3 rulesL _ rfl ?_ rfl rfl ?_
      · have hp : LeD [Ob.fvar (.func 51 []), Ob.row sh3 [ruleD 3 (.func 52 [D.ptr 0 []]) (.func 53 []), ruleD 4 (.func 54 [D.ptr 0 []]) (.func 55 []), ruleD 5 (.func 56 [D.ptr 0 []]) (.func 55 []), ruleD 6 (.func 57 []) (.func 55 [])]] stepF (.ptr 0 []) := LeD.fvar 0 (.func 51 []) rfl
        have hr : ∀ (b : Int) (f : Nat) (h : D), LeD [Ob.fvar (.func 51 []), Ob.row sh3 [ruleD 3 (.func 52 [D.ptr 0 []]) (.func 53 []), ruleD 4 (.func 54 [D.ptr 0 []]) (.func 55 []), ruleD 5 (.func 56 [D.ptr 0 []]) (.func 55 []), ruleD 6 (.func 57 []) (.func 55 [])]] (ruleD b (.func f [stepF]) h) (ruleD b (.func f [.ptr 0 []]) h) := by
          intro b f h
          refine LeD.agg _ _ (.cons _ _ _ _ (.refl _) (.cons _ _ _ _ (.func _ _ _ (.cons _ _ _ _ hp .nil)) (.cons _ _ _ _ (.refl _) .nil))) ?_
          simp [shapes, shape]
        exact .cons _ _ _ _ (hr _ _ _) (.cons _ _ _ _ (hr _ _ _) (.cons _ _ _ _ (hr _ _ _) (.cons _ _ _ _ (.refl _) .nil)))
      · exact Frz.step 1 sh3 rulesL rfl rfl (.refl _)
    · exact LeD.frz 1 0 4 sh3 rulesL rfl (by decide)

end Go.Proofs.Ythplmnpfaagciaa.Pw

/- The log: what is known of all steps so far. -/
set_option linter.unusedVariables false
set_option linter.unusedSimpArgs false
namespace Go.Proofs.Ythplmnpfaagciaa.Pw
open Go

structure Stp where
  s : Side
  v : Int
  by_ : Int
  at_ : List Int
def atD (l : List Int) : D := .list false .leaf (l.map (.int .i64))
def Stp.D (x : Stp) : D := .agg [.int .i64 x.s.n, .int .i64 x.s.d, .bool x.s.up, .int .i64 x.v, .int .i64 x.by_, atD x.at_]
def sh6 : Sh := .agg [.leaf, .leaf, .leaf, .leaf, .leaf, .leaf]
structure Lg where
  steps : List Stp
  best : List (Side × Nat)
def lookA : List (Side × Nat) → Side → Option Nat
  | [], _ => none
  | (a, i) :: m, s => if s = a then some i else lookA m s
def setA : List (Side × Nat) → Side → Nat → List (Side × Nat)
  | [], s, i => [(s, i)]
  | (a, j) :: m, s, i => if s = a then (s, i) :: m else (a, j) :: setA m s i
def mapD (m : List (Side × Nat)) : List (D × D) := m.map fun p => (p.1.D, .int .i64 p.2)
theorem eq_side (a b : Side) : eqD a.D b.D = some (decide (a = b)) := by
  obtain ⟨n, d, u⟩ := a; obtain ⟨n', d', u'⟩ := b
  simp [Side.D, eqD, eqDs]
  cases u <;> cases u' <;> simp [Bool.and_assoc]
theorem look_map (s : Side) : ∀ m : List (Side × Nat), lookM (mapD m) s.D = (lookA m s).map fun i => D.int .i64 (i : Nat)
  | [] => rfl
  | (a, i) :: m => by
    show (match eqD s.D a.D with | some true => _ | _ => lookM (mapD m) s.D) = _
    rw [eq_side, look_map s m]
    by_cases h : s = a <;> simp [h, lookA]
theorem set_map (s : Side) (i : Nat) : ∀ m : List (Side × Nat), setM (mapD m) s.D (.int .i64 i) = mapD (setA m s i)
  | [] => rfl
  | (a, j) :: m => by
    show (match eqD s.D a.D with | some true => _ | _ => (a.D, D.int .i64 j) :: setM (mapD m) s.D (.int .i64 i)) = _
    rw [eq_side, set_map s i m]
    by_cases h : s = a <;> simp [h, mapD, setA]
theorem keys_map (c : Cx) (t : Nat) (h : ∀ s : Side, keyOk c t s.D = true) (m : List (Side × Nat)) : keysOk c t (mapD m) := by
  intro p hp
  obtain ⟨q, _, rfl⟩ := List.mem_map.1 hp
  exact h q.1

/-- Is the step taken? -/
def taken (l : Lg) (s : Side) (v : Int) : Bool := match lookA l.best s with
  | none => true
  | some i => match l.steps[i]? with
    | some x => better s v x.v
    | none => true
def put (l : Lg) (x : Stp) : Lg := ⟨l.steps ++ [x], setA l.best x.s l.steps.length⟩
def noteL (l : Lg) (x : Stp) : Lg := if taken l x.s x.v then put l x else l
def LN0 : List Ob := [.var (.agg [.nils, .map 1]), .map []]
def rowL (l : Lg) : Ob := .row sh6 (l.steps.map Stp.D)
def LN (l : Lg) : List Ob := [.var (.agg [.sl 2 0 l.steps.length, .map 1]), .map (mapD l.best), rowL l]

theorem hcNote0 (x : Stp) : HC Try.prog 48 [.ptr 0 [], x.s.D, .int .i64 x.v, .int .i64 x.by_, atD x.at_] LN0
    (fun r H' => r = .bool true ∧ H' = [.var (.agg [.sl 4 0 1, .map 1]), .map (mapD [(x.s, 0)]), .var x.s.D, .row sh6 [x.D], .row sh6 [x.D]]) := by
  refine hc_of (okc Try.f48.ntmps 2) (fn := Try.f48) (cd := _) rfl rfl rfl rfl rfl rfl (fun hb => ?_)
  conv => whnf
  refine dr 11 rfl ?_
  conv => whnf
  refine ob (by intro p hp; simp at hp) ?_
  refine ⟨none, rfl, ?_⟩
  conv => whnf
  refine dr 15 rfl ?_
  conv => whnf
  refine dr 10 rfl ?_
  conv => whnf
  refine ob (by intro p hp; simp at hp) ?_
  conv => whnf
  refine dr 16 rfl ?_
  conv => whnf
  refine ob (Nat.le_refl 1) ?_
  conv => whnf
  refine ob (show 1 ≤ 2147483648 by omega) ?_
  conv => whnf
  exact ⟨rfl, rfl⟩

theorem hcNote (l : Lg) (x : Stp) (hok : ∀ s i, lookA l.best s = some i → i < l.steps.length) (hlen : l.steps.length < 2147483648) :
    HC Try.prog 48 [.ptr 0 [], x.s.D, .int .i64 x.v, .int .i64 x.by_, atD x.at_] (LN l)
    (fun r H' => (r = .bool false ∧ taken l x.s x.v = false ∧ H' = LN l ++ [.var x.s.D]) ∨
      (r = .bool true ∧ taken l x.s x.v = true ∧ H' = [.var (.agg [.sl 5 0 (l.steps.length + 1), .map 1]), .map (mapD (setA l.best x.s l.steps.length)), .dead, .var x.s.D, .row sh6 [x.D], .row sh6 (l.steps.map Stp.D ++ [x.D])])) := by
  have keys : ∀ m, keysOk (cx Try.f48.ntmps 3) 87 (mapD m) := keys_map _ _ (fun s => rfl)
  have tail : taken l x.s x.v = true → True := fun _ => trivial
  refine hc_of (okc Try.f48.ntmps 3) (fn := Try.f48) (cd := _) rfl rfl rfl rfl rfl rfl (fun hb => ?_)
  conv => whnf
  refine dr 11 rfl ?_
  conv => whnf
  refine ob (keys l.best) ?_
  refine ⟨_, look_map x.s l.best, ?_⟩
  cases hl : lookA l.best x.s with
  | none =>
    have ht : taken l x.s x.v = true := by simp [taken, hl]
    conv => whnf
    refine dr 15 rfl ?_
    conv => whnf
    refine dr 10 rfl ?_
    conv => whnf
    refine ob (keys l.best) ?_
    conv => whnf
    refine dr 16 rfl ?_
    conv => whnf
    refine ob (Nat.le_refl 1) ?_
    conv => whnf
    refine ob (by simp) ?_
    refine ob (show l.steps.length + 1 ≤ 2147483648 by omega) ?_
    conv => whnf
    refine .inr ⟨rfl, ht, ?_⟩
    rw [← set_map, show l.steps.map Stp.D ++ [x.D] = ((l.steps.map Stp.D).drop 0).take l.steps.length ++ [x.D] from by simp [List.take_of_length_le]]
    rfl
  | some i =>
    have hi := hok _ _ hl
    conv => whnf
    refine dr 15 rfl ?_
    conv => whnf
    refine ob (by omega) ?_
    conv => whnf
    refine ⟨(l.steps[i]).D, .int .i64 (l.steps[i]).v, by simp [hi], rfl, ?_⟩
    conv => whnf
    refine ⟨_, none, PureC.val (vBetter x.s x.v (l.steps[i]).v) (ler _ _) rfl (fun r H h => h.2.2) rfl, ?_⟩
    conv => whnf
    have hbt : taken l x.s x.v = better x.s x.v (l.steps[i]).v := by simp [taken, hl, hi]
    refine ifb (fun h1 => ?_) (fun h1 => ?_)
    · conv => whnf
      have h1 : better x.s x.v (l.steps[i]).v = false := by simpa using h1
      exact .inl ⟨rfl, by rw [hbt, h1], rfl⟩
    · have ht : taken l x.s x.v = true := by rw [hbt]; simpa using h1
      conv => whnf
      refine dr 10 rfl ?_
      conv => whnf
      refine ob (keys l.best) ?_
      conv => whnf
      refine dr 16 rfl ?_
      conv => whnf
      refine ob (Nat.le_refl 1) ?_
      conv => whnf
      refine ob (by simp) ?_
      refine ob (show l.steps.length + 1 ≤ 2147483648 by omega) ?_
      conv => whnf
      refine .inr ⟨rfl, ht, ?_⟩
      rw [← set_map, show l.steps.map Stp.D ++ [x.D] = ((l.steps.map Stp.D).drop 0).take l.steps.length ++ [x.D] from by simp [List.take_of_length_le]]
      rfl

end Go.Proofs.Ythplmnpfaagciaa.Pw

/- All bounds of all cells. -/
set_option linter.unusedVariables false
set_option linter.unusedSimpArgs false
namespace Go.Proofs.Ythplmnpfaagciaa.Pw
open Go

def pair (m d : Nat) : List Side := [⟨m, d, false⟩, ⟨m, d, true⟩]
def rowS (m : Nat) : Nat → List Side
  | 0 => []
  | k + 1 => rowS m k ++ pair m (k + 1)
def sidesL : Nat → List Side
  | 0 => []
  | n + 1 => sidesL n ++ rowS (n + 1) (n + 1)
theorem mem_row (m : Nat) (s : Side) : ∀ k : Nat, s ∈ rowS m k ↔ s.n = m ∧ 1 ≤ s.d ∧ s.d ≤ k
  | 0 => by simp [rowS]; omega
  | k + 1 => by
    obtain ⟨a, b, c⟩ := s
    simp only [rowS, pair, List.mem_append, mem_row m _ k]
    cases c <;> simp <;> omega
theorem mem_sides (s : Side) : ∀ n : Nat, s ∈ sidesL n ↔ 1 ≤ s.d ∧ s.d ≤ s.n ∧ s.n ≤ n
  | 0 => by simp [sidesL]; omega
  | n + 1 => by
    simp only [sidesL, List.mem_append, mem_sides s n, mem_row]
    omega

theorem hcSides {σ : Type} (n : Nat) (hn : n ≤ 8) (f : Nat) (caps : List D) (H : List Ob) (J : σ → List Ob → Prop) (step : σ → Side → σ) (st : σ) (h0 : J st H)
    (hdo : ∀ s st H, 1 ≤ s.d → s.d ≤ s.n → s.n ≤ (n : Int) → J st H → HC Try.prog f (s.D :: caps) H (fun r H' => J (step st s) H')) :
    HC Try.prog 46 [.int .i64 n, .func f caps] H (fun r H' => r = .tuple [] ∧ J ((sidesL n).foldl step st) H') := by
  refine hc_of (okc Try.f46.ntmps H.length) (fn := Try.f46) (cd := _) rfl rfl rfl rfl rfl rfl (fun hb => ?_)
  conv => whnf
  refine lp (fun k e H => ∃ m : Nat, m ≤ n ∧ k = n - m ∧ J ((sidesL m).foldl step st) H ∧ e = [(4, .int .i64 (m + 1 : Nat)), (0, .int .i64 n), (1, .func f caps)]) ?_ ?_
  · refine ⟨n + 1, back n _ (by omega) ?_ ⟨0, by omega, rfl, h0, rfl⟩⟩
    exact se0 rfl (se0 rfl (se0 rfl trivial))
  · rintro k e H ⟨m, hm, rfl, hJ, rfl⟩
    conv => whnf
    refine ifb (fun h1 => ?_) (fun h1 => ?_)
    · have h1 : m < n := by simp at h1; omega
      conv => whnf
      refine lp (fun k e H => ∃ d : Nat, d ≤ m + 1 ∧ k = m + 1 - d ∧ J ((rowS (m + 1) d).foldl step ((sidesL m).foldl step st)) H ∧ e = [(5, .int .i64 (d + 1 : Nat)), (4, .int .i64 (m + 1 : Nat)), (0, .int .i64 n), (1, .func f caps)]) ?_ ?_
      · refine ⟨m + 2, back (m + 1) _ (by omega) ?_ ⟨0, by omega, rfl, hJ, rfl⟩⟩
        exact se0 rfl (se0 rfl (se0 rfl (se0 rfl trivial)))
      · rintro k e H ⟨d, hd, rfl, hJ, rfl⟩
        conv => whnf
        refine ifb (fun h2 => ?_) (fun h2 => ?_)
        · have h2 : d < m + 1 := by simp at h2; omega
          conv => whnf
          refine HC.mono (hdo ⟨(m + 1 : Nat), (d + 1 : Nat), false⟩ _ H (by show (1:Int) ≤ (d + 1 : Nat); omega) (by show ((d + 1 : Nat):Int) ≤ (m + 1 : Nat); omega) (by show ((m + 1 : Nat):Int) ≤ n; omega) hJ) ?_
          intro r H' hJ
          conv => whnf
          refine HC.mono (hdo ⟨(m + 1 : Nat), (d + 1 : Nat), true⟩ _ H' (by show (1:Int) ≤ (d + 1 : Nat); omega) (by show ((d + 1 : Nat):Int) ≤ (m + 1 : Nat); omega) (by show ((m + 1 : Nat):Int) ≤ n; omega) hJ) ?_
          intro r H' hJ
          conv => whnf
          refine iv ((d + 1 + 1 : Nat) : Int) (by rw [w64 (by omega) (by omega)]; omega) ?_
          conv => whnf
          refine back (m + 1 - (d + 1)) _ (by omega) ?_ ⟨d + 1, by omega, rfl, ?_, rfl⟩
          · exact se0 rfl (se0 rfl (se0 rfl (se0 rfl trivial)))
          · rw [rowS, List.foldl_append]; exact hJ
        · conv => whnf
          have h2 : d = m + 1 := by simp at h2; omega
          subst h2
          refine iv ((m + 1 + 1 : Nat) : Int) (by rw [w64 (by omega) (by omega)]; omega) ?_
          conv => whnf
          refine back (n - (m + 1)) _ (by omega) ?_ ⟨m + 1, by omega, rfl, ?_, rfl⟩
          · exact se0 rfl (se0 rfl (se0 rfl trivial))
          · rw [sidesL, List.foldl_append]; exact hJ
    · conv => whnf
      have : m = n := by simp at h1; omega
      subst this
      exact ⟨rfl, hJ⟩

end Go.Proofs.Ythplmnpfaagciaa.Pw

/- A step is noted, wherever the log lies. -/
set_option linter.unusedVariables false
set_option linter.unusedSimpArgs false
namespace Go.Proofs.Ythplmnpfaagciaa.Pw
open Go

/-- Results of a function without objects, under other names. -/
theorem HC.canon {P : Program} {f : FuncId} {args : List D} {Q0 Q : D → List Ob → Prop} (h : HC P f args [] Q0)
    (hQ : ∀ r H', Q0 r H' → ∃ H1 H2 ρ r2, Frz H' H1 ∧ SubH ρ H2.length H1 H2 ρ ∧ nodup ρ = true ∧ inD H2.length r2 = true ∧ LeD H1 (renD ρ r2) r ∧ Q r2 H2) : HC P f args [] Q := by
  unfold HC at h ⊢
  refine ⟨h.1, fun F β w vs hst hdom hrv => (h.2 F β w vs hst hdom hrv).mono ?_⟩
  rintro en w' ⟨r, v, F', β', H', rfl, hq, hlen, s', d', hr, ext⟩
  obtain ⟨H1, H2, ρ, r2, hz, hsub, hnd, hin, hle, hq1⟩ := hQ r H' hq
  obtain ⟨F1, hx1, s1, a1, e1, l1, q1⟩ := frz_sound hz s' (ag_refl β' H')
  have q1 := q1 rfl
  subst q1
  obtain ⟨s0, d0, o0, _⟩ := s1.sub hsub hnd
  have hr1 : R F1 r2 (subB ρ H2.length β') v := ren_sound r2 hin (leD_sound s1 (ag_refl β' H1) hle (R.mono e1.fle _ e1.ble hr))
  refine ⟨r2, v, F1, _, H2, rfl, hq1, Nat.zero_le _, s0, d0, hr1, ?_⟩
  have ee := ext.trans e1
  refine ⟨ee.os, ee.tape, ee.output, ee.size, ee.keep, ?_, ee.fz, ee.fle, ?_⟩
  · intro b hb
    obtain ⟨i, hi, k, h1, h2, h3⟩ := o0 b hb
    exact ee.own b ⟨_, k, h1, h2, h3⟩
  · intro i k hi
    have := hdom i k hi
    simp at this

theorem cl_side (s : Side) : clD s.D = true := rfl
theorem cl_ints : ∀ l : List Int, clDs (l.map (.int .i64)) = true
  | [] => rfl
  | _ :: l => by simp [clDs, clD, cl_ints l]
theorem cl_stp (x : Stp) : clD x.D = true := rfl
theorem cl_stps : ∀ l : List Stp, clDs (l.map Stp.D) = true
  | [] => rfl
  | x :: l => by
    show cond (clD x.D) (clDs (l.map Stp.D)) false = true
    rw [cl_stp, cl_stps l]; rfl
theorem ren_mapD (ρ : List Nat) : ∀ m : List (Side × Nat), renM ρ (mapD m) = mapD m
  | [] => rfl
  | p :: m => by
    show (renD ρ p.1.D, renD ρ (D.int .i64 p.2)) :: renM ρ (mapD m) = _
    rw [ren_mapD ρ m]; rfl
theorem in_mapD (n : Nat) : ∀ m : List (Side × Nat), inM n (mapD m) = true
  | [] => rfl
  | p :: m => by
    show cond (inD n p.1.D) (cond (inD n (D.int .i64 p.2)) (inM n (mapD m)) false) false = true
    rw [in_mapD n m]; rfl

theorem hcNoteC (l : Lg) (x : Stp) (hok : ∀ s i, lookA l.best s = some i → i < l.steps.length) (hlen : l.steps.length < 2147483648) :
    HC Try.prog 48 [.ptr 0 [], x.s.D, .int .i64 x.v, .int .i64 x.by_, atD x.at_] (LN l)
    (fun r H' => r = .bool (taken l x.s x.v) ∧ H' = [.var (.agg [.sl 3 0 (noteL l x).steps.length, .map 1]), .map (mapD (noteL l x).best), .dead, rowL (noteL l x)]) := by
  refine HC.move (hcNote l x hok hlen) ?_
  have r3 : ∀ (ρ : List Nat) (l : List Stp), renDs ρ (l.map Stp.D) = l.map Stp.D := fun ρ l => ren_cls ρ _ (cl_stps l)
  have i3 : ∀ (n : Nat) (l : List Stp), inDs n (l.map Stp.D) = true := fun n l => in_cls n _ (cl_stps l)
  rintro r H' (⟨rfl, ht, rfl⟩ | ⟨rfl, ht, rfl⟩)
  · have hn : noteL l x = l := by simp [noteL, ht]
    rw [ht, hn]
    refine ⟨_, _, [0, 1, 1000, 2], _, .refl _, ?_, rfl, ?_, ?_, rfl, .refl _, rfl, rfl⟩
    · refine ⟨rfl, rfl, ?_, ?_, rfl, rfl, ?_, ?_, trivial⟩
      · simp [renO, ren_mapD, LN]
      · simp [inO, in_mapD]
      · simp [renO, rowL, r3, LN]
      · simp [inO, rowL, i3]
    · simp [LN]
    · intro i hi
      have : i = 0 ∨ i = 1 ∨ i = 2 := by simp [LN] at hi; omega
      rcases this with rfl | rfl | rfl
      · exact .inl rfl
      · exact .inl rfl
      · exact .inr ⟨rfl, by simp [LN]⟩
  · have hn : noteL l x = put l x := by simp [noteL, ht]
    rw [ht, hn]
    refine ⟨_, _, [0, 1, 1000, 5], _, .refl _, ?_, rfl, ?_, ?_, rfl, .refl _, rfl, rfl⟩
    · refine ⟨?_, rfl, ?_, ?_, rfl, rfl, ?_, ?_, trivial⟩
      · simp [renO, renD, renDs, put]
      · simp [renO, ren_mapD, put]
      · simp [inO, in_mapD]
      · have := r3 [0, 1, 1000, 5] (l.steps ++ [x])
        rw [List.map_append] at this
        simp only [List.map_cons, List.map_nil] at this
        simp [renO, rowL, put, this]
      · simp [inO, rowL, i3]
    · simp [LN]
    · intro i hi
      have : i = 0 ∨ i = 1 ∨ i = 2 := by simp [LN] at hi; omega
      rcases this with rfl | rfl | rfl
      · exact .inl rfl
      · exact .inl rfl
      · exact .inr ⟨rfl, by simp⟩

/-- note, at a log that sits at the names 2 and 1, its steps at j. -/
theorem noteO (l : Lg) (x : Stp) (hok : ∀ s i, lookA l.best s = some i → i < l.steps.length) (hlen : l.steps.length < 2147483648)
    {H H1 : List Ob} {args : List D} {Q : D → List Ob → Prop} (j : Nat) (hz : Frz H H1)
    (h2 : H1.getD 2 .dead = .var (.agg [.sl j 0 l.steps.length, .map 1])) (h1 : H1.getD 1 .dead = .map (mapD l.best)) (h3 : H1.getD j .dead = rowL l) (hj : 2 < j) (hjl : j < H.length)
    (hargs : LeDs H1 [.ptr 2 [], x.s.D, .int .i64 x.v, .int .i64 x.by_, atD x.at_] args)
    (hQ : Q (.bool (taken l x.s x.v)) (((H1.set 2 (.var (.agg [.sl H.length 0 (noteL l x).steps.length, .map 1]))).set 1 (.map (mapD (noteL l x).best))).set j .dead ++ [rowL (noteL l x)])) : HC Try.prog 48 args H Q := by
  have r3 : ∀ (ρ : List Nat) (l : List Stp), renDs ρ (l.map Stp.D) = l.map Stp.D := fun ρ l => ren_cls ρ _ (cl_stps l)
  have i3 : ∀ (n : Nat) (l : List Stp), inDs n (l.map Stp.D) = true := fun n l => in_cls n _ (cl_stps l)
  refine HC.frame [2, 1, j] (hcNoteC l x hok hlen) hz ?_ ?_ (by simp; omega) hargs rfl ?_
  · refine ⟨h2, rfl, ?_, ?_, ?_, ?_, trivial⟩
    · rw [h1]; simp [renO, ren_mapD]
    · simp [inO, in_mapD]
    · rw [h3]; simp [renO, rowL, r3]
    · simp [inO, rowL, i3]
  · refine nodup_mk _ ?_
    simp; omega
  · rintro r H' ⟨rfl, rfl⟩ _
    refine cast ?_ hQ
    congr 1
    simp [putB, outN, LN, renO, ren_mapD, renD, renDs, r3, rowL, List.range_succ]

end Go.Proofs.Ythplmnpfaagciaa.Pw

/- The closure's states, in plain terms. -/
set_option linter.unusedVariables false
set_option linter.unusedSimpArgs false
namespace Go.Proofs.Ythplmnpfaagciaa.Pw
open Go

def srcS (r : Nat) (s : Side) : Side := match r with
  | 3 => ⟨s.n - stepS s, s.d, s.up⟩
  | 4 => ⟨s.n, s.d - stepS s, s.up⟩
  | 5 => ⟨s.n + stepS s, s.d, s.up⟩
  | _ => ⟨(otherS s).1, (otherS s).2, s.up⟩
def valS (r : Nat) (s : Side) (v : Int) : Int := if r = 3 then dbl s v else v
def isC (n : Int) (s : Side) : Prop := 1 ≤ s.d ∧ s.d ≤ s.n ∧ s.n ≤ n
theorem srcS_up (r : Nat) (s : Side) : (srcS r s).up = s.up := by unfold srcS; split <;> rfl

inductive Fol (K : List Known) (G : List Int) (n : Int) (before : List Stp) : Stp → Prop
  | known (s : Side) (v : Int) (i : Nat) (k : Known) : K[i]? = some k → force k G = true → k.n = s.n → k.d = s.d → k.up = s.up → k.v = v → Fol K G n before ⟨s, v, 0, [(i : Int)]⟩
  | one (s : Side) : (s.up = true ∨ s.d = 1) → Fol K G n before ⟨s, 2 ^ s.n.toNat, 1, []⟩
  | two (s : Side) : (s.up = false ∨ s.d = s.n) → Fol K G n before ⟨s, 2, 2, []⟩
  | rule (r : Nat) (s : Side) (j : Nat) (y : Stp) : 3 ≤ r → r ≤ 6 → before[j]? = some y → y.s = srcS r s → isC n y.s → Fol K G n before ⟨s, valS r s y.v, r, [(j : Int)]⟩

def valOf (l : Lg) (s : Side) : Option Int := match lookA l.best s with
  | none => none
  | some i => match l.steps[i]? with
    | none => none
    | some x => some x.v
def gapV (s : Side) (v : Int) : Nat := if s.up then v.toNat else (16777217 - v).toNat
def gap (l : Lg) (s : Side) : Nat := match valOf l s with
  | none => 16777217
  | some v => gapV s v
def sumL (f : Side → Nat) : List Side → Nat
  | [] => 0
  | s :: r => f s + sumL f r
def pot (l : Lg) : Nat := sumL (gap l) (sidesL 8)

structure Inv (K : List Known) (G : List Int) (n : Int) (l : Lg) : Prop where
  best : ∀ s i, lookA l.best s = some i → ∃ x, l.steps[i]? = some x ∧ x.s = s
  cell : ∀ (i : Nat) x, l.steps[i]? = some x → isC n x.s ∧ 1 ≤ x.v ∧ x.v ≤ 16777216
  fol : ∀ (i : Nat) x, l.steps[i]? = some x → Fol K G n (l.steps.take i) x
  top : ∀ (i : Nat) x, l.steps[i]? = some x → ∃ v, valOf l x.s = some v ∧ (v = x.v ∨ better x.s v x.v = true)
  ord : ∀ (i j : Nat) x y, i < j → l.steps[i]? = some x → l.steps[j]? = some y → x.s = y.s → better y.s y.v x.v = true
  len : l.steps.length + pot l ≤ 1207959624

theorem look_set (s t : Side) (i : Nat) : ∀ m : List (Side × Nat), lookA (setA m s i) t = if t = s then some i else lookA m t
  | [] => by simp [setA, lookA]
  | (a, j) :: m => by
    unfold setA
    by_cases h : s = a
    · subst h
      simp only [if_true, lookA]
      split <;> simp_all
    · simp only [if_neg h, lookA, look_set s t i m]
      by_cases h1 : t = a
      · subst h1; simp [Ne.symm h]
      · simp [h1]
theorem better_trans {s : Side} {a b c : Int} (h1 : better s a b = true) (h2 : better s b c = true) : better s a c = true := by
  unfold better at *; split at h1 <;> simp_all <;> omega
theorem taken_eq (l : Lg) (s : Side) (v : Int) : taken l s v = match valOf l s with | none => true | some w => better s v w := by
  unfold taken valOf
  cases lookA l.best s with
  | none => rfl
  | some i => simp only []; cases l.steps[i]? <;> rfl
theorem valOf_put {l : Lg} {x : Stp} (hb : ∀ s i, lookA l.best s = some i → ∃ x, l.steps[i]? = some x ∧ x.s = s) (s : Side) : valOf (put l x) s = if s = x.s then some x.v else valOf l s := by
  unfold valOf put
  simp only [look_set]
  by_cases h : s = x.s
  · simp [h]
  · simp only [if_neg h]
    cases hl : lookA l.best s with
    | none => rfl
    | some i =>
      obtain ⟨y, hy, _⟩ := hb s i hl
      simp [List.getElem?_append_left (List.getElem?_eq_some_iff.1 hy).1]
theorem sum_le (f g : Side → Nat) (hle : ∀ s, f s ≤ g s) : ∀ l : List Side, sumL f l ≤ sumL g l
  | [] => Nat.le_refl _
  | s :: l => by have := hle s; have := sum_le f g hle l; simp only [sumL]; omega
theorem sum_lt (f g : Side → Nat) (hle : ∀ s, f s ≤ g s) (t : Side) (ht : f t < g t) : ∀ l : List Side, t ∈ l → sumL f l < sumL g l
  | [], h => by simp at h
  | s :: l, h => by
    have h1 := hle s; have h2 := sum_le f g hle l
    simp only [sumL]
    rcases List.mem_cons.1 h with rfl | h
    · omega
    · have := sum_lt f g hle t ht l h; omega

theorem gap_put {l : Lg} {x : Stp} (hb : ∀ s i, lookA l.best s = some i → ∃ x, l.steps[i]? = some x ∧ x.s = s) (hc : ∀ (i : Nat) x, l.steps[i]? = some x → 1 ≤ x.v ∧ x.v ≤ 16777216)
    (ht : taken l x.s x.v = true) (h1 : 1 ≤ x.v) (h2 : x.v ≤ 16777216) (hx : x.s ∈ sidesL 8) : pot (put l x) < pot l := by
  have h0 : gap (put l x) x.s < gap l x.s := by
    unfold gap
    rw [valOf_put hb, if_pos rfl]
    rw [taken_eq] at ht
    cases hv : valOf l x.s with
    | none => simp only [gapV]; split <;> omega
    | some w =>
      rw [hv] at ht
      have hw : 1 ≤ w ∧ w ≤ 16777216 := by
        unfold valOf at hv
        cases hl : lookA l.best x.s with
        | none => rw [hl] at hv; cases hv
        | some i =>
          obtain ⟨y, hy, _⟩ := hb _ i hl
          simp only [hl, hy] at hv
          cases hv
          exact hc i y hy
      show gapV x.s x.v < gapV x.s w
      have ht : better x.s x.v w = true := ht
      unfold better at ht
      unfold gapV
      cases hu : x.s.up <;> simp [hu] at ht ⊢ <;> omega
  refine sum_lt _ _ ?_ x.s h0 _ hx
  intro s
  by_cases h : s = x.s
  · rw [h]; omega
  · unfold gap; rw [valOf_put hb, if_neg h]; exact Nat.le_refl _

theorem Inv.put {K : List Known} {G : List Int} {n : Int} {l : Lg} (h : Inv K G n l) (hn : n ≤ 8) (x : Stp) (hc : isC n x.s) (h1 : 1 ≤ x.v) (h2 : x.v ≤ 16777216) (hf : Fol K G n l.steps x) (ht : taken l x.s x.v = true) : Inv K G n (put l x) := by
  have hp : pot (Pw.put l x) < pot l := gap_put h.best (fun i y hy => (h.cell i y hy).2) ht h1 h2 ((mem_sides _ _).2 ⟨hc.1, hc.2.1, by have := hc.2.2; show x.s.n ≤ 8; omega⟩)
  have last : ∀ {i : Nat} {y : Stp}, (l.steps ++ [x])[i]? = some y → l.steps[i]? = some y ∨ (i = l.steps.length ∧ y = x) := by
    intro i y hy
    rw [List.getElem?_append] at hy
    split at hy
    · exact .inl hy
    · have := (List.getElem?_eq_some_iff.1 hy)
      obtain ⟨a, b⟩ := this
      simp at a b
      exact .inr ⟨by omega, b.symm⟩
  have tops : ∀ (i : Nat) y, l.steps[i]? = some y → y.s = x.s → better x.s x.v y.v = true := by
    intro i y hy he
    obtain ⟨v, hv, hb⟩ := h.top i y hy
    rw [taken_eq, ← he, hv] at ht
    simp only [] at ht
    rw [← he]
    rcases hb with rfl | hb
    · exact ht
    · exact better_trans ht hb
  refine ⟨?_, ?_, ?_, ?_, ?_, ?_⟩
  · intro s i hs
    simp only [Pw.put, look_set] at hs ⊢
    split at hs
    · next e => cases hs; exact ⟨x, by simp, e.symm⟩
    · obtain ⟨y, hy, hys⟩ := h.best s i hs
      exact ⟨y, by rw [List.getElem?_append_left (List.getElem?_eq_some_iff.1 hy).1]; exact hy, hys⟩
  · intro i y hy
    rcases last hy with hy | ⟨_, rfl⟩
    · exact h.cell i y hy
    · exact ⟨hc, h1, h2⟩
  · intro i y hy
    rcases last hy with hy | ⟨rfl, rfl⟩
    · have := h.fol i y hy
      have hi := (List.getElem?_eq_some_iff.1 hy).1
      simp only [Pw.put]
      rw [List.take_append_of_le_length (by omega)]
      exact this
    · simp only [Pw.put]
      rw [List.take_append_of_le_length (Nat.le_refl _), List.take_length]
      exact hf
  · intro i y hy
    rw [valOf_put h.best]
    split
    · next e =>
      refine ⟨x.v, rfl, ?_⟩
      rcases last hy with hy | ⟨rfl, rfl⟩
      · rw [e]; exact .inr (tops i y hy e)
      · exact .inl rfl
    · next e =>
      rcases last hy with hy | ⟨rfl, rfl⟩
      · exact h.top i y hy
      · exact absurd rfl e
  · intro i j y z hij hy hz he
    rcases last hz with hz' | ⟨hz1, hz2⟩
    · rcases last hy with hy' | ⟨hy1, hy2⟩
      · exact h.ord i j y z hij hy' hz' he
      · have := (List.getElem?_eq_some_iff.1 hz').1; omega
    · subst hz2
      rcases last hy with hy' | ⟨hy1, hy2⟩
      · exact tops i y hy' he
      · omega
  · have := h.len
    simp only [Pw.put, List.length_append, List.length_singleton] at hp ⊢
    omega

theorem Inv.note {K : List Known} {G : List Int} {n : Int} {l : Lg} (h : Inv K G n l) (hn : n ≤ 8) (x : Stp) (hc : isC n x.s) (hv : taken l x.s x.v = true → 1 ≤ x.v ∧ x.v ≤ 16777216) (hf : Fol K G n l.steps x) : Inv K G n (noteL l x) := by
  unfold noteL
  split
  · next ht => exact h.put hn x hc (hv ht).1 (hv ht).2 hf ht
  · exact h

end Go.Proofs.Ythplmnpfaagciaa.Pw

/- closure$1: the bounds that need no others. -/
set_option linter.unusedVariables false
set_option linter.unusedSimpArgs false
namespace Go.Proofs.Ythplmnpfaagciaa.Pw
open Go

def base1 (l : Lg) (s : Side) : Lg := if s.up || decide (s.d = 1) then noteL l ⟨s, 2 ^ s.n.toNat, 1, []⟩ else l
def baseL (l : Lg) (s : Side) : Lg := if !s.up || decide (s.d = s.n) then noteL (base1 l s) ⟨s, 2, 2, []⟩ else base1 l s
def goodL (l : Lg) : Prop := ∀ s i, lookA l.best s = some i → ∃ x, l.steps[i]? = some x ∧ x.s = s
theorem goodL.lt {l : Lg} (h : goodL l) : ∀ s i, lookA l.best s = some i → i < l.steps.length := by
  intro s i hs
  obtain ⟨x, hx, _⟩ := h s i hs
  exact (List.getElem?_eq_some_iff.1 hx).1

theorem goodL.note {l : Lg} (h : goodL l) (x : Stp) : goodL (noteL l x) := by
  unfold noteL
  split
  · intro s i hs
    simp only [put, look_set] at hs ⊢
    split at hs
    · next e => cases hs; exact ⟨x, by simp, e.symm⟩
    · obtain ⟨y, hy, hys⟩ := h s i hs
      exact ⟨y, by rw [List.getElem?_append_left (List.getElem?_eq_some_iff.1 hy).1]; exact hy, hys⟩
  · exact h
theorem note_len (l : Lg) (x : Stp) : (noteL l x).steps.length ≤ l.steps.length + 1 := by
  unfold noteL; split <;> simp [put]
theorem base1_good {l : Lg} (h : goodL l) (s : Side) : goodL (base1 l s) := by
  unfold base1; split
  · exact h.note _
  · exact h
theorem base1_len (l : Lg) (s : Side) : (base1 l s).steps.length ≤ l.steps.length + 1 := by
  unfold base1; split
  · exact note_len _ _
  · omega

/-- The closure's objects: n, the map, the log, the variable l, the steps. -/
def O1 (N : Int) (l : Lg) : List Ob := [.var (.int .i64 N), .map (mapD l.best), .var (.agg [.sl 4 0 l.steps.length, .map 1]), .var (.ptr 2 []), rowL l]
def SitsM (M : Nat) (H : List Ob) (O : List Ob) : Prop := ∃ σ, Sits H σ O ∧ σ.take M = List.range M
theorem sitsO1 {H : List Ob} {N : Int} {l : Lg} (j : Nat) (h0 : H.getD 0 .dead = .var (.int .i64 N)) (h1 : H.getD 1 .dead = .map (mapD l.best)) (h2 : H.getD 2 .dead = .var (.agg [.sl j 0 l.steps.length, .map 1])) (h3 : H.getD 3 .dead = .var (.ptr 2 []))
    (h4 : H.getD j .dead = rowL l) (hj : 3 < j) (hl : j < H.length) : SitsM 4 H (O1 N l) := by
  refine ⟨[0, 1, 2, 3, j], ⟨⟨h0, rfl, ?_, ?_, h2, rfl, h3, rfl, ?_, ?_, trivial⟩, ?_, ?_⟩, rfl⟩
  · rw [h1]; simp [renO, ren_mapD]
  · simp [inO, in_mapD]
  · rw [h4]; simp [renO, rowL, ren_cls _ _ (cl_stps l.steps)]
  · simp [inO, rowL, in_cls _ _ (cl_stps l.steps)]
  · refine nodup_mk _ ?_
    simp; omega
  · simp; omega
theorem leNil (H : List Ob) (x : Stp) (h : x.at_ = []) (g : Nat) : LeDs H [.ptr g [], x.s.D, .int .i64 x.v, .int .i64 x.by_, atD x.at_] [.ptr g [], x.s.D, .int .i64 x.v, .int .i64 x.by_, .nils] := by
  rw [h]
  exact .cons _ _ _ _ (.refl _) (.cons _ _ _ _ (.refl _) (.cons _ _ _ _ (.refl _) (.cons _ _ _ _ (.refl _) (.cons _ _ _ _ (.nils _) .nil))))

theorem hcBase (N : Int) (l : Lg) (s : Side) (hs1 : 1 ≤ s.n) (hs2 : s.n ≤ 8) (hg : goodL l) (hlen : l.steps.length < 2147483000) :
    HC Try.prog 47 [s.D, .ptr 3 []] (O1 N l) (fun r H' => r = .tuple [] ∧ SitsM 4 H' (O1 N (baseL l s))) := by
  have hp : (2:Int) ^ s.n.toNat ≤ 256 ∧ (1:Int) ≤ 2 ^ s.n.toNat := by
    have : s.n.toNat ≤ 8 := by omega
    generalize s.n.toNat = k at this
    have : k = 0 ∨ k = 1 ∨ k = 2 ∨ k = 3 ∨ k = 4 ∨ k = 5 ∨ k = 6 ∨ k = 7 ∨ k = 8 := by omega
    rcases this with rfl | rfl | rfl | rfl | rfl | rfl | rfl | rfl | rfl <;> decide
  have hg1 := base1_good hg s
  have hl1 := base1_len l s
  refine hc_of (okc Try.f47.ntmps 5) (fn := Try.f47) (cd := _) rfl rfl rfl rfl rfl rfl (fun hb => ?_)
  conv => whnf
  refine ifb (fun h1 => ?_) (fun h1 => ?_)
  · have hB1 : base1 l s = noteL l ⟨s, 2 ^ s.n.toNat, 1, []⟩ := by simp [base1, h1]
    rw [hB1] at hg1 hl1
    conv => whnf
    refine dr 5 rfl ?_
    conv => whnf
    refine ob (by omega) ?_
    refine iv (2 ^ s.n.toNat) ?_ ?_
    · have : min s.n.toNat IntKind.i64.bits = s.n.toNat := by show min s.n.toNat 64 = _; omega
      rw [this, w64 (by omega) (by omega)]; omega
    conv => whnf
    refine noteO l ⟨s, 2 ^ s.n.toNat, 1, []⟩ hg.lt (by omega) 4 (.refl _) rfl rfl rfl (by omega) (Nat.le_of_ble_eq_true rfl) (leNil _ ⟨s, 2 ^ s.n.toNat, 1, []⟩ rfl 2) ?_
    conv => whnf
    refine ifb (fun h3 => ?_) (fun h3 => ?_)
    · rw [h1] at h3; cases h3
    conv => whnf
    refine ifb (fun h2 => ?_) (fun h2 => ?_)
    · have hB : baseL l s = noteL (noteL l ⟨s, 2 ^ s.n.toNat, 1, []⟩) ⟨s, 2, 2, []⟩ := by simp at h2; simp [baseL, hB1, h2]
      conv => whnf
      refine noteO (noteL l ⟨s, 2 ^ s.n.toNat, 1, []⟩) ⟨s, 2, 2, []⟩ hg1.lt (by omega) 6 (.refl _) rfl rfl rfl (by omega) (Nat.le_of_ble_eq_true rfl) (leNil _ ⟨s, 2, 2, []⟩ rfl 2) ?_
      conv => whnf
      refine ⟨rfl, ?_⟩
      rw [hB]
      exact sitsO1 7 rfl rfl rfl rfl rfl (by omega) (Nat.le_of_ble_eq_true rfl)
    · have hB : baseL l s = noteL l ⟨s, 2 ^ s.n.toNat, 1, []⟩ := by simp at h2; simp [baseL, hB1, h1, h2]
      conv => whnf
      refine ⟨rfl, ?_⟩
      rw [hB]
      exact sitsO1 6 rfl rfl rfl rfl rfl (by omega) (Nat.le_of_ble_eq_true rfl)
  · conv => whnf
    refine ifb (fun h2 => ?_) (fun h2 => ?_)
    · have hB1 : base1 l s = noteL l ⟨s, 2 ^ s.n.toNat, 1, []⟩ := by simp at h2; simp [base1, h2]
      have hB : baseL l s = noteL (noteL l ⟨s, 2 ^ s.n.toNat, 1, []⟩) ⟨s, 2, 2, []⟩ := by simp [baseL, hB1, h1]
      rw [hB1] at hg1 hl1
      conv => whnf
      refine dr 5 rfl ?_
      conv => whnf
      refine ob (by omega) ?_
      refine iv (2 ^ s.n.toNat) ?_ ?_
      · have : min s.n.toNat IntKind.i64.bits = s.n.toNat := by show min s.n.toNat 64 = _; omega
        rw [this, w64 (by omega) (by omega)]; omega
      conv => whnf
      refine noteO l ⟨s, 2 ^ s.n.toNat, 1, []⟩ hg.lt (by omega) 4 (.refl _) rfl rfl rfl (by omega) (Nat.le_of_ble_eq_true rfl) (leNil _ ⟨s, 2 ^ s.n.toNat, 1, []⟩ rfl 2) ?_
      conv => whnf
      refine ifb (fun h3 => ?_) (fun h3 => ?_)
      · conv => whnf
        refine noteO (noteL l ⟨s, 2 ^ s.n.toNat, 1, []⟩) ⟨s, 2, 2, []⟩ hg1.lt (by omega) 6 (.refl _) rfl rfl rfl (by omega) (Nat.le_of_ble_eq_true rfl) (leNil _ ⟨s, 2, 2, []⟩ rfl 2) ?_
        conv => whnf
        refine ⟨rfl, ?_⟩
        rw [hB]
        exact sitsO1 7 rfl rfl rfl rfl rfl (by omega) (Nat.le_of_ble_eq_true rfl)
      · rw [h1] at h3; cases h3
    · have hB1 : base1 l s = l := by simp at h2; simp [base1, h1, h2]
      have hB : baseL l s = noteL l ⟨s, 2, 2, []⟩ := by simp [baseL, hB1, h1]
      conv => whnf
      refine ifb (fun h3 => ?_) (fun h3 => ?_)
      · conv => whnf
        refine noteO (l) ⟨s, 2, 2, []⟩ hg.lt (by omega) 4 (.refl _) rfl rfl rfl (by omega) (Nat.le_of_ble_eq_true rfl) (leNil _ ⟨s, 2, 2, []⟩ rfl 2) ?_
        conv => whnf
        refine ⟨rfl, ?_⟩
        rw [hB]
        exact sitsO1 6 rfl rfl rfl rfl rfl (by omega) (Nat.le_of_ble_eq_true rfl)
      · rw [h1] at h3; cases h3

end Go.Proofs.Ythplmnpfaagciaa.Pw

/- The pass over the rules, in plain terms. -/
set_option linter.unusedVariables false
set_option linter.unusedSimpArgs false
namespace Go.Proofs.Ythplmnpfaagciaa.Pw
open Go

def Full (n : Int) (l : Lg) : Prop := ∀ s, isC n s → ∃ i, lookA l.best s = some i
theorem Full.note {n : Int} {l : Lg} (h : Full n l) (x : Stp) : Full n (noteL l x) := by
  unfold noteL
  split
  · intro s hs
    simp only [put, look_set]
    split
    · exact ⟨_, rfl⟩
    · exact h s hs
  · exact h
theorem Inv.at {K : List Known} {G : List Int} {n : Int} {l : Lg} (h : Inv K G n l) (hf : Full n l) {s : Side} (hs : isC n s) :
    ∃ i x, lookA l.best s = some i ∧ l.steps[i]? = some x ∧ x.s = s ∧ valOf l s = some x.v ∧ 1 ≤ x.v ∧ x.v ≤ 16777216 := by
  obtain ⟨i, hi⟩ := hf s hs
  obtain ⟨x, hx, hxs⟩ := h.best s i hi
  exact ⟨i, x, hi, hx, hxs, by simp [valOf, hi, hx], (h.cell i x hx).2⟩
theorem Inv.good {K : List Known} {G : List Int} {n : Int} {l : Lg} (h : Inv K G n l) : goodL l := h.best

def rule1 (n : Int) (s : Side) (lc : Lg × Bool) (r : Nat) : Lg × Bool :=
  if isCell (srcS r s).n (srcS r s).d n then
    match lc.1.steps[(lookA lc.1.best (srcS r s)).getD 0]? with
    | some y => (noteL lc.1 ⟨s, valS r s y.v, r, [((lookA lc.1.best (srcS r s)).getD 0 : Nat)]⟩, taken lc.1 s (valS r s y.v) || lc.2)
    | none => lc
  else lc
def passS (n : Int) (lc : Lg × Bool) (s : Side) : Lg × Bool := [3, 4, 5, 6].foldl (rule1 n s) lc

theorem cell_iff (s : Side) (n : Int) : isCell s.n s.d n = true ↔ isC n s := by
  unfold isCell isC
  simp [Bool.and_eq_true, and_assoc]
theorem dbl_lo {s : Side} (h : s.up = false) {v : Int} (h1 : 1 ≤ v) (h2 : v ≤ 16777216) : 1 ≤ dbl s v ∧ dbl s v ≤ v := by
  unfold dbl
  rw [h]
  have := (tdiv2 (v + 1)).1 (by omega)
  simp only [Bool.false_eq_true, if_false]
  omega
theorem valS_bd {r : Nat} {s : Side} {v w : Int} (h1 : 1 ≤ v) (h2 : v ≤ 16777216) (hw : w ≤ 16777216) (hb : better s (valS r s v) w = true) : 1 ≤ valS r s v ∧ valS r s v ≤ 16777216 := by
  unfold valS at *
  split
  · next h =>
    rw [if_pos h] at hb
    cases hu : s.up
    · have := dbl_lo hu h1 h2; omega
    · unfold better at hb
      simp [hu] at hb
      unfold dbl at *
      simp [hu] at *
      omega
  · omega
theorem rule1_inv {K : List Known} {G : List Int} {n : Int} {l : Lg} {c : Bool} {s : Side} {r : Nat} (h : Inv K G n l) (hf : Full n l) (hn : n ≤ 8) (hs : isC n s) (h3 : 3 ≤ r) (h6 : r ≤ 6) :
    Inv K G n (rule1 n s (l, c) r).1 ∧ Full n (rule1 n s (l, c) r).1 := by
  unfold rule1
  split
  · next hc =>
    have hc := (cell_iff _ _).1 hc
    obtain ⟨i, y, hi, hy, hys, _, hy1, hy2⟩ := h.at hf hc
    obtain ⟨_, _, _, _, _, hw, hw1, hw2⟩ := h.at hf hs
    simp only [hi, Option.getD_some, hy]
    refine ⟨h.note hn _ hs ?_ (.rule r s i y h3 h6 hy hys (by rw [hys]; exact hc)), hf.note _⟩
    intro ht
    rw [taken_eq, hw] at ht
    exact valS_bd hy1 hy2 hw2 ht
  · exact ⟨h, hf⟩
theorem pass_inv {K : List Known} {G : List Int} {n : Int} {l : Lg} {c : Bool} {s : Side} (h : Inv K G n l) (hf : Full n l) (hn : n ≤ 8) (hs : isC n s) :
    ∀ rs : List Nat, (∀ r ∈ rs, 3 ≤ r ∧ r ≤ 6) → Inv K G n (rs.foldl (rule1 n s) (l, c)).1 ∧ Full n (rs.foldl (rule1 n s) (l, c)).1 := by
  intro rs
  induction rs generalizing l c with
  | nil => intro _; exact ⟨h, hf⟩
  | cons r rs ih =>
    intro hr
    have h1 := hr r (by simp)
    obtain ⟨a, b⟩ := rule1_inv (c := c) h hf hn hs h1.1 h1.2
    exact ih (l := (rule1 n s (l, c) r).1) (c := (rule1 n s (l, c) r).2) a b (fun r hr' => hr r (by simp [hr']))

/-- The rule at a place of the list of rules. -/
theorem rule_at (s : Side) (hn : small s.n) (hd : small s.d) (k : Nat) (hk : k < 4) : ∃ f c g, rulesL[k]? = some (ruleD (k + 3 : Nat) (.func f c) (.func g [])) ∧ clDs c = true ∧
    Val Try.prog f (s.D :: c) (fun r => r = .tuple [.int .i64 (srcS (k + 3) s).n, .int .i64 (srcS (k + 3) s).d]) ∧ ∀ v, (k = 0 → fairV v) → Val Try.prog g [s.D, .int .i64 v] (fun r => r = .int .i64 (valS (k + 3) s v)) := by
  have : k = 0 ∨ k = 1 ∨ k = 2 ∨ k = 3 := by omega
  rcases this with rfl | rfl | rfl | rfl
  · exact ⟨52, [stepF], 53, rfl, rfl, v52 s hn hd, fun v hv => v53 s v (hv rfl)⟩
  · exact ⟨54, [stepF], 55, rfl, rfl, v54 s hn hd, fun v hv => vSame s v⟩
  · exact ⟨56, [stepF], 55, rfl, rfl, v56 s hn hd, fun v hv => vSame s v⟩
  · exact ⟨57, [], 55, rfl, rfl, vOther s hn hd, fun v hv => vSame s v⟩

end Go.Proofs.Ythplmnpfaagciaa.Pw

/- closure$2: the rules for one bound. -/
set_option linter.unusedVariables false
set_option linter.unusedSimpArgs false
namespace Go.Proofs.Ythplmnpfaagciaa.Pw
open Go

/-- n, the map, the log, the variable l, the variable changed, the steps. -/
def O2 (N : Int) (l : Lg) (c : Bool) : List Ob := [.var (.int .i64 N), .map (mapD l.best), .var (.agg [.sl 5 0 l.steps.length, .map 1]), .var (.ptr 2 []), .var (.bool c), rowL l]
theorem sitsO2 {H : List Ob} {N : Int} {l : Lg} {c : Bool} (j : Nat) (h0 : H.getD 0 .dead = .var (.int .i64 N)) (h1 : H.getD 1 .dead = .map (mapD l.best)) (h2 : H.getD 2 .dead = .var (.agg [.sl j 0 l.steps.length, .map 1])) (h3 : H.getD 3 .dead = .var (.ptr 2 []))
    (h5 : H.getD 4 .dead = .var (.bool c)) (h4 : H.getD j .dead = rowL l) (hj : 4 < j) (hl : j < H.length) : SitsM 5 H (O2 N l c) := by
  refine ⟨[0, 1, 2, 3, 4, j], ⟨⟨h0, rfl, ?_, ?_, h2, rfl, h3, rfl, h5, rfl, ?_, ?_, trivial⟩, ?_, ?_⟩, rfl⟩
  · rw [h1]; simp [renO, ren_mapD]
  · simp [inO, in_mapD]
  · rw [h4]; simp [renO, rowL, ren_cls _ _ (cl_stps l.steps)]
  · simp [inO, rowL, in_cls _ _ (cl_stps l.steps)]
  · refine nodup_mk _ ?_
    simp; omega
  · simp; omega
/-- The same, while closure$2 runs: its own copy of the bound is at 6, the steps at 7. -/
def O3 (N : Int) (l : Lg) (c : Bool) (s : Side) : List Ob := [.var (.int .i64 N), .map (mapD l.best), .var (.agg [.sl 7 0 l.steps.length, .map 1]), .var (.ptr 2 []), .var (.bool c), .dead, .var s.D, rowL l]
theorem subO3 {H : List Ob} {N : Int} {l : Lg} {c : Bool} {s : Side} (j : Nat) (h0 : H.getD 0 .dead = .var (.int .i64 N)) (h1 : H.getD 1 .dead = .map (mapD l.best)) (h2 : H.getD 2 .dead = .var (.agg [.sl j 0 l.steps.length, .map 1])) (h3 : H.getD 3 .dead = .var (.ptr 2 []))
    (h5 : H.getD 4 .dead = .var (.bool c)) (h6 : H.getD 6 .dead = .var s.D) (d : Nat) (hd : H.getD d .dead = .dead) (h4 : H.getD j .dead = rowL l) :
    SubH [0, 1, 2, 3, 4, d, 6, j] 8 H (O3 N l c s) [0, 1, 2, 3, 4, d, 6, j] := by
  refine ⟨h0, rfl, ?_, ?_, h2, rfl, h3, rfl, h5, rfl, hd, rfl, h6, rfl, ?_, ?_, trivial⟩
  · rw [h1]; simp [renO, ren_mapD]
  · simp [inO, in_mapD]
  · rw [h4]; simp [renO, rowL, ren_cls _ _ (cl_stps l.steps)]
  · simp [inO, rowL, in_cls _ _ (cl_stps l.steps)]

/-- Back to a loop of closure$2. -/
theorem back3 {I : Nat → Env → List Ob → Prop} {n : Nat} {e : Env} {H : List Ob} {N : Int} {l : Lg} {c : Bool} {s : Side} (m : Nat) (e2 : Env) (j : Nat) (hlt : m < n)
    (h0 : H.getD 0 .dead = .var (.int .i64 N)) (h1 : H.getD 1 .dead = .map (mapD l.best)) (h2 : H.getD 2 .dead = .var (.agg [.sl j 0 l.steps.length, .map 1])) (h3 : H.getD 3 .dead = .var (.ptr 2 []))
    (h5 : H.getD 4 .dead = .var (.bool c)) (h6 : H.getD 6 .dead = .var s.D) (h7 : H.getD 5 .dead = .dead) (h4 : H.getD j .dead = rowL l) (hj : 6 < j)
    (he : SubE [0, 1, 2, 3, 4, 5, 6, j] 8 H e e2) (hI : I m e2 (O3 N l c s)) : Back 6 I n e H :=
  ⟨m, e2, O3 N l c s, hlt, ⟨H, .refl H, .inr ⟨[0, 1, 2, 3, 4, 5, 6, j], ⟨he, subO3 j h0 h1 h2 h3 h5 h6 5 h7 h4, nodup_mk _ (by simp; omega), rfl⟩⟩⟩, hI⟩

theorem hcPass (K : List Known) (G : List Int) (N : Int) (l : Lg) (c : Bool) (s : Side) (hN : N ≤ 8) (hs : isC N s) (hI : Inv K G N l) (hF : Full N l) :
    HC Try.prog 49 [s.D, .ptr 0 [], .ptr 3 [], .ptr 4 []] (O2 N l c) (fun r H' => r = .tuple [] ∧ SitsM 5 H' (O2 N (passS N (l, c) s).1 (passS N (l, c) s).2)) := by
  have hsn : small s.n := by unfold small; have := hs.1; have := hs.2; omega
  have hsd : small s.d := by unfold small; have := hs.1; have := hs.2; omega
  refine hc_of (okc Try.f49.ntmps 6) (fn := Try.f49) (cd := _) rfl rfl rfl rfl rfl rfl (fun hb => ?_)
  conv => whnf
  refine HC.move (Val.call (Q := fun r H' => r = .list false sh3 rulesL ∧ H' = O2 N l c ++ [.var s.D]) vRules (.refl _) .nil rfl (by rintro r rfl; exact ⟨rfl, rfl⟩)) ?_
  rintro r H' ⟨rfl, rfl⟩
  refine ⟨_, O3 N l c s, [0, 1, 2, 3, 4, 1000, 6, 5], .list false sh3 rulesL, .refl _, subO3 5 rfl rfl rfl rfl rfl rfl 1000 rfl rfl, rfl, Nat.le_of_ble_eq_true rfl, ?_, rfl, .refl _, ?_⟩
  · intro i hi
    have : i = 0 ∨ i = 1 ∨ i = 2 ∨ i = 3 ∨ i = 4 ∨ i = 5 ∨ i = 6 := by
      have : i < 7 := hi
      omega
    rcases this with rfl | rfl | rfl | rfl | rfl | rfl | rfl
    · exact .inl rfl
    · exact .inl rfl
    · exact .inl rfl
    · exact .inl rfl
    · exact .inl rfl
    · exact .inr ⟨rfl, by show 7 ≤ 1000; omega⟩
    · exact .inl rfl
  conv => whnf
  refine lp (fun n e H => ∃ (k : Nat) (l' : Lg) (c' : Bool), k ≤ 4 ∧ n = 4 - k ∧ Inv K G N l' ∧ Full N l' ∧ (([3, 4, 5, 6] : List Nat).drop k).foldl (rule1 N s) (l', c') = passS N (l, c) s ∧ H = O3 N l' c' s ∧
      e = [(12, .int .i64 k), (11, .int .i64 4), (10, .list false sh3 rulesL), (4, .ptr 6 []), (1, .ptr 0 []), (2, .ptr 3 []), (3, .ptr 4 [])]) ?_ ?_
  · refine ⟨5, back 4 _ (by omega) ?_ ⟨0, l, c, by omega, rfl, hI, hF, rfl, rfl, rfl⟩⟩
    exact se0 rfl (se0 rfl (se0 rfl (se0 rfl (se0 rfl (se0 rfl (se0 rfl trivial))))))
  · rintro n e H ⟨k, l', c', hk, rfl, hI', hF', hfold, rfl, rfl⟩
    conv => whnf
    refine ifb (fun h1 => ?_) (fun h1 => ?_)
    · have h1 : k < 4 := by simp at h1; omega
      obtain ⟨f, cp, g, hrule, hcp, hf, hg⟩ := rule_at s hsn hsd k h1
      have hfold' : (([3, 4, 5, 6] : List Nat).drop (k + 1)).foldl (rule1 N s) (rule1 N s (l', c') (k + 3)) = passS N (l, c) s := by
        rw [← hfold]
        have : k = 0 ∨ k = 1 ∨ k = 2 ∨ k = 3 := by omega
        rcases this with rfl | rfl | rfl | rfl <;> rfl
      conv => whnf
      refine ob (by omega) ?_
      refine ⟨_, hrule, ?_⟩
      conv => whnf
      refine Val.call hf (.refl _) (ler _ _) (by simp only [clDs, cl_side, hcp]; rfl) ?_
      rintro r rfl
      conv => whnf
      refine HC.val (hcCell (srcS (k + 3) s).n (srcS (k + 3) s).d N) (.refl _) (ler _ _) rfl ?_
      rintro r H0' ⟨rfl, rfl⟩
      refine ⟨rfl, rfl, ?_⟩
      conv => whnf
      refine ifb (fun h2 => ?_) (fun h2 => ?_)
      · have h2 : isCell (srcS (k + 3) s).n (srcS (k + 3) s).d N = false := by simpa using h2
        have hr : rule1 N s (l', c') (k + 3) = (l', c') := by simp [rule1, h2]
        conv => whnf
        refine iv ((k + 1 : Nat) : Int) (by rw [w64 (by omega) (by omega)]; omega) ?_
        conv => whnf
        refine back3 (4 - (k + 1)) _ 7 (by omega) rfl rfl rfl rfl rfl rfl rfl rfl (by omega) ?_ ⟨k + 1, l', c', by omega, rfl, hI', hF', ?_, rfl, rfl⟩
        · exact ⟨.refl _, rfl, .refl _, rfl, .refl _, rfl, .refl _, rfl, .refl _, rfl, .refl _, rfl, .refl _, rfl, trivial⟩
        · rw [hr] at hfold'; exact hfold'
      · have h2 : isCell (srcS (k + 3) s).n (srcS (k + 3) s).d N = true := by simpa using h2
        have hc2 := (cell_iff _ _).1 h2
        obtain ⟨i, y, hi, hy, hys, _, hy1, hy2⟩ := hI'.at hF' hc2
        have hil := (List.getElem?_eq_some_iff.1 hy).1
        have hkey : D.agg [.int .i64 (srcS (k + 3) s).n, .int .i64 (srcS (k + 3) s).d, .bool s.up] = (srcS (k + 3) s).D := by simp [Side.D, srcS_up]
        have hr : rule1 N s (l', c') (k + 3) = (noteL l' ⟨s, valS (k + 3) s y.v, (k + 3 : Nat), [(i : Int)]⟩, taken l' s (valS (k + 3) s y.v) || c') := by simp [rule1, h2, hi, hy]
        obtain ⟨hIn, hFn⟩ := rule1_inv (c := c') hI' hF' hN hs (show 3 ≤ k + 3 by omega) (show k + 3 ≤ 6 by omega)
        rw [hr] at hIn hFn hfold'
        conv => whnf
        refine dr 11 rfl ?_
        conv => whnf
        refine ob (keys_map _ _ (fun s => rfl) _) ?_
        refine ⟨some (.int .i64 i), ?_, ?_⟩
        · show lookM (mapD l'.best) (.agg [.int .i64 (srcS (k + 3) s).n, .int .i64 (srcS (k + 3) s).d, .bool s.up]) = _
          rw [hkey, look_map, hi]; rfl
        conv => whnf
        refine dr 18 rfl ?_
        conv => whnf
        refine ob (by omega) ?_
        conv => whnf
        refine ⟨y.D, .int .i64 y.v, by simp [hy], rfl, ?_⟩
        conv => whnf
        refine ⟨_, none, PureC.val (hg y.v (fun _ => by unfold fairV; omega)) (ler _ _) rfl (fun r H h => h.2.2) rfl, ?_⟩
        conv => whnf
        refine noteO l' ⟨s, valS (k + 3) s y.v, (k + 3 : Nat), [(i : Int)]⟩ hI'.good.lt (by have := hI'.len; omega) 7 (Frz.step 9 .leaf [.int .i64 i] rfl rfl (.refl _)) rfl rfl rfl (by omega) (Nat.le_of_ble_eq_true rfl) ?_ ?_
        · exact .cons _ _ _ _ (.refl _) (.cons _ _ _ _ (.refl _) (.cons _ _ _ _ (.refl _) (.cons _ _ _ _ (.refl _) (.cons _ _ _ _ (LeD.frz 9 0 1 .leaf [.int .i64 i] rfl (Nat.le_refl 1)) .nil))))
        conv => whnf
        refine ifb (fun ht => ?_) (fun ht => ?_)
        · have ht : taken l' s (valS (k + 3) s y.v) = true := ht
          conv => whnf
          refine iv ((k + 1 : Nat) : Int) (by rw [w64 (by omega) (by omega)]; omega) ?_
          conv => whnf
          refine back3 (4 - (k + 1)) _ 10 (by omega) rfl rfl rfl rfl rfl rfl rfl rfl (by omega) ?_ ⟨k + 1, noteL l' ⟨s, valS (k + 3) s y.v, (k + 3 : Nat), [(i : Int)]⟩, true, by omega, rfl, hIn, hFn, ?_, rfl, rfl⟩
          · exact ⟨.refl _, rfl, .refl _, rfl, .refl _, rfl, .refl _, rfl, .refl _, rfl, .refl _, rfl, .refl _, rfl, trivial⟩
          · rw [ht] at hfold'; exact hfold'
        · have ht : taken l' s (valS (k + 3) s y.v) = false := ht
          conv => whnf
          refine iv ((k + 1 : Nat) : Int) (by rw [w64 (by omega) (by omega)]; omega) ?_
          conv => whnf
          refine back3 (4 - (k + 1)) _ 10 (by omega) rfl rfl rfl rfl rfl rfl rfl rfl (by omega) ?_ ⟨k + 1, noteL l' ⟨s, valS (k + 3) s y.v, (k + 3 : Nat), [(i : Int)]⟩, c', by omega, rfl, hIn, hFn, ?_, rfl, rfl⟩
          · exact ⟨.refl _, rfl, .refl _, rfl, .refl _, rfl, .refl _, rfl, .refl _, rfl, .refl _, rfl, .refl _, rfl, trivial⟩
          · rw [ht] at hfold'; exact hfold'
    · conv => whnf
      have : k = 4 := by simp at h1; omega
      subst this
      have hfold : (l', c') = passS N (l, c) s := hfold
      rw [← hfold]
      exact ⟨rfl, sitsO2 7 rfl rfl rfl rfl rfl rfl (by omega) (Nat.le_of_ble_eq_true rfl)⟩

end Go.Proofs.Ythplmnpfaagciaa.Pw

/- What the closure's stages bring about, in plain terms. -/
set_option linter.unusedVariables false
set_option linter.unusedSimpArgs false
namespace Go.Proofs.Ythplmnpfaagciaa.Pw
open Go

theorem taken_self {l : Lg} (h : goodL l) (x : Stp) : taken (noteL l x) x.s x.v = false := by
  unfold noteL
  split
  · rw [taken_eq, valOf_put h, if_pos rfl]
    simp [better]
  · next h => simpa using h
theorem taken_mono {l : Lg} (h : goodL l) (x : Stp) {s : Side} {v : Int} (ht : taken l s v = false) : taken (noteL l x) s v = false := by
  unfold noteL
  split
  · next hx =>
    by_cases e : s = x.s
    · subst e
      rw [taken_eq, valOf_put h, if_pos rfl]
      rw [taken_eq] at ht hx
      cases hv : valOf l x.s with
      | none => rw [hv] at ht; cases ht
      | some w =>
        rw [hv] at ht hx
        simp only [] at ht hx ⊢
        unfold better at *
        cases hu : x.s.up <;> simp [hu] at * <;> omega
    · rw [taken_eq, valOf_put h, if_neg e, ← taken_eq]; exact ht
  · exact ht
theorem taken_full {l : Lg} {s : Side} {v : Int} (ht : taken l s v = false) : ∃ i, lookA l.best s = some i := by
  unfold taken at ht
  cases h : lookA l.best s with
  | none => rw [h] at ht; cases ht
  | some i => exact ⟨i, rfl⟩

def BaseOk (l : Lg) (s : Side) : Prop := ((s.up = true ∨ s.d = 1) → taken l s (2 ^ s.n.toNat) = false) ∧ ((s.up = false ∨ s.d = s.n) → taken l s 2 = false)
theorem BaseOk.note {l : Lg} {s : Side} (h : BaseOk l s) (hg : goodL l) (x : Stp) : BaseOk (noteL l x) s :=
  ⟨fun a => taken_mono hg x (h.1 a), fun a => taken_mono hg x (h.2 a)⟩
theorem two_pow {n : Int} (h1 : 1 ≤ n) (h2 : n ≤ 8) : (2:Int) ^ n.toNat ≤ 256 ∧ (1:Int) ≤ 2 ^ n.toNat := by
  have : n.toNat ≤ 8 := by omega
  generalize n.toNat = k at this
  have : k = 0 ∨ k = 1 ∨ k = 2 ∨ k = 3 ∨ k = 4 ∨ k = 5 ∨ k = 6 ∨ k = 7 ∨ k = 8 := by omega
  rcases this with rfl | rfl | rfl | rfl | rfl | rfl | rfl | rfl | rfl <;> decide
theorem baseL_inv {K : List Known} {G : List Int} {n : Int} {l : Lg} (h : Inv K G n l) (hn : n ≤ 8) {s : Side} (hs : isC n s) :
    Inv K G n (baseL l s) ∧ BaseOk (baseL l s) s ∧ ∀ t, BaseOk l t → BaseOk (baseL l s) t := by
  have hp := two_pow (n := s.n) (by have := hs.1; have := hs.2.1; omega) (by have := hs.2.2; omega)
  have h1 : Inv K G n (base1 l s) ∧ ((s.up = true ∨ s.d = 1) → taken (base1 l s) s (2 ^ s.n.toNat) = false) ∧ ∀ t, BaseOk l t → BaseOk (base1 l s) t := by
    unfold base1
    split
    · next hc =>
      refine ⟨h.note hn _ hs (fun _ => ⟨by show (1:Int) ≤ 2 ^ s.n.toNat; omega, by show (2:Int) ^ s.n.toNat ≤ _; omega⟩) (.one s (by simpa using hc)), fun _ => ?_, fun t ht => ht.note h.good _⟩
      exact taken_self h.good ⟨s, 2 ^ s.n.toNat, 1, []⟩
    · next hc => exact ⟨h, fun a => absurd a (by simpa using hc), fun t ht => ht⟩
  unfold baseL
  split
  · next hc =>
    refine ⟨h1.1.note hn _ hs (fun _ => ⟨by show (1:Int) ≤ 2; omega, by show (2:Int) ≤ _; omega⟩) (.two s (by simpa using hc)), ⟨fun a => taken_mono h1.1.good _ (h1.2.1 a), fun _ => taken_self h1.1.good ⟨s, 2, 2, []⟩⟩, fun t ht => (h1.2.2 t ht).note h1.1.good _⟩
  · next hc => exact ⟨h1.1, ⟨h1.2.1, fun a => absurd a (by simpa using hc)⟩, h1.2.2⟩

theorem isC_side {N : Nat} {s : Side} (h : s ∈ sidesL N) : isC N s := by
  have := (mem_sides s N).1 h
  exact this

theorem inv0 (K : List Known) (G : List Int) (n : Int) : Inv K G n ⟨[], []⟩ :=
  ⟨fun s i h => by simp [lookA] at h, fun i x h => by simp at h, fun i x h => by simp at h, fun i x h => by simp at h, fun i j x y _ h => by simp at h, by decide +kernel⟩

theorem baseFold {K : List Known} {G : List Int} {n : Int} (hn : n ≤ 8) : ∀ (ss : List Side) (l : Lg), Inv K G n l → (∀ s ∈ ss, isC n s) →
    Inv K G n (ss.foldl baseL l) ∧ (∀ t, t ∈ ss ∨ BaseOk l t → BaseOk (ss.foldl baseL l) t)
  | [], l, h, _ => ⟨h, fun t ht => ht.resolve_left (by simp)⟩
  | s :: ss, l, h, hs => by
    obtain ⟨a, b, c⟩ := baseL_inv h hn (hs s (by simp))
    obtain ⟨d, e⟩ := baseFold hn ss (baseL l s) a (fun s h => hs s (by simp [h]))
    refine ⟨d, fun t ht => e t ?_⟩
    rcases ht with ht | ht
    · rcases List.mem_cons.1 ht with rfl | ht
      · exact .inr b
      · exact .inl ht
    · exact .inr (c t ht)

/-- The known bounds, one after another. -/
def knownS (G : List Int) (n : Int) (l : Lg) (i : Nat) (k : Known) : Lg := if decide (k.n ≤ n) && force k G then noteL l ⟨⟨k.n, k.d, k.up⟩, k.v, 0, [(i : Int)]⟩ else l
def KnownOk (G : List Int) (n : Int) (l : Lg) (k : Known) : Prop := k.n ≤ n → force k G = true → taken l ⟨k.n, k.d, k.up⟩ k.v = false
theorem known_ok {K : List Known} (h : rightK K = true) {k : Known} (hk : k ∈ K) : 1 ≤ k.d ∧ k.d ≤ k.n ∧ k.n ≤ 8 ∧ 1 ≤ k.v ∧ k.v ≤ 16777216 ∧ 0 ≤ k.lm ∧ k.lm ≤ 1000 := by
  unfold rightK at h
  simp only [Bool.and_eq_true, Bool.not_eq_true', List.any_eq_false] at h
  have := h.2 k hk
  unfold wrongK isCell at this
  simp at this
  omega
theorem knownS_inv {K : List Known} {G : List Int} {n : Int} {l : Lg} (hK : rightK K = true) (h : Inv K G n l) (hn : n ≤ 8) {i : Nat} {k : Known} (hk : K[i]? = some k) :
    Inv K G n (knownS G n l i k) ∧ KnownOk G n (knownS G n l i k) k ∧ (∀ t, BaseOk l t → BaseOk (knownS G n l i k) t) ∧ ∀ k', KnownOk G n l k' → KnownOk G n (knownS G n l i k) k' := by
  have ok := known_ok hK (List.mem_of_getElem? hk)
  unfold knownS
  split
  · next hc =>
    simp only [Bool.and_eq_true, decide_eq_true_eq] at hc
    refine ⟨h.note hn _ ⟨by show 1 ≤ k.d; omega, by show k.d ≤ k.n; omega, hc.1⟩ (fun _ => ⟨by show 1 ≤ k.v; omega, by show k.v ≤ _; omega⟩) (.known _ _ i k hk hc.2 rfl rfl rfl rfl), fun _ _ => taken_self h.good _, fun t ht => ht.note h.good _, fun k' hk' a b => taken_mono h.good _ (hk' a b)⟩
  · next hc =>
    refine ⟨h, fun a b => absurd (by simp [a, b]) hc, fun t ht => ht, fun k' hk' => hk'⟩

/-- One pass. -/
def RuleOk (n : Int) (l : Lg) (s : Side) (r : Nat) : Prop := isC n (srcS r s) → ∀ i y, lookA l.best (srcS r s) = some i → l.steps[i]? = some y → taken l s (valS r s y.v) = false
theorem pot_note {K : List Known} {G : List Int} {n : Int} {l : Lg} (h : Inv K G n l) (hn : n ≤ 8) {x : Stp} (hx : isC n x.s) (hv : taken l x.s x.v = true → 1 ≤ x.v ∧ x.v ≤ 16777216) :
    pot (noteL l x) ≤ pot l ∧ (taken l x.s x.v = true → pot (noteL l x) < pot l) ∧ (taken l x.s x.v = false → noteL l x = l) := by
  by_cases ht : taken l x.s x.v = true
  · have := gap_put h.best (fun i y hy => (h.cell i y hy).2) ht (hv ht).1 (hv ht).2 ((mem_sides _ _).2 ⟨hx.1, hx.2.1, by have := hx.2.2; show x.s.n ≤ 8; omega⟩)
    simp only [noteL, ht, if_true]
    exact ⟨by omega, fun _ => this, fun a => by simp at a⟩
  · have ht : taken l x.s x.v = false := by simpa using ht
    simp [noteL, ht]
theorem rule1_pot {K : List Known} {G : List Int} {n : Int} {l : Lg} {c : Bool} {s : Side} {r : Nat} (h : Inv K G n l) (hf : Full n l) (hn : n ≤ 8) (hs : isC n s) (h3 : 3 ≤ r) (h6 : r ≤ 6) :
    pot (rule1 n s (l, c) r).1 ≤ pot l ∧ ((rule1 n s (l, c) r).2 = true → c = true ∨ pot (rule1 n s (l, c) r).1 < pot l) ∧ ((rule1 n s (l, c) r).2 = false → c = false ∧ (rule1 n s (l, c) r).1 = l ∧ RuleOk n l s r) ∧
      (∀ t, BaseOk l t → BaseOk (rule1 n s (l, c) r).1 t) ∧ ∀ k, KnownOk G n l k → KnownOk G n (rule1 n s (l, c) r).1 k := by
  unfold rule1
  split
  · next hc =>
    have hc := (cell_iff _ _).1 hc
    obtain ⟨i, y, hi, hy, hys, _, hy1, hy2⟩ := h.at hf hc
    obtain ⟨_, _, _, _, _, hw, hw1, hw2⟩ := h.at hf hs
    simp only [hi, Option.getD_some, hy]
    obtain ⟨a, b, d⟩ := pot_note h hn (x := ⟨s, valS r s y.v, r, [(i : Int)]⟩) hs (fun ht => by
      rw [taken_eq, hw] at ht
      exact valS_bd hy1 hy2 hw2 ht)
    refine ⟨a, ?_, ?_, fun t ht => ht.note h.good _, fun k hk p q => taken_mono h.good _ (hk p q)⟩
    · intro ht
      simp only [Bool.or_eq_true] at ht
      exact ht.symm.imp id b
    · intro ht
      simp only [Bool.or_eq_false_iff] at ht
      refine ⟨ht.2, d ht.1, ?_⟩
      intro _ i' y' hi' hy'
      rw [hi] at hi'; cases hi'
      rw [hy] at hy'; cases hy'
      exact ht.1
  · next hc =>
    refine ⟨Nat.le_refl _, fun h => .inl h, fun h => ⟨h, rfl, fun hcc => absurd ((cell_iff _ _).2 hcc) hc⟩, fun t ht => ht, fun k hk => hk⟩

theorem foldR_pot {K : List Known} {G : List Int} {n : Int} {s : Side} (hn : n ≤ 8) (hs : isC n s) : ∀ (rs : List Nat) (l : Lg) (c : Bool), Inv K G n l → Full n l → (∀ r ∈ rs, 3 ≤ r ∧ r ≤ 6) →
    Inv K G n (rs.foldl (rule1 n s) (l, c)).1 ∧ Full n (rs.foldl (rule1 n s) (l, c)).1 ∧
    pot (rs.foldl (rule1 n s) (l, c)).1 ≤ pot l ∧ ((rs.foldl (rule1 n s) (l, c)).2 = true → c = true ∨ pot (rs.foldl (rule1 n s) (l, c)).1 < pot l) ∧ ((rs.foldl (rule1 n s) (l, c)).2 = false → c = false ∧ (rs.foldl (rule1 n s) (l, c)).1 = l ∧ ∀ r ∈ rs, RuleOk n l s r) ∧
      (∀ t, BaseOk l t → BaseOk (rs.foldl (rule1 n s) (l, c)).1 t) ∧ ∀ k, KnownOk G n l k → KnownOk G n (rs.foldl (rule1 n s) (l, c)).1 k
  | [], l, c, h, hf, _ => ⟨h, hf, Nat.le_refl _, fun h => .inl h, fun h => ⟨h, rfl, by simp⟩, fun t ht => ht, fun k hk => hk⟩
  | r :: rs, l, c, h, hf, hr => by
    have h1 := hr r (by simp)
    obtain ⟨a, b⟩ := rule1_inv (c := c) h hf hn hs h1.1 h1.2
    obtain ⟨p1, p2, p3, p4, p5⟩ := rule1_pot (c := c) h hf hn hs h1.1 h1.2
    obtain ⟨q0, q00, q1, q2, q3, q4, q5⟩ := foldR_pot hn hs rs (rule1 n s (l, c) r).1 (rule1 n s (l, c) r).2 a b (fun r hr' => hr r (by simp [hr']))
    show _ ∧ _
    simp only [List.foldl_cons]
    refine ⟨q0, q00, Nat.le_trans q1 p1, ?_, ?_, fun t ht => q4 t (p4 t ht), fun k hk => q5 k (p5 k hk)⟩
    · intro hc
      rcases q2 hc with hc | hc
      · rcases p2 hc with hc | hc
        · exact .inl hc
        · exact .inr (Nat.lt_of_le_of_lt q1 hc)
      · exact .inr (Nat.lt_of_lt_of_le hc p1)
    · intro hc
      obtain ⟨u1, u2, u3⟩ := q3 hc
      obtain ⟨w1, w2, w3⟩ := p3 u1
      refine ⟨w1, u2.trans w2, ?_⟩
      intro r' hr'
      rcases List.mem_cons.1 hr' with rfl | hr'
      · exact w3
      · have := u3 r' hr'; rwa [w2] at this

theorem foldS_pot {K : List Known} {G : List Int} {n : Int} (hn : n ≤ 8) : ∀ (ss : List Side) (l : Lg) (c : Bool), Inv K G n l → Full n l → (∀ s ∈ ss, isC n s) →
    Inv K G n (ss.foldl (passS n) (l, c)).1 ∧ Full n (ss.foldl (passS n) (l, c)).1 ∧
    pot (ss.foldl (passS n) (l, c)).1 ≤ pot l ∧ ((ss.foldl (passS n) (l, c)).2 = true → c = true ∨ pot (ss.foldl (passS n) (l, c)).1 < pot l) ∧ ((ss.foldl (passS n) (l, c)).2 = false → c = false ∧ (ss.foldl (passS n) (l, c)).1 = l ∧ ∀ s ∈ ss, ∀ r, 3 ≤ r → r ≤ 6 → RuleOk n l s r) ∧
      (∀ t, BaseOk l t → BaseOk (ss.foldl (passS n) (l, c)).1 t) ∧ ∀ k, KnownOk G n l k → KnownOk G n (ss.foldl (passS n) (l, c)).1 k
  | [], l, c, h, hf, _ => ⟨h, hf, Nat.le_refl _, fun h => .inl h, fun h => ⟨h, rfl, by simp⟩, fun t ht => ht, fun k hk => hk⟩
  | s :: ss, l, c, h, hf, hr => by
    have h1 := hr s (by simp)
    obtain ⟨a, b, p1, p2, p3, p4, p5⟩ := foldR_pot hn h1 [3, 4, 5, 6] l c h hf (by simp)
    obtain ⟨q0, q00, q1, q2, q3, q4, q5⟩ := foldS_pot hn ss (passS n (l, c) s).1 (passS n (l, c) s).2 a b (fun r hr' => hr r (by simp [hr']))
    simp only [List.foldl_cons]
    refine ⟨q0, q00, Nat.le_trans q1 p1, ?_, ?_, fun t ht => q4 t (p4 t ht), fun k hk => q5 k (p5 k hk)⟩
    · intro hc
      rcases q2 hc with hc | hc
      · rcases p2 hc with hc | hc
        · exact .inl hc
        · exact .inr (Nat.lt_of_le_of_lt q1 hc)
      · exact .inr (Nat.lt_of_lt_of_le hc p1)
    · intro hc
      obtain ⟨u1, u2, u3⟩ := q3 hc
      obtain ⟨w1, w2, w3⟩ := p3 u1
      have w2 : (passS n (l, c) s).1 = l := w2
      refine ⟨w1, u2.trans w2, ?_⟩
      intro s' hs' r h3 h6
      rcases List.mem_cons.1 hs' with rfl | hs'
      · exact w3 r (by simp; omega)
      · have := u3 s' hs' r h3 h6; rwa [w2] at this

/-- What the closure is. -/
structure Closd (K : List Known) (G : List Int) (n : Int) (l : Lg) : Prop where
  inv : Inv K G n l
  full : Full n l
  base : ∀ s, isC n s → BaseOk l s
  known : ∀ k ∈ K, KnownOk G n l k
  rule : ∀ s, isC n s → ∀ r, 3 ≤ r → r ≤ 6 → RuleOk n l s r

/-! ### Which log it is -/
def passL (N : Nat) (l : Lg) : Lg × Bool := (sidesL N).foldl (passS N) (l, false)
def pit (N : Nat) (l0 : Lg) : Nat → Lg
  | 0 => l0
  | j + 1 => (passL N (pit N l0 j)).1
def knT (K : List Known) (G : List Int) (N : Nat) : Nat → Lg
  | 0 => (sidesL N).foldl baseL ⟨[], []⟩
  | i + 1 => match K[i]? with
    | some k => knownS G N (knT K G N i) i k
    | none => knT K G N i
def LogS (K : List Known) (G : List Int) (N : Nat) (l : Lg) : Prop :=
  ∃ j, l = pit N (knT K G N K.length) j ∧ (∀ i, i < j → (passL N (pit N (knT K G N K.length) i)).2 = true) ∧ (passL N l).2 = false
theorem LogS.uniq {K : List Known} {G : List Int} {N : Nat} {a b : Lg} (h : LogS K G N a) (h' : LogS K G N b) : a = b := by
  obtain ⟨j, rfl, h2, h3⟩ := h
  obtain ⟨k, rfl, g2, g3⟩ := h'
  rcases Nat.lt_trichotomy j k with e | e | e
  · rw [g2 j e] at h3; cases h3
  · rw [e]
  · rw [h2 k e] at g3; cases g3

end Go.Proofs.Ythplmnpfaagciaa.Pw

/- closure. -/
set_option linter.unusedVariables false
set_option linter.unusedSimpArgs false
namespace Go.Proofs.Ythplmnpfaagciaa.Pw
open Go

theorem take_getD {ρ : List Nat} {M i : Nat} (h : ρ.take M = List.range M) (hi : i < M) : ρ.getD i 0 = i := by
  have h1 : (ρ.take M)[i]? = some i := by rw [h, List.getElem?_range hi]
  rw [List.getElem?_take, if_pos hi] at h1
  simp [List.getD, h1]

theorem doBase (K : List Known) (G : List Int) (N : Nat) (hN : N ≤ 8) (s : Side) (l : Lg) (H : List Ob) (h1 : 1 ≤ s.d) (h2 : s.d ≤ s.n) (h3 : s.n ≤ (N : Int)) (hJ : Inv K G N l ∧ SitsM 4 H (O1 N l)) :
    HC Try.prog 47 (s.D :: [.ptr 3 []]) H (fun r H' => Inv K G N (baseL l s) ∧ SitsM 4 H' (O1 N (baseL l s))) := by
  obtain ⟨hI, σ, hs, hσ⟩ := hJ
  have hlen := hI.len
  refine HC.mono (HC.sits (Q := fun r O2 => O2 = O1 N (baseL l s)) 4 (hcBase N l s (by omega) (by omega) hI.good (by omega)) hs ?_ rfl (Nat.le_of_ble_eq_true rfl) ?_) ?_
  · simp only [renDs, renD, take_getD hσ (show 3 < 4 by omega)]
    rw [ren_cl _ _ (cl_side s)]
  · rintro r O' ⟨rfl, σ', h4, h5⟩
    exact ⟨rfl, σ', _, h4, h5, rfl⟩
  · rintro r H' ⟨ρ', O2, h4, h5, rfl⟩
    exact ⟨(baseL_inv hI (by omega) ⟨h1, h2, h3⟩).1, ρ', h4, by rw [h5, hσ]⟩

theorem doPass (K : List Known) (G : List Int) (N : Nat) (hN : N ≤ 8) (s : Side) (lc : Lg × Bool) (H : List Ob) (h1 : 1 ≤ s.d) (h2 : s.d ≤ s.n) (h3 : s.n ≤ (N : Int)) (hJ : Inv K G N lc.1 ∧ Full N lc.1 ∧ SitsM 5 H (O2 N lc.1 lc.2)) :
    HC Try.prog 49 (s.D :: [.ptr 0 [], .ptr 3 [], .ptr 4 []]) H (fun r H' => Inv K G N (passS N lc s).1 ∧ Full N (passS N lc s).1 ∧ SitsM 5 H' (O2 N (passS N lc s).1 (passS N lc s).2)) := by
  obtain ⟨l, c⟩ := lc
  obtain ⟨hI, hF, σ, hs, hσ⟩ := hJ
  refine HC.mono (HC.sits (Q := fun r O => O = O2 N (passS N (l, c) s).1 (passS N (l, c) s).2) 5 (hcPass K G N l c s (by omega) ⟨h1, h2, h3⟩ hI hF) hs ?_ rfl (Nat.le_of_ble_eq_true rfl) ?_) ?_
  · simp only [renDs, renD, take_getD hσ (show 0 < 5 by omega), take_getD hσ (show 3 < 5 by omega), take_getD hσ (show 4 < 5 by omega)]
    rw [ren_cl _ _ (cl_side s)]
  · rintro r O' ⟨rfl, σ', h4, h5⟩
    exact ⟨rfl, σ', _, h4, h5, rfl⟩
  · rintro r H' ⟨ρ', O2, h4, h5, rfl⟩
    obtain ⟨a, b, _⟩ := foldR_pot (show (N : Int) ≤ 8 by omega) ⟨h1, h2, h3⟩ [3, 4, 5, 6] l c hI hF (by simp)
    exact ⟨a, b, ρ', h4, by rw [h5, hσ]⟩

/-- The objects behind a pass. -/
def O2m (N : Int) (l : Lg) (c : Bool) : List Ob := [.var (.int .i64 N), .map (mapD l.best), .var (.agg [.sl 6 0 l.steps.length, .map 1]), .var (.ptr 2 []), .var (.bool c), .dead, rowL l]
theorem hcPasses (K : List Known) (G : List Int) (N : Nat) (hN : N ≤ 8) (l : Lg) (hI : Inv K G N l) (hF : Full N l) :
    HC Try.prog 46 [.int .i64 N, .func 49 [.ptr 0 [], .ptr 3 [], .ptr 4 []]] (O2 N l false) (fun r H' => ∃ l' c', (l', c') = (sidesL N).foldl (passS N) (l, false) ∧ r = .tuple [] ∧ H' = O2m N l' c') := by
  have h0 : SitsM 5 (O2 N l false) (O2 N l false) := sitsO2 5 rfl rfl rfl rfl rfl rfl (by omega) (Nat.le_of_ble_eq_true rfl)
  refine HC.move (hcSides N hN 49 [.ptr 0 [], .ptr 3 [], .ptr 4 []] (O2 N l false) (fun (lc : Lg × Bool) H => Inv K G N lc.1 ∧ Full N lc.1 ∧ SitsM 5 H (O2 N lc.1 lc.2)) (passS N) (l, false) ⟨hI, hF, h0⟩ (fun s st H a b c d => doPass K G N hN s st H a b c d)) ?_
  rintro r H' ⟨rfl, hI', hF', σ, hs, hσ⟩
  obtain ⟨⟨l', c'⟩, hlc⟩ : ∃ p, p = (sidesL N).foldl (passS N) (l, false) := ⟨_, rfl⟩
  rw [← hlc] at hs
  have hsub := hs.sub
  obtain ⟨hl, _⟩ := subH_get _ _ hsub
  match σ, hl with
  | [a0, a1, a2, a3, a4, j], _ =>
    have hσ : a0 = 0 ∧ a1 = 1 ∧ a2 = 2 ∧ a3 = 3 ∧ a4 = 4 := by
      have : [a0, a1, a2, a3, a4] = [0, 1, 2, 3, 4] := hσ
      simpa using this
    obtain ⟨rfl, rfl, rfl, rfl, rfl⟩ := hσ
    obtain ⟨g0, _, g1, _, g2, _, g3, _, g4, _, g5, _, _⟩ := hsub
    have hjl := hs.lt j (by simp)
    have hj4 : 4 < j := by
      have := nodup_inj _ hs.nd
      rcases Nat.lt_or_ge 4 j with h | h
      · exact h
      · have h5 : ([0, 1, 2, 3, 4, j] : List Nat)[5]? = some j := rfl
        have : j = 0 ∨ j = 1 ∨ j = 2 ∨ j = 3 ∨ j = 4 := by omega
        rcases this with rfl | rfl | rfl | rfl | rfl
        · have := this 0 5 0 rfl rfl; omega
        · have := this 1 5 1 rfl rfl; omega
        · have := this 2 5 2 rfl rfl; omega
        · have := this 3 5 3 rfl rfl; omega
        · have := this 4 5 4 rfl rfl; omega
    refine ⟨H', O2m N l' c', [0, 1, 2, 3, 4, H'.length, j], .tuple [], .refl _, ?_, nodup_mk _ (by simp; omega), Nat.le_of_ble_eq_true rfl, ?_, rfl, .refl _, l', c', hlc, rfl, rfl⟩
    · refine ⟨g0, rfl, ?_, ?_, g2, rfl, g3, rfl, g4, rfl, ?_, rfl, ?_, ?_, trivial⟩
      · rw [g1]; simp [renO, ren_mapD]
      · simp [inO, in_mapD]
      · simp [List.getD, renO]
      · rw [g5]; simp [renO, rowL, ren_cls _ _ (cl_stps l'.steps)]
      · simp [inO, rowL, in_cls _ _ (cl_stps l'.steps)]
    · intro i hi
      have : i < 6 := hi
      have : i = 0 ∨ i = 1 ∨ i = 2 ∨ i = 3 ∨ i = 4 ∨ i = 5 := by omega
      rcases this with rfl | rfl | rfl | rfl | rfl | rfl
      · exact .inl rfl
      · exact .inl rfl
      · exact .inl rfl
      · exact .inl rfl
      · exact .inl rfl
      · exact .inr ⟨rfl, Nat.le_refl _⟩

theorem hcClosure (fk fg : Bool) (K : List Known) (G : List Int) (N : Nat) (hN : N ≤ 8) (hK : rightK K = true) :
    HC Try.prog 39 [.int .i64 N, .list fk sh5 (K.map Known.D), .list fg .leaf (G.map (.int .i64))] [] (fun r H' => ∃ l, (Closd K G N l ∧ LogS K G N l) ∧ r = .ptr 0 [] ∧ H' = LN l) := by
  have hK60 : K.length ≤ 60 := by unfold rightK at hK; simp at hK; exact hK.1
  refine HC.canon (Q0 := fun r H' => ∃ l, (Closd K G N l ∧ LogS K G N l) ∧ r = .ptr 2 [] ∧ H' = O2 N l false) ?_ ?_
  · refine hc_of (okc Try.f39.ntmps 0) (fn := Try.f39) (cd := _) rfl rfl rfl rfl rfl rfl (fun hb => ?_)
    conv => whnf
    refine HC.nilrow 2 [] [.map 1] sh6 rfl ?_
    refine HC.mono (hcSides N hN 47 [.ptr 3 []] _ (fun l H => Inv K G N l ∧ SitsM 4 H (O1 N l)) baseL ⟨[], []⟩ ⟨inv0 K G N, sitsO1 4 rfl rfl rfl rfl rfl (by omega) (Nat.le_of_ble_eq_true rfl)⟩ (fun s st H a b c d => doBase K G N hN s st H a b c d)) ?_
    rintro r H' ⟨rfl, hI, σ, hs, hσ⟩
    conv => whnf
    refine lp (fun n e H => ∃ (i : Nat) (l : Lg), i ≤ K.length ∧ n = K.length - i ∧ (Inv K G N l ∧ l = knT K G N i) ∧ (∀ s, isC N s → BaseOk l s) ∧ (∀ (j : Nat) k, j < i → K[j]? = some k → KnownOk G N l k) ∧ H = O1 N l ∧
      e = [(19, .int .i64 i), (18, .int .i64 K.length), (17, .list fk sh5 (K.map Known.D)), (2, .list fg .leaf (G.map (.int .i64))), (3, .ptr 0 []), (7, .ptr 3 [])]) ?_ ?_
    · refine ⟨K.length + 1, K.length, [(19, .int .i64 (0 : Nat)), (18, .int .i64 K.length), (17, .list fk sh5 (K.map Known.D)), (2, .list fg .leaf (G.map (.int .i64))), (3, .ptr 0 []), (7, .ptr 3 [])], O1 N ((sidesL N).foldl baseL ⟨[], []⟩), by omega, ⟨H', .refl _, .inr ⟨σ, ⟨?_, hs.sub, hs.nd, rfl⟩⟩⟩, 0, _, by omega, rfl, ⟨hI, rfl⟩, ?_, by intro j k h; omega, rfl, rfl⟩
      · refine ⟨.refl _, rfl, ?_, rfl, .refl _, rfl, .refl _, rfl, ?_, rfl, ?_, rfl, trivial⟩
        · show LeD H' (D.int .i64 K.length) (D.int .i64 ((K.map Known.D).length : Nat))
          rw [List.length_map]; exact .refl _
        · show LeD H' (.ptr (σ.getD 0 0) []) (.ptr 0 [])
          rw [take_getD hσ (by omega)]; exact .refl _
        · show LeD H' (.ptr (σ.getD 3 0) []) (.ptr 3 [])
          rw [take_getD hσ (by omega)]; exact .refl _
      · intro s hs
        exact (baseFold (by omega) (sidesL N) ⟨[], []⟩ (inv0 K G N) (fun s h => isC_side h)).2 s (.inl ((mem_sides _ _).2 hs))
    · rintro n e H ⟨i, l, hi, rfl, ⟨hI, hlX⟩, hB, hkn, rfl, rfl⟩
      conv => whnf
      refine ifb (fun h1 => ?_) (fun h1 => ?_)
      · have h1 : i < K.length := by simpa using h1
        have hKi : K[i]? = some K[i] := List.getElem?_eq_getElem h1
        have hkX : knownS G N l i K[i] = knT K G N (i + 1) := by rw [knT, hKi, hlX]
        obtain ⟨p1, p2, p3, p4⟩ := knownS_inv (i := i) hK hI (show (N : Int) ≤ 8 by omega) hKi
        have hkn' : ∀ (j : Nat) k, j < i + 1 → K[j]? = some k → KnownOk G N (knownS G N l i K[i]) k := by
          intro j k hj hk
          by_cases e : j = i
          · subst e; rw [hKi] at hk; cases hk; exact p2
          · exact p4 k (hkn j k (by omega) hk)
        conv => whnf
        refine ob (by omega) ?_
        refine ⟨K[i].D, by simp [h1], ?_⟩
        conv => whnf
        refine ifb (fun h2 => ?_) (fun h2 => ?_)
        · conv => whnf
          refine Val.call (vForce K[i] fg G) (.refl _) (ler _ _) (by simp only [clDs, clD, Known.bndD']; rfl) ?_
          rintro r rfl
          conv => whnf
          refine ifb (fun h3 => ?_) (fun h3 => ?_)
          · have hn : knownS G N l i K[i] = noteL l ⟨⟨K[i].n, K[i].d, K[i].up⟩, K[i].v, 0, [(i : Int)]⟩ := by
              have h3 : force K[i] G = true := h3
              simp only [knownS, h2, h3]; rfl
            conv => whnf
            refine noteO l ⟨⟨K[i].n, K[i].d, K[i].up⟩, K[i].v, 0, [(i : Int)]⟩ hI.good.lt (by have := hI.len; omega) 4 (Frz.step 6 .leaf [.int .i64 i] rfl rfl (.refl _)) rfl rfl rfl (by omega) (Nat.le_of_ble_eq_true rfl) ?_ ?_
            · exact .cons _ _ _ _ (.refl _) (.cons _ _ _ _ (.refl _) (.cons _ _ _ _ (.refl _) (.cons _ _ _ _ (.refl _) (.cons _ _ _ _ (LeD.frz 6 0 1 .leaf [.int .i64 i] rfl (Nat.le_refl 1)) .nil))))
            conv => whnf
            refine iv ((i + 1 : Nat) : Int) (by rw [w64 (by omega) (by omega)]; omega) ?_
            conv => whnf
            rw [hn] at p1 p3 hkn' hkX
            refine ⟨K.length - (i + 1), [(19, .int .i64 (i + 1 : Nat)), (18, .int .i64 K.length), (17, .list fk sh5 (K.map Known.D)), (2, .list fg .leaf (G.map (.int .i64))), (3, .ptr 0 []), (7, .ptr 3 [])], O1 N (noteL l ⟨⟨K[i].n, K[i].d, K[i].up⟩, K[i].v, 0, [(i : Int)]⟩), by omega, ⟨_, .refl _, .inr ⟨[0, 1, 2, 3, 7], ⟨?_, ?_, rfl, rfl⟩⟩⟩, i + 1, _, by omega, rfl, ⟨p1, hkX⟩, fun s hs => p3 s (hB s hs), hkn', rfl, rfl⟩
            · exact ⟨.refl _, rfl, .refl _, rfl, .refl _, rfl, .refl _, rfl, .refl _, rfl, .refl _, rfl, trivial⟩
            · refine ⟨rfl, rfl, ?_, ?_, rfl, rfl, rfl, rfl, ?_, ?_, trivial⟩
              · simp only [renO, ren_mapD]; rfl
              · simp [inO, in_mapD]
              · simp only [renO, rowL, ren_cls _ _ (cl_stps _)]; rfl
              · simp [inO, rowL, in_cls _ _ (cl_stps _)]
          · have hn : knownS G N l i K[i] = l := by
              have h3 : force K[i] G = false := h3
              simp only [knownS, h3, Bool.and_false]; rfl
            rw [hn] at p1 p3 hkn' hkX
            conv => whnf
            refine iv ((i + 1 : Nat) : Int) (by rw [w64 (by omega) (by omega)]; omega) ?_
            conv => whnf
            refine ⟨K.length - (i + 1), [(19, .int .i64 (i + 1 : Nat)), (18, .int .i64 K.length), (17, .list fk sh5 (K.map Known.D)), (2, .list fg .leaf (G.map (.int .i64))), (3, .ptr 0 []), (7, .ptr 3 [])], O1 N l, by omega, ⟨_, .refl _, .inr ⟨[0, 1, 2, 3, 4], ⟨?_, ?_, rfl, rfl⟩⟩⟩, i + 1, _, by omega, rfl, ⟨p1, hkX⟩, hB, hkn', rfl, rfl⟩
            · exact ⟨.refl _, rfl, .refl _, rfl, .refl _, rfl, .refl _, rfl, .refl _, rfl, .refl _, rfl, trivial⟩
            · refine ⟨rfl, rfl, ?_, ?_, rfl, rfl, rfl, rfl, ?_, ?_, trivial⟩
              · simp only [renO, ren_mapD]; rfl
              · simp [inO, in_mapD]
              · simp only [renO, rowL, ren_cls _ _ (cl_stps _)]; rfl
              · simp [inO, rowL, in_cls _ _ (cl_stps _)]
        · have hn : knownS G N l i K[i] = l := by simp only [knownS, h2, Bool.false_and]; rfl
          rw [hn] at p1 p3 hkn' hkX
          conv => whnf
          refine iv ((i + 1 : Nat) : Int) (by rw [w64 (by omega) (by omega)]; omega) ?_
          conv => whnf
          refine ⟨K.length - (i + 1), [(19, .int .i64 (i + 1 : Nat)), (18, .int .i64 K.length), (17, .list fk sh5 (K.map Known.D)), (2, .list fg .leaf (G.map (.int .i64))), (3, .ptr 0 []), (7, .ptr 3 [])], O1 N l, by omega, ⟨_, .refl _, .inr ⟨[0, 1, 2, 3, 4], ⟨?_, ?_, rfl, rfl⟩⟩⟩, i + 1, _, by omega, rfl, ⟨p1, hkX⟩, hB, hkn', rfl, rfl⟩
          · exact ⟨.refl _, rfl, .refl _, rfl, .refl _, rfl, .refl _, rfl, .refl _, rfl, .refl _, rfl, trivial⟩
          · refine ⟨rfl, rfl, ?_, ?_, rfl, rfl, rfl, rfl, ?_, ?_, trivial⟩
            · simp only [renO, ren_mapD]; rfl
            · simp [inO, in_mapD]
            · simp only [renO, rowL, ren_cls _ _ (cl_stps _)]; rfl
            · simp [inO, rowL, in_cls _ _ (cl_stps _)]
      · have : i = K.length := by simp at h1; omega
        subst this
        have hF : Full N l := by
          intro s hs
          have := hB s hs
          cases hu : s.up
          · exact taken_full (this.2 (.inl hu))
          · exact taken_full (this.1 (.inl hu))
        have hkn : ∀ k ∈ K, KnownOk G N l k := by
          intro k hk
          obtain ⟨j, hj⟩ := List.getElem?_of_mem hk
          exact hkn j k (List.getElem?_eq_some_iff.1 hj).1 hj
        conv => whnf
        refine lp (fun n e H => ∃ (l : Lg) (c : Bool), n = (if c then pot l + 1 else 0) ∧ (Inv K G N l ∧ ∃ j, l = pit N (knT K G N K.length) j ∧ (∀ i, i < j → (passL N (pit N (knT K G N K.length) i)).2 = true) ∧ (c = false → (passL N l).2 = false)) ∧ Full N l ∧ (∀ s, isC N s → BaseOk l s) ∧ (∀ k ∈ K, KnownOk G N l k) ∧ (c = false → ∀ s, isC N s → ∀ r, 3 ≤ r → r ≤ 6 → RuleOk N l s r) ∧ H = O2 N l c ∧
          e = [(10, .ptr 4 []), (3, .ptr 0 []), (7, .ptr 3 [])]) ?_ ?_
        · refine ⟨pot l + 2, pot l + 1, [(10, .ptr 4 []), (3, .ptr 0 []), (7, .ptr 3 [])], O2 N l true, by omega, ⟨_, .refl _, .inr ⟨[0, 1, 2, 3, 5, 4], ⟨?_, ?_, rfl, rfl⟩⟩⟩, l, true, rfl, ⟨hI, 0, hlX, by omega, by simp⟩, hF, hB, hkn, by simp, rfl, rfl⟩
          · exact ⟨.refl _, rfl, .refl _, rfl, .refl _, rfl, trivial⟩
          · refine ⟨rfl, rfl, ?_, ?_, rfl, rfl, rfl, rfl, rfl, rfl, ?_, ?_, trivial⟩
            · simp only [renO, ren_mapD]; rfl
            · simp [inO, in_mapD]
            · simp only [renO, rowL, ren_cls _ _ (cl_stps _)]; rfl
            · simp [inO, rowL, in_cls _ _ (cl_stps _)]
        · rintro n e H ⟨l, c, rfl, ⟨hI, j, hj1, hj2, hj3⟩, hF, hB, hkn, hR, rfl, rfl⟩
          conv => whnf
          refine ifb (fun h1 => ?_) (fun h1 => ?_)
          · subst h1
            conv => whnf
            refine HC.mono (hcPasses K G N hN l hI hF) ?_
            rintro r H' ⟨l', c', hlc, rfl, rfl⟩
            obtain ⟨q1, q2, q3, q4, q5, q6, q7⟩ := foldS_pot (show (N : Int) ≤ 8 by omega) (sidesL N) l false hI hF (fun s h => isC_side h)
            rw [← hlc] at q1 q2 q3 q4 q5 q6 q7
            have hpl : passL N l = (l', c') := hlc.symm
            have hlog : ∃ j, l' = pit N (knT K G N K.length) j ∧ (∀ i, i < j → (passL N (pit N (knT K G N K.length) i)).2 = true) ∧ (c' = false → (passL N l').2 = false) := by
              cases hc' : c' with
              | false =>
                have hw : l' = l := (q5 hc').2.1
                refine ⟨j, hw.trans hj1, hj2, fun _ => ?_⟩
                rw [hw, hpl]; exact hc'
              | true =>
                refine ⟨j + 1, ?_, ?_, fun h => by cases h⟩
                · rw [pit, ← hj1, hpl]
                · intro i hi
                  by_cases e : i = j
                  · subst e; rw [← hj1, hpl]; exact hc'
                  · exact hj2 i (by omega)
            conv => whnf
            refine ⟨if c' then pot l' + 1 else 0, [(10, .ptr 4 []), (3, .ptr 0 []), (7, .ptr 3 [])], O2 N l' c', ?_, ⟨_, .refl _, .inr ⟨[0, 1, 2, 3, 7, 6], ⟨?_, ?_, rfl, rfl⟩⟩⟩, l', c', rfl, ⟨q1, hlog⟩, q2, fun s hs => q6 s (hB s hs), fun k hk => q7 k (hkn k hk), ?_, rfl, rfl⟩
            · cases c' with
              | false => simp
              | true =>
                have : pot l' < pot l := (q4 rfl).resolve_left (by simp)
                simp; omega
            · exact ⟨.refl _, rfl, .refl _, rfl, .refl _, rfl, trivial⟩
            · refine ⟨rfl, rfl, ?_, ?_, rfl, rfl, rfl, rfl, rfl, rfl, ?_, ?_, trivial⟩
              · simp only [renO, ren_mapD]; rfl
              · simp [inO, in_mapD]
              · simp only [renO, rowL, ren_cls _ _ (cl_stps _)]; rfl
              · simp [inO, rowL, in_cls _ _ (cl_stps _)]
            · intro hc s hs r h3 h6
              obtain ⟨_, w2, w3⟩ := q5 hc
              have w2 : l' = l := w2
              rw [w2]
              exact w3 s ((mem_sides _ _).2 hs) r h3 h6
          · subst h1
            conv => whnf
            exact ⟨l, ⟨⟨hI, hF, hB, hkn, hR rfl⟩, j, hj1, hj2, hj3 rfl⟩, rfl, rfl⟩
  · rintro r H' ⟨l, hl, rfl, rfl⟩
    refine ⟨_, LN l, [2, 1, 5], .ptr 0 [], .refl _, ?_, rfl, rfl, .refl _, l, hl, rfl, rfl⟩
    refine ⟨rfl, rfl, ?_, ?_, ?_, ?_, trivial⟩
    · simp [O2, renO, ren_mapD]
    · simp [inO, in_mapD]
    · simp [O2, renO, rowL, ren_cls _ _ (cl_stps l.steps)]
    · simp [inO, rowL, in_cls _ _ (cl_stps l.steps)]

end Go.Proofs.Ythplmnpfaagciaa.Pw
