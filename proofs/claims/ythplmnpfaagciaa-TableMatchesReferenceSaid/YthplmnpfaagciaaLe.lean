/- Parts of the proof, merged: LY LZ MA. -/
import Derived.Test.YthplmnpfaagciaaLd
/- again: what comes of all rules once, for one cell of a table. -/
set_option linter.unusedVariables false
set_option linter.unusedSimpArgs false
namespace Go.Proofs.Ythplmnpfaagciaa.Pw
open Go

structure Tb where
  lo : List (List Int)
  hi : List (List Int)
def rowD (r : List Int) : D := .list false .leaf (r.map (.int .i64))
def rowsD (l : List (List Int)) : D := .list false .leaf (l.map rowD)
def Tb.D (t : Tb) : D := .agg [rowsD t.lo, rowsD t.hi]
def gt2 (l : List (List Int)) (m d : Int) : Int := (l.getD m.toNat []).getD d.toNat 0
def Rect (n : Int) (l : List (List Int)) : Prop := (l.length : Int) = n + 1 ∧ ∀ r ∈ l, (r.length : Int) = n + 1
def Bdd (l : List (List Int)) : Prop := ∀ r ∈ l, ∀ x ∈ r, -67108864 ≤ x ∧ x ≤ 67108864
theorem rect_get {n : Int} {l : List (List Int)} (h : Rect n l) (a b : Int) (ha : 0 ≤ a ∧ a ≤ n) (hb : 0 ≤ b ∧ b ≤ n) : ∃ r, l[a.toNat]? = some r ∧ r[b.toNat]? = some (gt2 l a b) := by
  have h1 : a.toNat < l.length := by have := h.1; omega
  have h2 : b.toNat < l[a.toNat].length := by have := h.2 l[a.toNat] (List.getElem_mem h1); omega
  refine ⟨l[a.toNat], List.getElem?_eq_getElem h1, ?_⟩
  unfold gt2
  rw [List.getElem?_eq_getElem h2]
  simp [List.getD, List.getElem?_eq_getElem h1, List.getElem?_eq_getElem h2]
theorem tb_bd {l : List (List Int)} (h : Bdd l) (a b : Int) : -67108864 ≤ gt2 l a b ∧ gt2 l a b ≤ 67108864 := by
  unfold gt2
  simp only [List.getD]
  cases h1 : l[a.toNat]? with
  | none => simp
  | some r =>
    simp only [Option.getD_some]
    cases h2 : r[b.toNat]? with
    | none => simp
    | some x => simpa using h r (List.mem_of_getElem? h1) x (List.mem_of_getElem? h2)
def od (d : Int) : Int := if d.tmod 2 = 1 then 1 else -1
def againLo (n : Int) (t : Tb) (m d : Int) : Int :=
  let l0 := gt2 t.lo m d
  let l1 := if isCell (m - 1) d n then max l0 (gt2 t.lo (m - 1) d) else l0
  let l2 := if isCell (m + 1) d n then max l1 ((gt2 t.lo (m + 1) d + 1).tdiv 2) else l1
  let l3 := if isCell m (d + 1) n then max l2 (gt2 t.lo m (d + 1)) else l2
  if isCell (m + od d) (d + od d) n then max l3 (gt2 t.lo (m + od d) (d + od d)) else l3
def againHi (n : Int) (t : Tb) (m d : Int) : Int :=
  let l0 := gt2 t.hi m d
  let l1 := if isCell (m - 1) d n then min l0 (2 * gt2 t.hi (m - 1) d) else l0
  let l2 := if isCell (m + 1) d n then min l1 (gt2 t.hi (m + 1) d) else l1
  let l3 := if isCell m (d - 1) n then min l2 (gt2 t.hi m (d - 1)) else l2
  if isCell (m + od d) (d + od d) n then min l3 (gt2 t.hi (m + od d) (d + od d)) else l3
theorem isCell_of {a b n : Int} (h : isCell a b n = true) : 1 ≤ b ∧ b ≤ a ∧ a ≤ n := by
  simp [isCell, and_assoc] at h; exact h

theorem vAgain (n m d : Int) (t : Tb) (h1 : 1 ≤ d) (h2 : d ≤ m) (h3 : m ≤ n) (h4 : n ≤ 8) (hlo : Rect n t.lo) (hhi : Rect n t.hi) (hblo : Bdd t.lo) (hbhi : Bdd t.hi) :
    Val Try.prog 37 [t.D, .int .i64 n, .agg [.int .i64 m, .int .i64 d]] (fun r => r = .agg [.int .i64 (againLo n t m d), .int .i64 (againHi n t m d)]) := by
  refine Val.of ?_
  have hod : od d = 1 - 2 * (d + 1).tmod 2 ∧ (d + 1).tmod 2 ≤ 1 ∧ 0 ≤ (d + 1).tmod 2 ∧ (od d = 1 ∨ od d = -1) := by
    have e1 : d.tmod 2 = d % 2 := Int.tmod_eq_emod_of_nonneg (by omega)
    have e2 : (d + 1).tmod 2 = (d + 1) % 2 := Int.tmod_eq_emod_of_nonneg (by omega)
    unfold od
    rw [e1, e2]
    split <;> omega
  obtain ⟨r0, g01, g02⟩ := rect_get hlo m d (by omega) (by omega)
  obtain ⟨r1, g11, g12⟩ := rect_get hhi m d (by omega) (by omega)
  refine hc_ofS (okc Try.f37.ntmps 0) (fn := Try.f37) (cd := _) rfl rfl rfl rfl rfl rfl (fun hbd => ?_)
  conv => whnf
  refine drS 6 rfl ?_
  conv => whnf
  refine ob (by decide) ?_
  conv => whnf
  refine ob (by decide) ?_
  conv => whnf
  refine drS 18 (by decide +kernel) ?_
  conv => whnf
  refine ob (by omega) ?_
  refine ⟨rowD r0, by rw [List.getElem?_map, g01]; rfl, ?_⟩
  conv => whnf
  refine ob (by omega) ?_
  refine ⟨.int .i64 (gt2 t.lo (m) (d)), by rw [List.getElem?_map, g02]; rfl, ?_⟩
  conv => whnf
  refine ob (by omega) ?_
  refine ⟨rowD r1, by rw [List.getElem?_map, g11]; rfl, ?_⟩
  conv => whnf
  refine ob (by omega) ?_
  refine ⟨.int .i64 (gt2 t.hi (m) (d)), by rw [List.getElem?_map, g12]; rfl, ?_⟩
  conv => whnf
  refine iv (m - 1) (w64 (by omega) (by omega)) ?_
  conv => whnf
  refine HC.val (hcIs (m - 1) (d) n) (.refl _) (ler _ _) rfl ?_
  rintro r H0' ⟨rfl, rfl⟩
  refine ⟨rfl, rfl, ?_⟩
  conv => whnf
  refine ifb (fun c0 => ?_) (fun c0 => ?_)
  · have c0' := isCell_of c0
    obtain ⟨ra, ga1, ga2⟩ := rect_get hhi (m - 1) (d) (by omega) (by omega)
    obtain ⟨rb, gb1, gb2⟩ := rect_get hlo (m - 1) (d) (by omega) (by omega)
    have ba := tb_bd hbhi (m - 1) (d)
    conv => whnf
    refine iv (m - 1) (w64 (by omega) (by omega)) ?_
    conv => whnf
    refine ob (by omega) ?_
    refine ⟨rowD ra, by rw [List.getElem?_map, ga1]; rfl, ?_⟩
    conv => whnf
    refine ob (by omega) ?_
    refine ⟨.int .i64 (gt2 t.hi (m - 1) (d)), by rw [List.getElem?_map, ga2]; rfl, ?_⟩
    conv => whnf
    refine iv (2 * gt2 t.hi (m - 1) (d)) (w64 (by omega) (by omega)) ?_
    conv => whnf
    refine iv (m - 1) (w64 (by omega) (by omega)) ?_
    conv => whnf
    refine ob (by omega) ?_
    refine ⟨rowD rb, by rw [List.getElem?_map, gb1]; rfl, ?_⟩
    conv => whnf
    refine ob (by omega) ?_
    refine ⟨.int .i64 (gt2 t.lo (m - 1) (d)), by rw [List.getElem?_map, gb2]; rfl, ?_⟩
    conv => whnf
    refine iv (m + 1) (w64 (by omega) (by omega)) ?_
    conv => whnf
    refine HC.val (hcIs (m + 1) (d) n) (.refl _) (ler _ _) rfl ?_
    rintro r H0' ⟨rfl, rfl⟩
    refine ⟨rfl, rfl, ?_⟩
    conv => whnf
    refine ifb (fun c1 => ?_) (fun c1 => ?_)
    · have c1' := isCell_of c1
      obtain ⟨ra, ga1, ga2⟩ := rect_get hlo (m + 1) (d) (by omega) (by omega)
      obtain ⟨rb, gb1, gb2⟩ := rect_get hhi (m + 1) (d) (by omega) (by omega)
      have ba := tb_bd hblo (m + 1) (d)
      conv => whnf
      refine iv (m + 1) (w64 (by omega) (by omega)) ?_
      conv => whnf
      refine ob (by omega) ?_
      refine ⟨rowD ra, by rw [List.getElem?_map, ga1]; rfl, ?_⟩
      conv => whnf
      refine ob (by omega) ?_
      refine ⟨.int .i64 (gt2 t.lo (m + 1) (d)), by rw [List.getElem?_map, ga2]; rfl, ?_⟩
      conv => whnf
      refine iv (gt2 t.lo (m + 1) (d) + 1) (w64 (by omega) (by omega)) ?_
      conv => whnf
      have q2 := tdiv2 (gt2 t.lo (m + 1) (d) + 1)
      refine ob (by decide) ?_
      refine iv ((gt2 t.lo (m + 1) (d) + 1).tdiv 2) (w64 (by omega) (by omega)) ?_
      conv => whnf
      refine iv (m + 1) (w64 (by omega) (by omega)) ?_
      conv => whnf
      refine ob (by omega) ?_
      refine ⟨rowD rb, by rw [List.getElem?_map, gb1]; rfl, ?_⟩
      conv => whnf
      refine ob (by omega) ?_
      refine ⟨.int .i64 (gt2 t.hi (m + 1) (d)), by rw [List.getElem?_map, gb2]; rfl, ?_⟩
      conv => whnf
      refine iv (d - 1) (w64 (by omega) (by omega)) ?_
      conv => whnf
      refine HC.val (hcIs (m) (d - 1) n) (.refl _) (ler _ _) rfl ?_
      rintro r H0' ⟨rfl, rfl⟩
      refine ⟨rfl, rfl, ?_⟩
      conv => whnf
      refine ifb (fun c2 => ?_) (fun c2 => ?_)
      · have c2' := isCell_of c2
        obtain ⟨ra, ga1, ga2⟩ := rect_get hhi (m) (d - 1) (by omega) (by omega)
        conv => whnf
        refine ob (by omega) ?_
        refine ⟨rowD ra, by rw [List.getElem?_map, ga1]; rfl, ?_⟩
        conv => whnf
        refine iv (d - 1) (w64 (by omega) (by omega)) ?_
        conv => whnf
        refine ob (by omega) ?_
        refine ⟨.int .i64 (gt2 t.hi (m) (d - 1)), by rw [List.getElem?_map, ga2]; rfl, ?_⟩
        conv => whnf
        refine iv (d + 1) (w64 (by omega) (by omega)) ?_
        conv => whnf
        refine HC.val (hcIs (m) (d + 1) n) (.refl _) (ler _ _) rfl ?_
        rintro r H0' ⟨rfl, rfl⟩
        refine ⟨rfl, rfl, ?_⟩
        conv => whnf
        refine ifb (fun c3 => ?_) (fun c3 => ?_)
        · have c3' := isCell_of c3
          obtain ⟨ra, ga1, ga2⟩ := rect_get hlo (m) (d + 1) (by omega) (by omega)
          conv => whnf
          refine ob (by omega) ?_
          refine ⟨rowD ra, by rw [List.getElem?_map, ga1]; rfl, ?_⟩
          conv => whnf
          refine iv (d + 1) (w64 (by omega) (by omega)) ?_
          conv => whnf
          refine ob (by omega) ?_
          refine ⟨.int .i64 (gt2 t.lo (m) (d + 1)), by rw [List.getElem?_map, ga2]; rfl, ?_⟩
          conv => whnf
          refine iv (d + 1) (w64 (by omega) (by omega)) ?_
          conv => whnf
          refine ob (by decide) ?_
          refine iv ((d + 1).tmod 2) rfl ?_
          conv => whnf
          refine iv (2 * (d + 1).tmod 2) (w64 (by omega) (by omega)) ?_
          conv => whnf
          refine iv (od d) (by rw [w64 (by omega) (by omega)]; omega) ?_
          conv => whnf
          refine iv (m + od d) (w64 (by omega) (by omega)) ?_
          conv => whnf
          refine iv (d + od d) (w64 (by omega) (by omega)) ?_
          conv => whnf
          refine HC.val (hcIs (m + od d) (d + od d) n) (.refl _) (ler _ _) rfl ?_
          rintro r H0' ⟨rfl, rfl⟩
          refine ⟨rfl, rfl, ?_⟩
          conv => whnf
          refine ifb (fun c4 => ?_) (fun c4 => ?_)
          · have c4' := isCell_of c4
            obtain ⟨ra, ga1, ga2⟩ := rect_get hlo (m + od d) (d + od d) (by omega) (by omega)
            obtain ⟨rb, gb1, gb2⟩ := rect_get hhi (m + od d) (d + od d) (by omega) (by omega)
            conv => whnf
            refine iv (m + od d) (w64 (by omega) (by omega)) ?_
            conv => whnf
            refine ob (by omega) ?_
            refine ⟨rowD ra, by rw [List.getElem?_map, ga1]; rfl, ?_⟩
            conv => whnf
            refine iv (d + od d) (w64 (by omega) (by omega)) ?_
            conv => whnf
            refine ob (by omega) ?_
            refine ⟨.int .i64 (gt2 t.lo (m + od d) (d + od d)), by rw [List.getElem?_map, ga2]; rfl, ?_⟩
            conv => whnf
            refine iv (m + od d) (w64 (by omega) (by omega)) ?_
            conv => whnf
            refine ob (by omega) ?_
            refine ⟨rowD rb, by rw [List.getElem?_map, gb1]; rfl, ?_⟩
            conv => whnf
            refine iv (d + od d) (w64 (by omega) (by omega)) ?_
            conv => whnf
            refine ob (by omega) ?_
            refine ⟨.int .i64 (gt2 t.hi (m + od d) (d + od d)), by rw [List.getElem?_map, gb2]; rfl, ?_⟩
            conv => whnf
            exact ⟨rfl, by simp [againLo, againHi, c0, c1, c2, c3, c4]; try rfl⟩
          · conv => whnf
            exact ⟨rfl, by simp [againLo, againHi, c0, c1, c2, c3, c4]; try rfl⟩
        · conv => whnf
          refine iv (d + 1) (w64 (by omega) (by omega)) ?_
          conv => whnf
          refine ob (by decide) ?_
          refine iv ((d + 1).tmod 2) rfl ?_
          conv => whnf
          refine iv (2 * (d + 1).tmod 2) (w64 (by omega) (by omega)) ?_
          conv => whnf
          refine iv (od d) (by rw [w64 (by omega) (by omega)]; omega) ?_
          conv => whnf
          refine iv (m + od d) (w64 (by omega) (by omega)) ?_
          conv => whnf
          refine iv (d + od d) (w64 (by omega) (by omega)) ?_
          conv => whnf
          refine HC.val (hcIs (m + od d) (d + od d) n) (.refl _) (ler _ _) rfl ?_
          rintro r H0' ⟨rfl, rfl⟩
          refine ⟨rfl, rfl, ?_⟩
          conv => whnf
          refine ifb (fun c4 => ?_) (fun c4 => ?_)
          · have c4' := isCell_of c4
            obtain ⟨ra, ga1, ga2⟩ := rect_get hlo (m + od d) (d + od d) (by omega) (by omega)
            obtain ⟨rb, gb1, gb2⟩ := rect_get hhi (m + od d) (d + od d) (by omega) (by omega)
            conv => whnf
            refine iv (m + od d) (w64 (by omega) (by omega)) ?_
            conv => whnf
            refine ob (by omega) ?_
            refine ⟨rowD ra, by rw [List.getElem?_map, ga1]; rfl, ?_⟩
            conv => whnf
            refine iv (d + od d) (w64 (by omega) (by omega)) ?_
            conv => whnf
            refine ob (by omega) ?_
            refine ⟨.int .i64 (gt2 t.lo (m + od d) (d + od d)), by rw [List.getElem?_map, ga2]; rfl, ?_⟩
            conv => whnf
            refine iv (m + od d) (w64 (by omega) (by omega)) ?_
            conv => whnf
            refine ob (by omega) ?_
            refine ⟨rowD rb, by rw [List.getElem?_map, gb1]; rfl, ?_⟩
            conv => whnf
            refine iv (d + od d) (w64 (by omega) (by omega)) ?_
            conv => whnf
            refine ob (by omega) ?_
            refine ⟨.int .i64 (gt2 t.hi (m + od d) (d + od d)), by rw [List.getElem?_map, gb2]; rfl, ?_⟩
            conv => whnf
            exact ⟨rfl, by simp [againLo, againHi, c0, c1, c2, c3, c4]; try rfl⟩
          · conv => whnf
            exact ⟨rfl, by simp [againLo, againHi, c0, c1, c2, c3, c4]; try rfl⟩
      · conv => whnf
        refine iv (d + 1) (w64 (by omega) (by omega)) ?_
        conv => whnf
        refine HC.val (hcIs (m) (d + 1) n) (.refl _) (ler _ _) rfl ?_
        rintro r H0' ⟨rfl, rfl⟩
        refine ⟨rfl, rfl, ?_⟩
        conv => whnf
        refine ifb (fun c3 => ?_) (fun c3 => ?_)
        · have c3' := isCell_of c3
          obtain ⟨ra, ga1, ga2⟩ := rect_get hlo (m) (d + 1) (by omega) (by omega)
          conv => whnf
          refine ob (by omega) ?_
          refine ⟨rowD ra, by rw [List.getElem?_map, ga1]; rfl, ?_⟩
          conv => whnf
          refine iv (d + 1) (w64 (by omega) (by omega)) ?_
          conv => whnf
          refine ob (by omega) ?_
          refine ⟨.int .i64 (gt2 t.lo (m) (d + 1)), by rw [List.getElem?_map, ga2]; rfl, ?_⟩
          conv => whnf
          refine iv (d + 1) (w64 (by omega) (by omega)) ?_
          conv => whnf
          refine ob (by decide) ?_
          refine iv ((d + 1).tmod 2) rfl ?_
          conv => whnf
          refine iv (2 * (d + 1).tmod 2) (w64 (by omega) (by omega)) ?_
          conv => whnf
          refine iv (od d) (by rw [w64 (by omega) (by omega)]; omega) ?_
          conv => whnf
          refine iv (m + od d) (w64 (by omega) (by omega)) ?_
          conv => whnf
          refine iv (d + od d) (w64 (by omega) (by omega)) ?_
          conv => whnf
          refine HC.val (hcIs (m + od d) (d + od d) n) (.refl _) (ler _ _) rfl ?_
          rintro r H0' ⟨rfl, rfl⟩
          refine ⟨rfl, rfl, ?_⟩
          conv => whnf
          refine ifb (fun c4 => ?_) (fun c4 => ?_)
          · have c4' := isCell_of c4
            obtain ⟨ra, ga1, ga2⟩ := rect_get hlo (m + od d) (d + od d) (by omega) (by omega)
            obtain ⟨rb, gb1, gb2⟩ := rect_get hhi (m + od d) (d + od d) (by omega) (by omega)
            conv => whnf
            refine iv (m + od d) (w64 (by omega) (by omega)) ?_
            conv => whnf
            refine ob (by omega) ?_
            refine ⟨rowD ra, by rw [List.getElem?_map, ga1]; rfl, ?_⟩
            conv => whnf
            refine iv (d + od d) (w64 (by omega) (by omega)) ?_
            conv => whnf
            refine ob (by omega) ?_
            refine ⟨.int .i64 (gt2 t.lo (m + od d) (d + od d)), by rw [List.getElem?_map, ga2]; rfl, ?_⟩
            conv => whnf
            refine iv (m + od d) (w64 (by omega) (by omega)) ?_
            conv => whnf
            refine ob (by omega) ?_
            refine ⟨rowD rb, by rw [List.getElem?_map, gb1]; rfl, ?_⟩
            conv => whnf
            refine iv (d + od d) (w64 (by omega) (by omega)) ?_
            conv => whnf
            refine ob (by omega) ?_
            refine ⟨.int .i64 (gt2 t.hi (m + od d) (d + od d)), by rw [List.getElem?_map, gb2]; rfl, ?_⟩
            conv => whnf
            exact ⟨rfl, by simp [againLo, againHi, c0, c1, c2, c3, c4]; try rfl⟩
          · conv => whnf
            exact ⟨rfl, by simp [againLo, againHi, c0, c1, c2, c3, c4]; try rfl⟩
        · conv => whnf
          refine iv (d + 1) (w64 (by omega) (by omega)) ?_
          conv => whnf
          refine ob (by decide) ?_
          refine iv ((d + 1).tmod 2) rfl ?_
          conv => whnf
          refine iv (2 * (d + 1).tmod 2) (w64 (by omega) (by omega)) ?_
          conv => whnf
          refine iv (od d) (by rw [w64 (by omega) (by omega)]; omega) ?_
          conv => whnf
          refine iv (m + od d) (w64 (by omega) (by omega)) ?_
          conv => whnf
          refine iv (d + od d) (w64 (by omega) (by omega)) ?_
          conv => whnf
          refine HC.val (hcIs (m + od d) (d + od d) n) (.refl _) (ler _ _) rfl ?_
          rintro r H0' ⟨rfl, rfl⟩
          refine ⟨rfl, rfl, ?_⟩
          conv => whnf
          refine ifb (fun c4 => ?_) (fun c4 => ?_)
          · have c4' := isCell_of c4
            obtain ⟨ra, ga1, ga2⟩ := rect_get hlo (m + od d) (d + od d) (by omega) (by omega)
            obtain ⟨rb, gb1, gb2⟩ := rect_get hhi (m + od d) (d + od d) (by omega) (by omega)
            conv => whnf
            refine iv (m + od d) (w64 (by omega) (by omega)) ?_
            conv => whnf
            refine ob (by omega) ?_
            refine ⟨rowD ra, by rw [List.getElem?_map, ga1]; rfl, ?_⟩
            conv => whnf
            refine iv (d + od d) (w64 (by omega) (by omega)) ?_
            conv => whnf
            refine ob (by omega) ?_
            refine ⟨.int .i64 (gt2 t.lo (m + od d) (d + od d)), by rw [List.getElem?_map, ga2]; rfl, ?_⟩
            conv => whnf
            refine iv (m + od d) (w64 (by omega) (by omega)) ?_
            conv => whnf
            refine ob (by omega) ?_
            refine ⟨rowD rb, by rw [List.getElem?_map, gb1]; rfl, ?_⟩
            conv => whnf
            refine iv (d + od d) (w64 (by omega) (by omega)) ?_
            conv => whnf
            refine ob (by omega) ?_
            refine ⟨.int .i64 (gt2 t.hi (m + od d) (d + od d)), by rw [List.getElem?_map, gb2]; rfl, ?_⟩
            conv => whnf
            exact ⟨rfl, by simp [againLo, againHi, c0, c1, c2, c3, c4]; try rfl⟩
          · conv => whnf
            exact ⟨rfl, by simp [againLo, againHi, c0, c1, c2, c3, c4]; try rfl⟩
    · conv => whnf
      refine iv (d - 1) (w64 (by omega) (by omega)) ?_
      conv => whnf
      refine HC.val (hcIs (m) (d - 1) n) (.refl _) (ler _ _) rfl ?_
      rintro r H0' ⟨rfl, rfl⟩
      refine ⟨rfl, rfl, ?_⟩
      conv => whnf
      refine ifb (fun c2 => ?_) (fun c2 => ?_)
      · have c2' := isCell_of c2
        obtain ⟨ra, ga1, ga2⟩ := rect_get hhi (m) (d - 1) (by omega) (by omega)
        conv => whnf
        refine ob (by omega) ?_
        refine ⟨rowD ra, by rw [List.getElem?_map, ga1]; rfl, ?_⟩
        conv => whnf
        refine iv (d - 1) (w64 (by omega) (by omega)) ?_
        conv => whnf
        refine ob (by omega) ?_
        refine ⟨.int .i64 (gt2 t.hi (m) (d - 1)), by rw [List.getElem?_map, ga2]; rfl, ?_⟩
        conv => whnf
        refine iv (d + 1) (w64 (by omega) (by omega)) ?_
        conv => whnf
        refine HC.val (hcIs (m) (d + 1) n) (.refl _) (ler _ _) rfl ?_
        rintro r H0' ⟨rfl, rfl⟩
        refine ⟨rfl, rfl, ?_⟩
        conv => whnf
        refine ifb (fun c3 => ?_) (fun c3 => ?_)
        · have c3' := isCell_of c3
          obtain ⟨ra, ga1, ga2⟩ := rect_get hlo (m) (d + 1) (by omega) (by omega)
          conv => whnf
          refine ob (by omega) ?_
          refine ⟨rowD ra, by rw [List.getElem?_map, ga1]; rfl, ?_⟩
          conv => whnf
          refine iv (d + 1) (w64 (by omega) (by omega)) ?_
          conv => whnf
          refine ob (by omega) ?_
          refine ⟨.int .i64 (gt2 t.lo (m) (d + 1)), by rw [List.getElem?_map, ga2]; rfl, ?_⟩
          conv => whnf
          refine iv (d + 1) (w64 (by omega) (by omega)) ?_
          conv => whnf
          refine ob (by decide) ?_
          refine iv ((d + 1).tmod 2) rfl ?_
          conv => whnf
          refine iv (2 * (d + 1).tmod 2) (w64 (by omega) (by omega)) ?_
          conv => whnf
          refine iv (od d) (by rw [w64 (by omega) (by omega)]; omega) ?_
          conv => whnf
          refine iv (m + od d) (w64 (by omega) (by omega)) ?_
          conv => whnf
          refine iv (d + od d) (w64 (by omega) (by omega)) ?_
          conv => whnf
          refine HC.val (hcIs (m + od d) (d + od d) n) (.refl _) (ler _ _) rfl ?_
          rintro r H0' ⟨rfl, rfl⟩
          refine ⟨rfl, rfl, ?_⟩
          conv => whnf
          refine ifb (fun c4 => ?_) (fun c4 => ?_)
          · have c4' := isCell_of c4
            obtain ⟨ra, ga1, ga2⟩ := rect_get hlo (m + od d) (d + od d) (by omega) (by omega)
            obtain ⟨rb, gb1, gb2⟩ := rect_get hhi (m + od d) (d + od d) (by omega) (by omega)
            conv => whnf
            refine iv (m + od d) (w64 (by omega) (by omega)) ?_
            conv => whnf
            refine ob (by omega) ?_
            refine ⟨rowD ra, by rw [List.getElem?_map, ga1]; rfl, ?_⟩
            conv => whnf
            refine iv (d + od d) (w64 (by omega) (by omega)) ?_
            conv => whnf
            refine ob (by omega) ?_
            refine ⟨.int .i64 (gt2 t.lo (m + od d) (d + od d)), by rw [List.getElem?_map, ga2]; rfl, ?_⟩
            conv => whnf
            refine iv (m + od d) (w64 (by omega) (by omega)) ?_
            conv => whnf
            refine ob (by omega) ?_
            refine ⟨rowD rb, by rw [List.getElem?_map, gb1]; rfl, ?_⟩
            conv => whnf
            refine iv (d + od d) (w64 (by omega) (by omega)) ?_
            conv => whnf
            refine ob (by omega) ?_
            refine ⟨.int .i64 (gt2 t.hi (m + od d) (d + od d)), by rw [List.getElem?_map, gb2]; rfl, ?_⟩
            conv => whnf
            exact ⟨rfl, by simp [againLo, againHi, c0, c1, c2, c3, c4]; try rfl⟩
          · conv => whnf
            exact ⟨rfl, by simp [againLo, againHi, c0, c1, c2, c3, c4]; try rfl⟩
        · conv => whnf
          refine iv (d + 1) (w64 (by omega) (by omega)) ?_
          conv => whnf
          refine ob (by decide) ?_
          refine iv ((d + 1).tmod 2) rfl ?_
          conv => whnf
          refine iv (2 * (d + 1).tmod 2) (w64 (by omega) (by omega)) ?_
          conv => whnf
          refine iv (od d) (by rw [w64 (by omega) (by omega)]; omega) ?_
          conv => whnf
          refine iv (m + od d) (w64 (by omega) (by omega)) ?_
          conv => whnf
          refine iv (d + od d) (w64 (by omega) (by omega)) ?_
          conv => whnf
          refine HC.val (hcIs (m + od d) (d + od d) n) (.refl _) (ler _ _) rfl ?_
          rintro r H0' ⟨rfl, rfl⟩
          refine ⟨rfl, rfl, ?_⟩
          conv => whnf
          refine ifb (fun c4 => ?_) (fun c4 => ?_)
          · have c4' := isCell_of c4
            obtain ⟨ra, ga1, ga2⟩ := rect_get hlo (m + od d) (d + od d) (by omega) (by omega)
            obtain ⟨rb, gb1, gb2⟩ := rect_get hhi (m + od d) (d + od d) (by omega) (by omega)
            conv => whnf
            refine iv (m + od d) (w64 (by omega) (by omega)) ?_
            conv => whnf
            refine ob (by omega) ?_
            refine ⟨rowD ra, by rw [List.getElem?_map, ga1]; rfl, ?_⟩
            conv => whnf
            refine iv (d + od d) (w64 (by omega) (by omega)) ?_
            conv => whnf
            refine ob (by omega) ?_
            refine ⟨.int .i64 (gt2 t.lo (m + od d) (d + od d)), by rw [List.getElem?_map, ga2]; rfl, ?_⟩
            conv => whnf
            refine iv (m + od d) (w64 (by omega) (by omega)) ?_
            conv => whnf
            refine ob (by omega) ?_
            refine ⟨rowD rb, by rw [List.getElem?_map, gb1]; rfl, ?_⟩
            conv => whnf
            refine iv (d + od d) (w64 (by omega) (by omega)) ?_
            conv => whnf
            refine ob (by omega) ?_
            refine ⟨.int .i64 (gt2 t.hi (m + od d) (d + od d)), by rw [List.getElem?_map, gb2]; rfl, ?_⟩
            conv => whnf
            exact ⟨rfl, by simp [againLo, againHi, c0, c1, c2, c3, c4]; try rfl⟩
          · conv => whnf
            exact ⟨rfl, by simp [againLo, againHi, c0, c1, c2, c3, c4]; try rfl⟩
      · conv => whnf
        refine iv (d + 1) (w64 (by omega) (by omega)) ?_
        conv => whnf
        refine HC.val (hcIs (m) (d + 1) n) (.refl _) (ler _ _) rfl ?_
        rintro r H0' ⟨rfl, rfl⟩
        refine ⟨rfl, rfl, ?_⟩
        conv => whnf
        refine ifb (fun c3 => ?_) (fun c3 => ?_)
        · have c3' := isCell_of c3
          obtain ⟨ra, ga1, ga2⟩ := rect_get hlo (m) (d + 1) (by omega) (by omega)
          conv => whnf
          refine ob (by omega) ?_
          refine ⟨rowD ra, by rw [List.getElem?_map, ga1]; rfl, ?_⟩
          conv => whnf
          refine iv (d + 1) (w64 (by omega) (by omega)) ?_
          conv => whnf
          refine ob (by omega) ?_
          refine ⟨.int .i64 (gt2 t.lo (m) (d + 1)), by rw [List.getElem?_map, ga2]; rfl, ?_⟩
          conv => whnf
          refine iv (d + 1) (w64 (by omega) (by omega)) ?_
          conv => whnf
          refine ob (by decide) ?_
          refine iv ((d + 1).tmod 2) rfl ?_
          conv => whnf
          refine iv (2 * (d + 1).tmod 2) (w64 (by omega) (by omega)) ?_
          conv => whnf
          refine iv (od d) (by rw [w64 (by omega) (by omega)]; omega) ?_
          conv => whnf
          refine iv (m + od d) (w64 (by omega) (by omega)) ?_
          conv => whnf
          refine iv (d + od d) (w64 (by omega) (by omega)) ?_
          conv => whnf
          refine HC.val (hcIs (m + od d) (d + od d) n) (.refl _) (ler _ _) rfl ?_
          rintro r H0' ⟨rfl, rfl⟩
          refine ⟨rfl, rfl, ?_⟩
          conv => whnf
          refine ifb (fun c4 => ?_) (fun c4 => ?_)
          · have c4' := isCell_of c4
            obtain ⟨ra, ga1, ga2⟩ := rect_get hlo (m + od d) (d + od d) (by omega) (by omega)
            obtain ⟨rb, gb1, gb2⟩ := rect_get hhi (m + od d) (d + od d) (by omega) (by omega)
            conv => whnf
            refine iv (m + od d) (w64 (by omega) (by omega)) ?_
            conv => whnf
            refine ob (by omega) ?_
            refine ⟨rowD ra, by rw [List.getElem?_map, ga1]; rfl, ?_⟩
            conv => whnf
            refine iv (d + od d) (w64 (by omega) (by omega)) ?_
            conv => whnf
            refine ob (by omega) ?_
            refine ⟨.int .i64 (gt2 t.lo (m + od d) (d + od d)), by rw [List.getElem?_map, ga2]; rfl, ?_⟩
            conv => whnf
            refine iv (m + od d) (w64 (by omega) (by omega)) ?_
            conv => whnf
            refine ob (by omega) ?_
            refine ⟨rowD rb, by rw [List.getElem?_map, gb1]; rfl, ?_⟩
            conv => whnf
            refine iv (d + od d) (w64 (by omega) (by omega)) ?_
            conv => whnf
            refine ob (by omega) ?_
            refine ⟨.int .i64 (gt2 t.hi (m + od d) (d + od d)), by rw [List.getElem?_map, gb2]; rfl, ?_⟩
            conv => whnf
            exact ⟨rfl, by simp [againLo, againHi, c0, c1, c2, c3, c4]; try rfl⟩
          · conv => whnf
            exact ⟨rfl, by simp [againLo, againHi, c0, c1, c2, c3, c4]; try rfl⟩
        · conv => whnf
          refine iv (d + 1) (w64 (by omega) (by omega)) ?_
          conv => whnf
          refine ob (by decide) ?_
          refine iv ((d + 1).tmod 2) rfl ?_
          conv => whnf
          refine iv (2 * (d + 1).tmod 2) (w64 (by omega) (by omega)) ?_
          conv => whnf
          refine iv (od d) (by rw [w64 (by omega) (by omega)]; omega) ?_
          conv => whnf
          refine iv (m + od d) (w64 (by omega) (by omega)) ?_
          conv => whnf
          refine iv (d + od d) (w64 (by omega) (by omega)) ?_
          conv => whnf
          refine HC.val (hcIs (m + od d) (d + od d) n) (.refl _) (ler _ _) rfl ?_
          rintro r H0' ⟨rfl, rfl⟩
          refine ⟨rfl, rfl, ?_⟩
          conv => whnf
          refine ifb (fun c4 => ?_) (fun c4 => ?_)
          · have c4' := isCell_of c4
            obtain ⟨ra, ga1, ga2⟩ := rect_get hlo (m + od d) (d + od d) (by omega) (by omega)
            obtain ⟨rb, gb1, gb2⟩ := rect_get hhi (m + od d) (d + od d) (by omega) (by omega)
            conv => whnf
            refine iv (m + od d) (w64 (by omega) (by omega)) ?_
            conv => whnf
            refine ob (by omega) ?_
            refine ⟨rowD ra, by rw [List.getElem?_map, ga1]; rfl, ?_⟩
            conv => whnf
            refine iv (d + od d) (w64 (by omega) (by omega)) ?_
            conv => whnf
            refine ob (by omega) ?_
            refine ⟨.int .i64 (gt2 t.lo (m + od d) (d + od d)), by rw [List.getElem?_map, ga2]; rfl, ?_⟩
            conv => whnf
            refine iv (m + od d) (w64 (by omega) (by omega)) ?_
            conv => whnf
            refine ob (by omega) ?_
            refine ⟨rowD rb, by rw [List.getElem?_map, gb1]; rfl, ?_⟩
            conv => whnf
            refine iv (d + od d) (w64 (by omega) (by omega)) ?_
            conv => whnf
            refine ob (by omega) ?_
            refine ⟨.int .i64 (gt2 t.hi (m + od d) (d + od d)), by rw [List.getElem?_map, gb2]; rfl, ?_⟩
            conv => whnf
            exact ⟨rfl, by simp [againLo, againHi, c0, c1, c2, c3, c4]; try rfl⟩
          · conv => whnf
            exact ⟨rfl, by simp [againLo, againHi, c0, c1, c2, c3, c4]; try rfl⟩
  · conv => whnf
    refine iv (m + 1) (w64 (by omega) (by omega)) ?_
    conv => whnf
    refine HC.val (hcIs (m + 1) (d) n) (.refl _) (ler _ _) rfl ?_
    rintro r H0' ⟨rfl, rfl⟩
    refine ⟨rfl, rfl, ?_⟩
    conv => whnf
    refine ifb (fun c1 => ?_) (fun c1 => ?_)
    · have c1' := isCell_of c1
      obtain ⟨ra, ga1, ga2⟩ := rect_get hlo (m + 1) (d) (by omega) (by omega)
      obtain ⟨rb, gb1, gb2⟩ := rect_get hhi (m + 1) (d) (by omega) (by omega)
      have ba := tb_bd hblo (m + 1) (d)
      conv => whnf
      refine iv (m + 1) (w64 (by omega) (by omega)) ?_
      conv => whnf
      refine ob (by omega) ?_
      refine ⟨rowD ra, by rw [List.getElem?_map, ga1]; rfl, ?_⟩
      conv => whnf
      refine ob (by omega) ?_
      refine ⟨.int .i64 (gt2 t.lo (m + 1) (d)), by rw [List.getElem?_map, ga2]; rfl, ?_⟩
      conv => whnf
      refine iv (gt2 t.lo (m + 1) (d) + 1) (w64 (by omega) (by omega)) ?_
      conv => whnf
      have q2 := tdiv2 (gt2 t.lo (m + 1) (d) + 1)
      refine ob (by decide) ?_
      refine iv ((gt2 t.lo (m + 1) (d) + 1).tdiv 2) (w64 (by omega) (by omega)) ?_
      conv => whnf
      refine iv (m + 1) (w64 (by omega) (by omega)) ?_
      conv => whnf
      refine ob (by omega) ?_
      refine ⟨rowD rb, by rw [List.getElem?_map, gb1]; rfl, ?_⟩
      conv => whnf
      refine ob (by omega) ?_
      refine ⟨.int .i64 (gt2 t.hi (m + 1) (d)), by rw [List.getElem?_map, gb2]; rfl, ?_⟩
      conv => whnf
      refine iv (d - 1) (w64 (by omega) (by omega)) ?_
      conv => whnf
      refine HC.val (hcIs (m) (d - 1) n) (.refl _) (ler _ _) rfl ?_
      rintro r H0' ⟨rfl, rfl⟩
      refine ⟨rfl, rfl, ?_⟩
      conv => whnf
      refine ifb (fun c2 => ?_) (fun c2 => ?_)
      · have c2' := isCell_of c2
        obtain ⟨ra, ga1, ga2⟩ := rect_get hhi (m) (d - 1) (by omega) (by omega)
        conv => whnf
        refine ob (by omega) ?_
        refine ⟨rowD ra, by rw [List.getElem?_map, ga1]; rfl, ?_⟩
        conv => whnf
        refine iv (d - 1) (w64 (by omega) (by omega)) ?_
        conv => whnf
        refine ob (by omega) ?_
        refine ⟨.int .i64 (gt2 t.hi (m) (d - 1)), by rw [List.getElem?_map, ga2]; rfl, ?_⟩
        conv => whnf
        refine iv (d + 1) (w64 (by omega) (by omega)) ?_
        conv => whnf
        refine HC.val (hcIs (m) (d + 1) n) (.refl _) (ler _ _) rfl ?_
        rintro r H0' ⟨rfl, rfl⟩
        refine ⟨rfl, rfl, ?_⟩
        conv => whnf
        refine ifb (fun c3 => ?_) (fun c3 => ?_)
        · have c3' := isCell_of c3
          obtain ⟨ra, ga1, ga2⟩ := rect_get hlo (m) (d + 1) (by omega) (by omega)
          conv => whnf
          refine ob (by omega) ?_
          refine ⟨rowD ra, by rw [List.getElem?_map, ga1]; rfl, ?_⟩
          conv => whnf
          refine iv (d + 1) (w64 (by omega) (by omega)) ?_
          conv => whnf
          refine ob (by omega) ?_
          refine ⟨.int .i64 (gt2 t.lo (m) (d + 1)), by rw [List.getElem?_map, ga2]; rfl, ?_⟩
          conv => whnf
          refine iv (d + 1) (w64 (by omega) (by omega)) ?_
          conv => whnf
          refine ob (by decide) ?_
          refine iv ((d + 1).tmod 2) rfl ?_
          conv => whnf
          refine iv (2 * (d + 1).tmod 2) (w64 (by omega) (by omega)) ?_
          conv => whnf
          refine iv (od d) (by rw [w64 (by omega) (by omega)]; omega) ?_
          conv => whnf
          refine iv (m + od d) (w64 (by omega) (by omega)) ?_
          conv => whnf
          refine iv (d + od d) (w64 (by omega) (by omega)) ?_
          conv => whnf
          refine HC.val (hcIs (m + od d) (d + od d) n) (.refl _) (ler _ _) rfl ?_
          rintro r H0' ⟨rfl, rfl⟩
          refine ⟨rfl, rfl, ?_⟩
          conv => whnf
          refine ifb (fun c4 => ?_) (fun c4 => ?_)
          · have c4' := isCell_of c4
            obtain ⟨ra, ga1, ga2⟩ := rect_get hlo (m + od d) (d + od d) (by omega) (by omega)
            obtain ⟨rb, gb1, gb2⟩ := rect_get hhi (m + od d) (d + od d) (by omega) (by omega)
            conv => whnf
            refine iv (m + od d) (w64 (by omega) (by omega)) ?_
            conv => whnf
            refine ob (by omega) ?_
            refine ⟨rowD ra, by rw [List.getElem?_map, ga1]; rfl, ?_⟩
            conv => whnf
            refine iv (d + od d) (w64 (by omega) (by omega)) ?_
            conv => whnf
            refine ob (by omega) ?_
            refine ⟨.int .i64 (gt2 t.lo (m + od d) (d + od d)), by rw [List.getElem?_map, ga2]; rfl, ?_⟩
            conv => whnf
            refine iv (m + od d) (w64 (by omega) (by omega)) ?_
            conv => whnf
            refine ob (by omega) ?_
            refine ⟨rowD rb, by rw [List.getElem?_map, gb1]; rfl, ?_⟩
            conv => whnf
            refine iv (d + od d) (w64 (by omega) (by omega)) ?_
            conv => whnf
            refine ob (by omega) ?_
            refine ⟨.int .i64 (gt2 t.hi (m + od d) (d + od d)), by rw [List.getElem?_map, gb2]; rfl, ?_⟩
            conv => whnf
            exact ⟨rfl, by simp [againLo, againHi, c0, c1, c2, c3, c4]; try rfl⟩
          · conv => whnf
            exact ⟨rfl, by simp [againLo, againHi, c0, c1, c2, c3, c4]; try rfl⟩
        · conv => whnf
          refine iv (d + 1) (w64 (by omega) (by omega)) ?_
          conv => whnf
          refine ob (by decide) ?_
          refine iv ((d + 1).tmod 2) rfl ?_
          conv => whnf
          refine iv (2 * (d + 1).tmod 2) (w64 (by omega) (by omega)) ?_
          conv => whnf
          refine iv (od d) (by rw [w64 (by omega) (by omega)]; omega) ?_
          conv => whnf
          refine iv (m + od d) (w64 (by omega) (by omega)) ?_
          conv => whnf
          refine iv (d + od d) (w64 (by omega) (by omega)) ?_
          conv => whnf
          refine HC.val (hcIs (m + od d) (d + od d) n) (.refl _) (ler _ _) rfl ?_
          rintro r H0' ⟨rfl, rfl⟩
          refine ⟨rfl, rfl, ?_⟩
          conv => whnf
          refine ifb (fun c4 => ?_) (fun c4 => ?_)
          · have c4' := isCell_of c4
            obtain ⟨ra, ga1, ga2⟩ := rect_get hlo (m + od d) (d + od d) (by omega) (by omega)
            obtain ⟨rb, gb1, gb2⟩ := rect_get hhi (m + od d) (d + od d) (by omega) (by omega)
            conv => whnf
            refine iv (m + od d) (w64 (by omega) (by omega)) ?_
            conv => whnf
            refine ob (by omega) ?_
            refine ⟨rowD ra, by rw [List.getElem?_map, ga1]; rfl, ?_⟩
            conv => whnf
            refine iv (d + od d) (w64 (by omega) (by omega)) ?_
            conv => whnf
            refine ob (by omega) ?_
            refine ⟨.int .i64 (gt2 t.lo (m + od d) (d + od d)), by rw [List.getElem?_map, ga2]; rfl, ?_⟩
            conv => whnf
            refine iv (m + od d) (w64 (by omega) (by omega)) ?_
            conv => whnf
            refine ob (by omega) ?_
            refine ⟨rowD rb, by rw [List.getElem?_map, gb1]; rfl, ?_⟩
            conv => whnf
            refine iv (d + od d) (w64 (by omega) (by omega)) ?_
            conv => whnf
            refine ob (by omega) ?_
            refine ⟨.int .i64 (gt2 t.hi (m + od d) (d + od d)), by rw [List.getElem?_map, gb2]; rfl, ?_⟩
            conv => whnf
            exact ⟨rfl, by simp [againLo, againHi, c0, c1, c2, c3, c4]; try rfl⟩
          · conv => whnf
            exact ⟨rfl, by simp [againLo, againHi, c0, c1, c2, c3, c4]; try rfl⟩
      · conv => whnf
        refine iv (d + 1) (w64 (by omega) (by omega)) ?_
        conv => whnf
        refine HC.val (hcIs (m) (d + 1) n) (.refl _) (ler _ _) rfl ?_
        rintro r H0' ⟨rfl, rfl⟩
        refine ⟨rfl, rfl, ?_⟩
        conv => whnf
        refine ifb (fun c3 => ?_) (fun c3 => ?_)
        · have c3' := isCell_of c3
          obtain ⟨ra, ga1, ga2⟩ := rect_get hlo (m) (d + 1) (by omega) (by omega)
          conv => whnf
          refine ob (by omega) ?_
          refine ⟨rowD ra, by rw [List.getElem?_map, ga1]; rfl, ?_⟩
          conv => whnf
          refine iv (d + 1) (w64 (by omega) (by omega)) ?_
          conv => whnf
          refine ob (by omega) ?_
          refine ⟨.int .i64 (gt2 t.lo (m) (d + 1)), by rw [List.getElem?_map, ga2]; rfl, ?_⟩
          conv => whnf
          refine iv (d + 1) (w64 (by omega) (by omega)) ?_
          conv => whnf
          refine ob (by decide) ?_
          refine iv ((d + 1).tmod 2) rfl ?_
          conv => whnf
          refine iv (2 * (d + 1).tmod 2) (w64 (by omega) (by omega)) ?_
          conv => whnf
          refine iv (od d) (by rw [w64 (by omega) (by omega)]; omega) ?_
          conv => whnf
          refine iv (m + od d) (w64 (by omega) (by omega)) ?_
          conv => whnf
          refine iv (d + od d) (w64 (by omega) (by omega)) ?_
          conv => whnf
          refine HC.val (hcIs (m + od d) (d + od d) n) (.refl _) (ler _ _) rfl ?_
          rintro r H0' ⟨rfl, rfl⟩
          refine ⟨rfl, rfl, ?_⟩
          conv => whnf
          refine ifb (fun c4 => ?_) (fun c4 => ?_)
          · have c4' := isCell_of c4
            obtain ⟨ra, ga1, ga2⟩ := rect_get hlo (m + od d) (d + od d) (by omega) (by omega)
            obtain ⟨rb, gb1, gb2⟩ := rect_get hhi (m + od d) (d + od d) (by omega) (by omega)
            conv => whnf
            refine iv (m + od d) (w64 (by omega) (by omega)) ?_
            conv => whnf
            refine ob (by omega) ?_
            refine ⟨rowD ra, by rw [List.getElem?_map, ga1]; rfl, ?_⟩
            conv => whnf
            refine iv (d + od d) (w64 (by omega) (by omega)) ?_
            conv => whnf
            refine ob (by omega) ?_
            refine ⟨.int .i64 (gt2 t.lo (m + od d) (d + od d)), by rw [List.getElem?_map, ga2]; rfl, ?_⟩
            conv => whnf
            refine iv (m + od d) (w64 (by omega) (by omega)) ?_
            conv => whnf
            refine ob (by omega) ?_
            refine ⟨rowD rb, by rw [List.getElem?_map, gb1]; rfl, ?_⟩
            conv => whnf
            refine iv (d + od d) (w64 (by omega) (by omega)) ?_
            conv => whnf
            refine ob (by omega) ?_
            refine ⟨.int .i64 (gt2 t.hi (m + od d) (d + od d)), by rw [List.getElem?_map, gb2]; rfl, ?_⟩
            conv => whnf
            exact ⟨rfl, by simp [againLo, againHi, c0, c1, c2, c3, c4]; try rfl⟩
          · conv => whnf
            exact ⟨rfl, by simp [againLo, againHi, c0, c1, c2, c3, c4]; try rfl⟩
        · conv => whnf
          refine iv (d + 1) (w64 (by omega) (by omega)) ?_
          conv => whnf
          refine ob (by decide) ?_
          refine iv ((d + 1).tmod 2) rfl ?_
          conv => whnf
          refine iv (2 * (d + 1).tmod 2) (w64 (by omega) (by omega)) ?_
          conv => whnf
          refine iv (od d) (by rw [w64 (by omega) (by omega)]; omega) ?_
          conv => whnf
          refine iv (m + od d) (w64 (by omega) (by omega)) ?_
          conv => whnf
          refine iv (d + od d) (w64 (by omega) (by omega)) ?_
          conv => whnf
          refine HC.val (hcIs (m + od d) (d + od d) n) (.refl _) (ler _ _) rfl ?_
          rintro r H0' ⟨rfl, rfl⟩
          refine ⟨rfl, rfl, ?_⟩
          conv => whnf
          refine ifb (fun c4 => ?_) (fun c4 => ?_)
          · have c4' := isCell_of c4
            obtain ⟨ra, ga1, ga2⟩ := rect_get hlo (m + od d) (d + od d) (by omega) (by omega)
            obtain ⟨rb, gb1, gb2⟩ := rect_get hhi (m + od d) (d + od d) (by omega) (by omega)
            conv => whnf
            refine iv (m + od d) (w64 (by omega) (by omega)) ?_
            conv => whnf
            refine ob (by omega) ?_
            refine ⟨rowD ra, by rw [List.getElem?_map, ga1]; rfl, ?_⟩
            conv => whnf
            refine iv (d + od d) (w64 (by omega) (by omega)) ?_
            conv => whnf
            refine ob (by omega) ?_
            refine ⟨.int .i64 (gt2 t.lo (m + od d) (d + od d)), by rw [List.getElem?_map, ga2]; rfl, ?_⟩
            conv => whnf
            refine iv (m + od d) (w64 (by omega) (by omega)) ?_
            conv => whnf
            refine ob (by omega) ?_
            refine ⟨rowD rb, by rw [List.getElem?_map, gb1]; rfl, ?_⟩
            conv => whnf
            refine iv (d + od d) (w64 (by omega) (by omega)) ?_
            conv => whnf
            refine ob (by omega) ?_
            refine ⟨.int .i64 (gt2 t.hi (m + od d) (d + od d)), by rw [List.getElem?_map, gb2]; rfl, ?_⟩
            conv => whnf
            exact ⟨rfl, by simp [againLo, againHi, c0, c1, c2, c3, c4]; try rfl⟩
          · conv => whnf
            exact ⟨rfl, by simp [againLo, againHi, c0, c1, c2, c3, c4]; try rfl⟩
    · conv => whnf
      refine iv (d - 1) (w64 (by omega) (by omega)) ?_
      conv => whnf
      refine HC.val (hcIs (m) (d - 1) n) (.refl _) (ler _ _) rfl ?_
      rintro r H0' ⟨rfl, rfl⟩
      refine ⟨rfl, rfl, ?_⟩
      conv => whnf
      refine ifb (fun c2 => ?_) (fun c2 => ?_)
      · have c2' := isCell_of c2
        obtain ⟨ra, ga1, ga2⟩ := rect_get hhi (m) (d - 1) (by omega) (by omega)
        conv => whnf
        refine ob (by omega) ?_
        refine ⟨rowD ra, by rw [List.getElem?_map, ga1]; rfl, ?_⟩
        conv => whnf
        refine iv (d - 1) (w64 (by omega) (by omega)) ?_
        conv => whnf
        refine ob (by omega) ?_
        refine ⟨.int .i64 (gt2 t.hi (m) (d - 1)), by rw [List.getElem?_map, ga2]; rfl, ?_⟩
        conv => whnf
        refine iv (d + 1) (w64 (by omega) (by omega)) ?_
        conv => whnf
        refine HC.val (hcIs (m) (d + 1) n) (.refl _) (ler _ _) rfl ?_
        rintro r H0' ⟨rfl, rfl⟩
        refine ⟨rfl, rfl, ?_⟩
        conv => whnf
        refine ifb (fun c3 => ?_) (fun c3 => ?_)
        · have c3' := isCell_of c3
          obtain ⟨ra, ga1, ga2⟩ := rect_get hlo (m) (d + 1) (by omega) (by omega)
          conv => whnf
          refine ob (by omega) ?_
          refine ⟨rowD ra, by rw [List.getElem?_map, ga1]; rfl, ?_⟩
          conv => whnf
          refine iv (d + 1) (w64 (by omega) (by omega)) ?_
          conv => whnf
          refine ob (by omega) ?_
          refine ⟨.int .i64 (gt2 t.lo (m) (d + 1)), by rw [List.getElem?_map, ga2]; rfl, ?_⟩
          conv => whnf
          refine iv (d + 1) (w64 (by omega) (by omega)) ?_
          conv => whnf
          refine ob (by decide) ?_
          refine iv ((d + 1).tmod 2) rfl ?_
          conv => whnf
          refine iv (2 * (d + 1).tmod 2) (w64 (by omega) (by omega)) ?_
          conv => whnf
          refine iv (od d) (by rw [w64 (by omega) (by omega)]; omega) ?_
          conv => whnf
          refine iv (m + od d) (w64 (by omega) (by omega)) ?_
          conv => whnf
          refine iv (d + od d) (w64 (by omega) (by omega)) ?_
          conv => whnf
          refine HC.val (hcIs (m + od d) (d + od d) n) (.refl _) (ler _ _) rfl ?_
          rintro r H0' ⟨rfl, rfl⟩
          refine ⟨rfl, rfl, ?_⟩
          conv => whnf
          refine ifb (fun c4 => ?_) (fun c4 => ?_)
          · have c4' := isCell_of c4
            obtain ⟨ra, ga1, ga2⟩ := rect_get hlo (m + od d) (d + od d) (by omega) (by omega)
            obtain ⟨rb, gb1, gb2⟩ := rect_get hhi (m + od d) (d + od d) (by omega) (by omega)
            conv => whnf
            refine iv (m + od d) (w64 (by omega) (by omega)) ?_
            conv => whnf
            refine ob (by omega) ?_
            refine ⟨rowD ra, by rw [List.getElem?_map, ga1]; rfl, ?_⟩
            conv => whnf
            refine iv (d + od d) (w64 (by omega) (by omega)) ?_
            conv => whnf
            refine ob (by omega) ?_
            refine ⟨.int .i64 (gt2 t.lo (m + od d) (d + od d)), by rw [List.getElem?_map, ga2]; rfl, ?_⟩
            conv => whnf
            refine iv (m + od d) (w64 (by omega) (by omega)) ?_
            conv => whnf
            refine ob (by omega) ?_
            refine ⟨rowD rb, by rw [List.getElem?_map, gb1]; rfl, ?_⟩
            conv => whnf
            refine iv (d + od d) (w64 (by omega) (by omega)) ?_
            conv => whnf
            refine ob (by omega) ?_
            refine ⟨.int .i64 (gt2 t.hi (m + od d) (d + od d)), by rw [List.getElem?_map, gb2]; rfl, ?_⟩
            conv => whnf
            exact ⟨rfl, by simp [againLo, againHi, c0, c1, c2, c3, c4]; try rfl⟩
          · conv => whnf
            exact ⟨rfl, by simp [againLo, againHi, c0, c1, c2, c3, c4]; try rfl⟩
        · conv => whnf
          refine iv (d + 1) (w64 (by omega) (by omega)) ?_
          conv => whnf
          refine ob (by decide) ?_
          refine iv ((d + 1).tmod 2) rfl ?_
          conv => whnf
          refine iv (2 * (d + 1).tmod 2) (w64 (by omega) (by omega)) ?_
          conv => whnf
          refine iv (od d) (by rw [w64 (by omega) (by omega)]; omega) ?_
          conv => whnf
          refine iv (m + od d) (w64 (by omega) (by omega)) ?_
          conv => whnf
          refine iv (d + od d) (w64 (by omega) (by omega)) ?_
          conv => whnf
          refine HC.val (hcIs (m + od d) (d + od d) n) (.refl _) (ler _ _) rfl ?_
          rintro r H0' ⟨rfl, rfl⟩
          refine ⟨rfl, rfl, ?_⟩
          conv => whnf
          refine ifb (fun c4 => ?_) (fun c4 => ?_)
          · have c4' := isCell_of c4
            obtain ⟨ra, ga1, ga2⟩ := rect_get hlo (m + od d) (d + od d) (by omega) (by omega)
            obtain ⟨rb, gb1, gb2⟩ := rect_get hhi (m + od d) (d + od d) (by omega) (by omega)
            conv => whnf
            refine iv (m + od d) (w64 (by omega) (by omega)) ?_
            conv => whnf
            refine ob (by omega) ?_
            refine ⟨rowD ra, by rw [List.getElem?_map, ga1]; rfl, ?_⟩
            conv => whnf
            refine iv (d + od d) (w64 (by omega) (by omega)) ?_
            conv => whnf
            refine ob (by omega) ?_
            refine ⟨.int .i64 (gt2 t.lo (m + od d) (d + od d)), by rw [List.getElem?_map, ga2]; rfl, ?_⟩
            conv => whnf
            refine iv (m + od d) (w64 (by omega) (by omega)) ?_
            conv => whnf
            refine ob (by omega) ?_
            refine ⟨rowD rb, by rw [List.getElem?_map, gb1]; rfl, ?_⟩
            conv => whnf
            refine iv (d + od d) (w64 (by omega) (by omega)) ?_
            conv => whnf
            refine ob (by omega) ?_
            refine ⟨.int .i64 (gt2 t.hi (m + od d) (d + od d)), by rw [List.getElem?_map, gb2]; rfl, ?_⟩
            conv => whnf
            exact ⟨rfl, by simp [againLo, againHi, c0, c1, c2, c3, c4]; try rfl⟩
          · conv => whnf
            exact ⟨rfl, by simp [againLo, againHi, c0, c1, c2, c3, c4]; try rfl⟩
      · conv => whnf
        refine iv (d + 1) (w64 (by omega) (by omega)) ?_
        conv => whnf
        refine HC.val (hcIs (m) (d + 1) n) (.refl _) (ler _ _) rfl ?_
        rintro r H0' ⟨rfl, rfl⟩
        refine ⟨rfl, rfl, ?_⟩
        conv => whnf
        refine ifb (fun c3 => ?_) (fun c3 => ?_)
        · have c3' := isCell_of c3
          obtain ⟨ra, ga1, ga2⟩ := rect_get hlo (m) (d + 1) (by omega) (by omega)
          conv => whnf
          refine ob (by omega) ?_
          refine ⟨rowD ra, by rw [List.getElem?_map, ga1]; rfl, ?_⟩
          conv => whnf
          refine iv (d + 1) (w64 (by omega) (by omega)) ?_
          conv => whnf
          refine ob (by omega) ?_
          refine ⟨.int .i64 (gt2 t.lo (m) (d + 1)), by rw [List.getElem?_map, ga2]; rfl, ?_⟩
          conv => whnf
          refine iv (d + 1) (w64 (by omega) (by omega)) ?_
          conv => whnf
          refine ob (by decide) ?_
          refine iv ((d + 1).tmod 2) rfl ?_
          conv => whnf
          refine iv (2 * (d + 1).tmod 2) (w64 (by omega) (by omega)) ?_
          conv => whnf
          refine iv (od d) (by rw [w64 (by omega) (by omega)]; omega) ?_
          conv => whnf
          refine iv (m + od d) (w64 (by omega) (by omega)) ?_
          conv => whnf
          refine iv (d + od d) (w64 (by omega) (by omega)) ?_
          conv => whnf
          refine HC.val (hcIs (m + od d) (d + od d) n) (.refl _) (ler _ _) rfl ?_
          rintro r H0' ⟨rfl, rfl⟩
          refine ⟨rfl, rfl, ?_⟩
          conv => whnf
          refine ifb (fun c4 => ?_) (fun c4 => ?_)
          · have c4' := isCell_of c4
            obtain ⟨ra, ga1, ga2⟩ := rect_get hlo (m + od d) (d + od d) (by omega) (by omega)
            obtain ⟨rb, gb1, gb2⟩ := rect_get hhi (m + od d) (d + od d) (by omega) (by omega)
            conv => whnf
            refine iv (m + od d) (w64 (by omega) (by omega)) ?_
            conv => whnf
            refine ob (by omega) ?_
            refine ⟨rowD ra, by rw [List.getElem?_map, ga1]; rfl, ?_⟩
            conv => whnf
            refine iv (d + od d) (w64 (by omega) (by omega)) ?_
            conv => whnf
            refine ob (by omega) ?_
            refine ⟨.int .i64 (gt2 t.lo (m + od d) (d + od d)), by rw [List.getElem?_map, ga2]; rfl, ?_⟩
            conv => whnf
            refine iv (m + od d) (w64 (by omega) (by omega)) ?_
            conv => whnf
            refine ob (by omega) ?_
            refine ⟨rowD rb, by rw [List.getElem?_map, gb1]; rfl, ?_⟩
            conv => whnf
            refine iv (d + od d) (w64 (by omega) (by omega)) ?_
            conv => whnf
            refine ob (by omega) ?_
            refine ⟨.int .i64 (gt2 t.hi (m + od d) (d + od d)), by rw [List.getElem?_map, gb2]; rfl, ?_⟩
            conv => whnf
            exact ⟨rfl, by simp [againLo, againHi, c0, c1, c2, c3, c4]; try rfl⟩
          · conv => whnf
            exact ⟨rfl, by simp [againLo, againHi, c0, c1, c2, c3, c4]; try rfl⟩
        · conv => whnf
          refine iv (d + 1) (w64 (by omega) (by omega)) ?_
          conv => whnf
          refine ob (by decide) ?_
          refine iv ((d + 1).tmod 2) rfl ?_
          conv => whnf
          refine iv (2 * (d + 1).tmod 2) (w64 (by omega) (by omega)) ?_
          conv => whnf
          refine iv (od d) (by rw [w64 (by omega) (by omega)]; omega) ?_
          conv => whnf
          refine iv (m + od d) (w64 (by omega) (by omega)) ?_
          conv => whnf
          refine iv (d + od d) (w64 (by omega) (by omega)) ?_
          conv => whnf
          refine HC.val (hcIs (m + od d) (d + od d) n) (.refl _) (ler _ _) rfl ?_
          rintro r H0' ⟨rfl, rfl⟩
          refine ⟨rfl, rfl, ?_⟩
          conv => whnf
          refine ifb (fun c4 => ?_) (fun c4 => ?_)
          · have c4' := isCell_of c4
            obtain ⟨ra, ga1, ga2⟩ := rect_get hlo (m + od d) (d + od d) (by omega) (by omega)
            obtain ⟨rb, gb1, gb2⟩ := rect_get hhi (m + od d) (d + od d) (by omega) (by omega)
            conv => whnf
            refine iv (m + od d) (w64 (by omega) (by omega)) ?_
            conv => whnf
            refine ob (by omega) ?_
            refine ⟨rowD ra, by rw [List.getElem?_map, ga1]; rfl, ?_⟩
            conv => whnf
            refine iv (d + od d) (w64 (by omega) (by omega)) ?_
            conv => whnf
            refine ob (by omega) ?_
            refine ⟨.int .i64 (gt2 t.lo (m + od d) (d + od d)), by rw [List.getElem?_map, ga2]; rfl, ?_⟩
            conv => whnf
            refine iv (m + od d) (w64 (by omega) (by omega)) ?_
            conv => whnf
            refine ob (by omega) ?_
            refine ⟨rowD rb, by rw [List.getElem?_map, gb1]; rfl, ?_⟩
            conv => whnf
            refine iv (d + od d) (w64 (by omega) (by omega)) ?_
            conv => whnf
            refine ob (by omega) ?_
            refine ⟨.int .i64 (gt2 t.hi (m + od d) (d + od d)), by rw [List.getElem?_map, gb2]; rfl, ?_⟩
            conv => whnf
            exact ⟨rfl, by simp [againLo, againHi, c0, c1, c2, c3, c4]; try rfl⟩
          · conv => whnf
            exact ⟨rfl, by simp [againLo, againHi, c0, c1, c2, c3, c4]; try rfl⟩

end Go.Proofs.Ythplmnpfaagciaa.Pw

/- first, at n = 8 without known bounds. -/
set_option linter.unusedVariables false
set_option linter.unusedSimpArgs false
namespace Go.Proofs.Ythplmnpfaagciaa.Pw
open Go

def loR (m d : Nat) : List Int := (List.range 9).map fun i => if 1 ≤ i ∧ i ≤ d then 2 else 0
def hiR (m d : Nat) : List Int := (List.range 9).map fun i => if 1 ≤ i ∧ i ≤ d then 2 ^ m else 0
def loF (m : Nat) : List Int := if m = 0 then loR 0 0 else (loR m m).set 1 (2 ^ m)
def hiF (m : Nat) : List Int := if m = 0 then hiR 0 0 else (hiR m m).set m 2
def rowO (r : List Int) : Ob := .row .leaf (r.map (.int .i64))
def refsD (b k : Nat) : List D := (List.range k).map fun i => .sl (b + i) 0 9
def stF (m : Nat) : List Ob := match m with
  | 0 => [.var (.agg [.nils, .nils]), .var (.agg [.nils, .nils])]
  | k + 1 => [.var (.agg [.nils, .nils]), .var (.agg [.sl 2 0 (k + 1), .sl 3 0 (k + 1)]), .row .leaf (refsD 4 (k + 1)), .row .leaf (refsD (4 + (k + 1)) (k + 1))] ++ (List.range (k + 1)).map (fun i => rowO (loF i)) ++ (List.range (k + 1)).map (fun i => rowO (hiF i))
def t0 : Tb := ⟨(List.range 9).map loF, (List.range 9).map hiF⟩
/-- The objects of a table: two variables, the rows of slices, the rows. -/
def stW (d0 : D) (t : Tb) : List Ob := [.var d0, .var (.agg [.sl 2 0 9, .sl 3 0 9]), .row .leaf (refsD 4 9), .row .leaf (refsD 13 9)] ++ t.lo.map rowO ++ t.hi.map rowO

theorem hcFirst : HC Try.prog 36 [.int .i64 8, .list false sh5 [], .list false .leaf []] [] (fun r H' => r = .agg [.sl 2 0 9, .sl 3 0 9] ∧ H' = stW (.agg [.sl 2 0 9, .sl 3 0 9]) t0) := by
  refine hc_ofS (okc Try.f36.ntmps 0) (fn := Try.f36) (cd := _) rfl rfl rfl rfl rfl rfl (fun hbd => ?_)
  conv => whnf
  refine lp (fun n e H => ∃ m : Nat, m ≤ 9 ∧ n = 9 - m ∧ H = stF m ∧ e = [(8, .int .i64 m), (0, .int .i64 8), (1, .list false sh5 []), (2, .list false .leaf []), (7, .ptr 1 []), (6, .ptr 0 [])]) ?_ ?_
  · refine ⟨10, back 9 _ (by omega) ?_ ⟨0, by omega, rfl, rfl, rfl⟩⟩
    exact se0 rfl (se0 rfl (se0 rfl (se0 rfl (se0 rfl (se0 rfl trivial)))))
  · rintro n e H ⟨m, hm, rfl, rfl, rfl⟩
    have hcases : m = 0 ∨ m = 1 ∨ m = 2 ∨ m = 3 ∨ m = 4 ∨ m = 5 ∨ m = 6 ∨ m = 7 ∨ m = 8 ∨ m = 9 := by omega
    rcases hcases with rfl | rfl | rfl | rfl | rfl | rfl | rfl | rfl | rfl | rfl
    · conv => whnf
      refine drS 8 rfl ?_
      conv => whnf
      refine iv 9 (by decide) ?_
      conv => whnf
      refine ob ⟨by decide, rfl, by decide⟩ ?_
      conv => whnf
      refine iv 9 (by decide) ?_
      conv => whnf
      refine ob ⟨by decide, rfl, by decide⟩ ?_
      conv => whnf
      refine lp (fun n e H => ∃ d : Nat, d ≤ 0 ∧ n = 0 - d ∧ H = stF 0 ++ [rowO (loR 0 d), rowO (hiR 0 d)] ∧ e = [(11, .int .i64 (d + 1 : Nat)), (9, .sl 2 0 9), (10, .sl 3 0 9), (8, .int .i64 (0 : Nat)), (0, .int .i64 8), (1, .list false sh5 []), (2, .list false .leaf []), (7, .ptr 1 []), (6, .ptr 0 [])]) ?_ ?_
      · refine ⟨1, 0, _, _, by omega, ⟨_, .refl _, .inl ⟨?_, ?_⟩⟩, 0, by omega, rfl, rfl, rfl⟩
        · rfl
        · exact se0 rfl (se0 rfl (se0 rfl (se0 rfl (se0 rfl (se0 rfl (se0 rfl (se0 rfl (se0 rfl trivial))))))))
      · rintro n e H ⟨d, hd, rfl, rfl, rfl⟩
        obtain rfl : d = 0 := by omega
        conv => whnf
        refine ob (by decide) ?_
        conv => whnf
        refine ob (by decide) ?_
        conv => whnf
        refine ob (by decide) ?_
        conv => whnf
        refine ob (by decide) ?_
        conv => whnf
        refine iv ((0 + 1 : Nat) : Int) (by decide) ?_
        conv => whnf
        refine ⟨9 - (0 + 1), _, _, by omega, ⟨_, .refl _, .inr ⟨[0, 1, 5, 7, 2, 3], ⟨?_, ?_, rfl, rfl⟩⟩⟩, 0 + 1, by omega, rfl, rfl, rfl⟩
        · exact ⟨.refl _, rfl, .refl _, rfl, .refl _, rfl, .refl _, rfl, .refl _, rfl, .refl _, rfl, trivial⟩
        · exact ⟨rfl, rfl, rfl, rfl, rfl, rfl, rfl, rfl, rfl, rfl, rfl, rfl, trivial⟩
    · conv => whnf
      refine drS 8 rfl ?_
      conv => whnf
      refine iv 9 (by decide) ?_
      conv => whnf
      refine ob ⟨by decide, rfl, by decide⟩ ?_
      conv => whnf
      refine iv 9 (by decide) ?_
      conv => whnf
      refine ob ⟨by decide, rfl, by decide⟩ ?_
      conv => whnf
      refine lp (fun n e H => ∃ d : Nat, d ≤ 1 ∧ n = 1 - d ∧ H = stF 1 ++ [rowO (loR 1 d), rowO (hiR 1 d)] ∧ e = [(11, .int .i64 (d + 1 : Nat)), (9, .sl 6 0 9), (10, .sl 7 0 9), (8, .int .i64 (1 : Nat)), (0, .int .i64 8), (1, .list false sh5 []), (2, .list false .leaf []), (7, .ptr 1 []), (6, .ptr 0 [])]) ?_ ?_
      · refine ⟨2, 1, _, _, by omega, ⟨_, .refl _, .inl ⟨?_, ?_⟩⟩, 0, by omega, rfl, rfl, rfl⟩
        · rfl
        · exact se0 rfl (se0 rfl (se0 rfl (se0 rfl (se0 rfl (se0 rfl (se0 rfl (se0 rfl (se0 rfl trivial))))))))
      · rintro n e H ⟨d, hd, rfl, rfl, rfl⟩
        have hdc : d = 0 ∨ d = 1 := by omega
        rcases hdc with rfl | rfl
        · conv => whnf
          refine ob (by decide) ?_
          conv => whnf
          refine ob (by decide) ?_
          conv => whnf
          refine iv 1 (by decide) ?_
          conv => whnf
          refine ob (by decide) ?_
          refine iv 2 (by decide) ?_
          conv => whnf
          refine ob (by decide) ?_
          conv => whnf
          refine ob (by decide) ?_
          conv => whnf
          refine iv ((1 + 1 : Nat) : Int) (by decide) ?_
          conv => whnf
          refine ⟨1 - (0 + 1), _, _, by omega, ⟨_, .refl _, .inl ⟨?_, ?_⟩⟩, 0 + 1, by omega, rfl, rfl, rfl⟩
          · rfl
          · exact se0 rfl (se0 rfl (se0 rfl (se0 rfl (se0 rfl (se0 rfl (se0 rfl (se0 rfl (se0 rfl trivial))))))))
        · conv => whnf
          refine iv 1 (by decide) ?_
          conv => whnf
          refine ob (by decide) ?_
          refine iv 2 (by decide) ?_
          conv => whnf
          refine ob (by decide) ?_
          conv => whnf
          refine ob (by decide) ?_
          conv => whnf
          refine ob (by decide) ?_
          conv => whnf
          refine ob (by decide) ?_
          conv => whnf
          refine ob (by decide) ?_
          conv => whnf
          refine ob (by decide) ?_
          refine ob (by decide) ?_
          conv => whnf
          refine ob (by decide) ?_
          conv => whnf
          refine ob (by decide) ?_
          refine ob (by decide) ?_
          conv => whnf
          refine iv ((1 + 1 : Nat) : Int) (by decide) ?_
          conv => whnf
          refine ⟨9 - (1 + 1), _, _, by omega, ⟨_, .refl _, .inr ⟨[0, 1, 9, 11, 4, 6, 5, 7], ⟨?_, ?_, rfl, rfl⟩⟩⟩, 1 + 1, by omega, rfl, rfl, rfl⟩
          · exact ⟨.refl _, rfl, .refl _, rfl, .refl _, rfl, .refl _, rfl, .refl _, rfl, .refl _, rfl, trivial⟩
          · exact ⟨rfl, rfl, rfl, rfl, rfl, rfl, rfl, rfl, rfl, rfl, rfl, rfl, rfl, rfl, rfl, rfl, trivial⟩
    · conv => whnf
      refine drS 8 rfl ?_
      conv => whnf
      refine iv 9 (by decide) ?_
      conv => whnf
      refine ob ⟨by decide, rfl, by decide⟩ ?_
      conv => whnf
      refine iv 9 (by decide) ?_
      conv => whnf
      refine ob ⟨by decide, rfl, by decide⟩ ?_
      conv => whnf
      refine lp (fun n e H => ∃ d : Nat, d ≤ 2 ∧ n = 2 - d ∧ H = stF 2 ++ [rowO (loR 2 d), rowO (hiR 2 d)] ∧ e = [(11, .int .i64 (d + 1 : Nat)), (9, .sl 8 0 9), (10, .sl 9 0 9), (8, .int .i64 (2 : Nat)), (0, .int .i64 8), (1, .list false sh5 []), (2, .list false .leaf []), (7, .ptr 1 []), (6, .ptr 0 [])]) ?_ ?_
      · refine ⟨3, 2, _, _, by omega, ⟨_, .refl _, .inl ⟨?_, ?_⟩⟩, 0, by omega, rfl, rfl, rfl⟩
        · rfl
        · exact se0 rfl (se0 rfl (se0 rfl (se0 rfl (se0 rfl (se0 rfl (se0 rfl (se0 rfl (se0 rfl trivial))))))))
      · rintro n e H ⟨d, hd, rfl, rfl, rfl⟩
        have hdc : d = 0 ∨ d = 1 ∨ d = 2 := by omega
        rcases hdc with rfl | rfl | rfl
        · conv => whnf
          refine ob (by decide) ?_
          conv => whnf
          refine ob (by decide) ?_
          conv => whnf
          refine iv 2 (by decide) ?_
          conv => whnf
          refine ob (by decide) ?_
          refine iv 4 (by decide) ?_
          conv => whnf
          refine ob (by decide) ?_
          conv => whnf
          refine ob (by decide) ?_
          conv => whnf
          refine iv ((1 + 1 : Nat) : Int) (by decide) ?_
          conv => whnf
          refine ⟨2 - (0 + 1), _, _, by omega, ⟨_, .refl _, .inl ⟨?_, ?_⟩⟩, 0 + 1, by omega, rfl, rfl, rfl⟩
          · rfl
          · exact se0 rfl (se0 rfl (se0 rfl (se0 rfl (se0 rfl (se0 rfl (se0 rfl (se0 rfl (se0 rfl trivial))))))))
        · conv => whnf
          refine ob (by decide) ?_
          conv => whnf
          refine ob (by decide) ?_
          conv => whnf
          refine iv 2 (by decide) ?_
          conv => whnf
          refine ob (by decide) ?_
          refine iv 4 (by decide) ?_
          conv => whnf
          refine ob (by decide) ?_
          conv => whnf
          refine ob (by decide) ?_
          conv => whnf
          refine iv ((2 + 1 : Nat) : Int) (by decide) ?_
          conv => whnf
          refine ⟨2 - (1 + 1), _, _, by omega, ⟨_, .refl _, .inl ⟨?_, ?_⟩⟩, 1 + 1, by omega, rfl, rfl, rfl⟩
          · rfl
          · exact se0 rfl (se0 rfl (se0 rfl (se0 rfl (se0 rfl (se0 rfl (se0 rfl (se0 rfl (se0 rfl trivial))))))))
        · conv => whnf
          refine iv 2 (by decide) ?_
          conv => whnf
          refine ob (by decide) ?_
          refine iv 4 (by decide) ?_
          conv => whnf
          refine ob (by decide) ?_
          conv => whnf
          refine ob (by decide) ?_
          conv => whnf
          refine ob (by decide) ?_
          conv => whnf
          refine ob (by decide) ?_
          conv => whnf
          refine ob (by decide) ?_
          conv => whnf
          refine ob (by decide) ?_
          refine ob (by decide) ?_
          conv => whnf
          refine ob (by decide) ?_
          conv => whnf
          refine ob (by decide) ?_
          refine ob (by decide) ?_
          conv => whnf
          refine iv ((2 + 1 : Nat) : Int) (by decide) ?_
          conv => whnf
          refine ⟨9 - (2 + 1), _, _, by omega, ⟨_, .refl _, .inr ⟨[0, 1, 11, 13, 4, 5, 8, 6, 7, 9], ⟨?_, ?_, rfl, rfl⟩⟩⟩, 2 + 1, by omega, rfl, rfl, rfl⟩
          · exact ⟨.refl _, rfl, .refl _, rfl, .refl _, rfl, .refl _, rfl, .refl _, rfl, .refl _, rfl, trivial⟩
          · exact ⟨rfl, rfl, rfl, rfl, rfl, rfl, rfl, rfl, rfl, rfl, rfl, rfl, rfl, rfl, rfl, rfl, rfl, rfl, rfl, rfl, trivial⟩
    · conv => whnf
      refine drS 8 rfl ?_
      conv => whnf
      refine iv 9 (by decide) ?_
      conv => whnf
      refine ob ⟨by decide, rfl, by decide⟩ ?_
      conv => whnf
      refine iv 9 (by decide) ?_
      conv => whnf
      refine ob ⟨by decide, rfl, by decide⟩ ?_
      conv => whnf
      refine lp (fun n e H => ∃ d : Nat, d ≤ 3 ∧ n = 3 - d ∧ H = stF 3 ++ [rowO (loR 3 d), rowO (hiR 3 d)] ∧ e = [(11, .int .i64 (d + 1 : Nat)), (9, .sl 10 0 9), (10, .sl 11 0 9), (8, .int .i64 (3 : Nat)), (0, .int .i64 8), (1, .list false sh5 []), (2, .list false .leaf []), (7, .ptr 1 []), (6, .ptr 0 [])]) ?_ ?_
      · refine ⟨4, 3, _, _, by omega, ⟨_, .refl _, .inl ⟨?_, ?_⟩⟩, 0, by omega, rfl, rfl, rfl⟩
        · rfl
        · exact se0 rfl (se0 rfl (se0 rfl (se0 rfl (se0 rfl (se0 rfl (se0 rfl (se0 rfl (se0 rfl trivial))))))))
      · rintro n e H ⟨d, hd, rfl, rfl, rfl⟩
        have hdc : d = 0 ∨ d = 1 ∨ d = 2 ∨ d = 3 := by omega
        rcases hdc with rfl | rfl | rfl | rfl
        · conv => whnf
          refine ob (by decide) ?_
          conv => whnf
          refine ob (by decide) ?_
          conv => whnf
          refine iv 3 (by decide) ?_
          conv => whnf
          refine ob (by decide) ?_
          refine iv 8 (by decide) ?_
          conv => whnf
          refine ob (by decide) ?_
          conv => whnf
          refine ob (by decide) ?_
          conv => whnf
          refine iv ((1 + 1 : Nat) : Int) (by decide) ?_
          conv => whnf
          refine ⟨3 - (0 + 1), _, _, by omega, ⟨_, .refl _, .inl ⟨?_, ?_⟩⟩, 0 + 1, by omega, rfl, rfl, rfl⟩
          · rfl
          · exact se0 rfl (se0 rfl (se0 rfl (se0 rfl (se0 rfl (se0 rfl (se0 rfl (se0 rfl (se0 rfl trivial))))))))
        · conv => whnf
          refine ob (by decide) ?_
          conv => whnf
          refine ob (by decide) ?_
          conv => whnf
          refine iv 3 (by decide) ?_
          conv => whnf
          refine ob (by decide) ?_
          refine iv 8 (by decide) ?_
          conv => whnf
          refine ob (by decide) ?_
          conv => whnf
          refine ob (by decide) ?_
          conv => whnf
          refine iv ((2 + 1 : Nat) : Int) (by decide) ?_
          conv => whnf
          refine ⟨3 - (1 + 1), _, _, by omega, ⟨_, .refl _, .inl ⟨?_, ?_⟩⟩, 1 + 1, by omega, rfl, rfl, rfl⟩
          · rfl
          · exact se0 rfl (se0 rfl (se0 rfl (se0 rfl (se0 rfl (se0 rfl (se0 rfl (se0 rfl (se0 rfl trivial))))))))
        · conv => whnf
          refine ob (by decide) ?_
          conv => whnf
          refine ob (by decide) ?_
          conv => whnf
          refine iv 3 (by decide) ?_
          conv => whnf
          refine ob (by decide) ?_
          refine iv 8 (by decide) ?_
          conv => whnf
          refine ob (by decide) ?_
          conv => whnf
          refine ob (by decide) ?_
          conv => whnf
          refine iv ((3 + 1 : Nat) : Int) (by decide) ?_
          conv => whnf
          refine ⟨3 - (2 + 1), _, _, by omega, ⟨_, .refl _, .inl ⟨?_, ?_⟩⟩, 2 + 1, by omega, rfl, rfl, rfl⟩
          · rfl
          · exact se0 rfl (se0 rfl (se0 rfl (se0 rfl (se0 rfl (se0 rfl (se0 rfl (se0 rfl (se0 rfl trivial))))))))
        · conv => whnf
          refine iv 3 (by decide) ?_
          conv => whnf
          refine ob (by decide) ?_
          refine iv 8 (by decide) ?_
          conv => whnf
          refine ob (by decide) ?_
          conv => whnf
          refine ob (by decide) ?_
          conv => whnf
          refine ob (by decide) ?_
          conv => whnf
          refine ob (by decide) ?_
          conv => whnf
          refine ob (by decide) ?_
          conv => whnf
          refine ob (by decide) ?_
          refine ob (by decide) ?_
          conv => whnf
          refine ob (by decide) ?_
          conv => whnf
          refine ob (by decide) ?_
          refine ob (by decide) ?_
          conv => whnf
          refine iv ((3 + 1 : Nat) : Int) (by decide) ?_
          conv => whnf
          refine ⟨9 - (3 + 1), _, _, by omega, ⟨_, .refl _, .inr ⟨[0, 1, 13, 15, 4, 5, 6, 10, 7, 8, 9, 11], ⟨?_, ?_, rfl, rfl⟩⟩⟩, 3 + 1, by omega, rfl, rfl, rfl⟩
          · exact ⟨.refl _, rfl, .refl _, rfl, .refl _, rfl, .refl _, rfl, .refl _, rfl, .refl _, rfl, trivial⟩
          · exact ⟨rfl, rfl, rfl, rfl, rfl, rfl, rfl, rfl, rfl, rfl, rfl, rfl, rfl, rfl, rfl, rfl, rfl, rfl, rfl, rfl, rfl, rfl, rfl, rfl, trivial⟩
    · conv => whnf
      refine drS 8 rfl ?_
      conv => whnf
      refine iv 9 (by decide) ?_
      conv => whnf
      refine ob ⟨by decide, rfl, by decide⟩ ?_
      conv => whnf
      refine iv 9 (by decide) ?_
      conv => whnf
      refine ob ⟨by decide, rfl, by decide⟩ ?_
      conv => whnf
      refine lp (fun n e H => ∃ d : Nat, d ≤ 4 ∧ n = 4 - d ∧ H = stF 4 ++ [rowO (loR 4 d), rowO (hiR 4 d)] ∧ e = [(11, .int .i64 (d + 1 : Nat)), (9, .sl 12 0 9), (10, .sl 13 0 9), (8, .int .i64 (4 : Nat)), (0, .int .i64 8), (1, .list false sh5 []), (2, .list false .leaf []), (7, .ptr 1 []), (6, .ptr 0 [])]) ?_ ?_
      · refine ⟨5, 4, _, _, by omega, ⟨_, .refl _, .inl ⟨?_, ?_⟩⟩, 0, by omega, rfl, rfl, rfl⟩
        · rfl
        · exact se0 rfl (se0 rfl (se0 rfl (se0 rfl (se0 rfl (se0 rfl (se0 rfl (se0 rfl (se0 rfl trivial))))))))
      · rintro n e H ⟨d, hd, rfl, rfl, rfl⟩
        have hdc : d = 0 ∨ d = 1 ∨ d = 2 ∨ d = 3 ∨ d = 4 := by omega
        rcases hdc with rfl | rfl | rfl | rfl | rfl
        · conv => whnf
          refine ob (by decide) ?_
          conv => whnf
          refine ob (by decide) ?_
          conv => whnf
          refine iv 4 (by decide) ?_
          conv => whnf
          refine ob (by decide) ?_
          refine iv 16 (by decide) ?_
          conv => whnf
          refine ob (by decide) ?_
          conv => whnf
          refine ob (by decide) ?_
          conv => whnf
          refine iv ((1 + 1 : Nat) : Int) (by decide) ?_
          conv => whnf
          refine ⟨4 - (0 + 1), _, _, by omega, ⟨_, .refl _, .inl ⟨?_, ?_⟩⟩, 0 + 1, by omega, rfl, rfl, rfl⟩
          · rfl
          · exact se0 rfl (se0 rfl (se0 rfl (se0 rfl (se0 rfl (se0 rfl (se0 rfl (se0 rfl (se0 rfl trivial))))))))
        · conv => whnf
          refine ob (by decide) ?_
          conv => whnf
          refine ob (by decide) ?_
          conv => whnf
          refine iv 4 (by decide) ?_
          conv => whnf
          refine ob (by decide) ?_
          refine iv 16 (by decide) ?_
          conv => whnf
          refine ob (by decide) ?_
          conv => whnf
          refine ob (by decide) ?_
          conv => whnf
          refine iv ((2 + 1 : Nat) : Int) (by decide) ?_
          conv => whnf
          refine ⟨4 - (1 + 1), _, _, by omega, ⟨_, .refl _, .inl ⟨?_, ?_⟩⟩, 1 + 1, by omega, rfl, rfl, rfl⟩
          · rfl
          · exact se0 rfl (se0 rfl (se0 rfl (se0 rfl (se0 rfl (se0 rfl (se0 rfl (se0 rfl (se0 rfl trivial))))))))
        · conv => whnf
          refine ob (by decide) ?_
          conv => whnf
          refine ob (by decide) ?_
          conv => whnf
          refine iv 4 (by decide) ?_
          conv => whnf
          refine ob (by decide) ?_
          refine iv 16 (by decide) ?_
          conv => whnf
          refine ob (by decide) ?_
          conv => whnf
          refine ob (by decide) ?_
          conv => whnf
          refine iv ((3 + 1 : Nat) : Int) (by decide) ?_
          conv => whnf
          refine ⟨4 - (2 + 1), _, _, by omega, ⟨_, .refl _, .inl ⟨?_, ?_⟩⟩, 2 + 1, by omega, rfl, rfl, rfl⟩
          · rfl
          · exact se0 rfl (se0 rfl (se0 rfl (se0 rfl (se0 rfl (se0 rfl (se0 rfl (se0 rfl (se0 rfl trivial))))))))
        · conv => whnf
          refine ob (by decide) ?_
          conv => whnf
          refine ob (by decide) ?_
          conv => whnf
          refine iv 4 (by decide) ?_
          conv => whnf
          refine ob (by decide) ?_
          refine iv 16 (by decide) ?_
          conv => whnf
          refine ob (by decide) ?_
          conv => whnf
          refine ob (by decide) ?_
          conv => whnf
          refine iv ((4 + 1 : Nat) : Int) (by decide) ?_
          conv => whnf
          refine ⟨4 - (3 + 1), _, _, by omega, ⟨_, .refl _, .inl ⟨?_, ?_⟩⟩, 3 + 1, by omega, rfl, rfl, rfl⟩
          · rfl
          · exact se0 rfl (se0 rfl (se0 rfl (se0 rfl (se0 rfl (se0 rfl (se0 rfl (se0 rfl (se0 rfl trivial))))))))
        · conv => whnf
          refine iv 4 (by decide) ?_
          conv => whnf
          refine ob (by decide) ?_
          refine iv 16 (by decide) ?_
          conv => whnf
          refine ob (by decide) ?_
          conv => whnf
          refine ob (by decide) ?_
          conv => whnf
          refine ob (by decide) ?_
          conv => whnf
          refine ob (by decide) ?_
          conv => whnf
          refine ob (by decide) ?_
          conv => whnf
          refine ob (by decide) ?_
          refine ob (by decide) ?_
          conv => whnf
          refine ob (by decide) ?_
          conv => whnf
          refine ob (by decide) ?_
          refine ob (by decide) ?_
          conv => whnf
          refine iv ((4 + 1 : Nat) : Int) (by decide) ?_
          conv => whnf
          refine ⟨9 - (4 + 1), _, _, by omega, ⟨_, .refl _, .inr ⟨[0, 1, 15, 17, 4, 5, 6, 7, 12, 8, 9, 10, 11, 13], ⟨?_, ?_, rfl, rfl⟩⟩⟩, 4 + 1, by omega, rfl, rfl, rfl⟩
          · exact ⟨.refl _, rfl, .refl _, rfl, .refl _, rfl, .refl _, rfl, .refl _, rfl, .refl _, rfl, trivial⟩
          · exact ⟨rfl, rfl, rfl, rfl, rfl, rfl, rfl, rfl, rfl, rfl, rfl, rfl, rfl, rfl, rfl, rfl, rfl, rfl, rfl, rfl, rfl, rfl, rfl, rfl, rfl, rfl, rfl, rfl, trivial⟩
    · conv => whnf
      refine drS 8 rfl ?_
      conv => whnf
      refine iv 9 (by decide) ?_
      conv => whnf
      refine ob ⟨by decide, rfl, by decide⟩ ?_
      conv => whnf
      refine iv 9 (by decide) ?_
      conv => whnf
      refine ob ⟨by decide, rfl, by decide⟩ ?_
      conv => whnf
      refine lp (fun n e H => ∃ d : Nat, d ≤ 5 ∧ n = 5 - d ∧ H = stF 5 ++ [rowO (loR 5 d), rowO (hiR 5 d)] ∧ e = [(11, .int .i64 (d + 1 : Nat)), (9, .sl 14 0 9), (10, .sl 15 0 9), (8, .int .i64 (5 : Nat)), (0, .int .i64 8), (1, .list false sh5 []), (2, .list false .leaf []), (7, .ptr 1 []), (6, .ptr 0 [])]) ?_ ?_
      · refine ⟨6, 5, _, _, by omega, ⟨_, .refl _, .inl ⟨?_, ?_⟩⟩, 0, by omega, rfl, rfl, rfl⟩
        · rfl
        · exact se0 rfl (se0 rfl (se0 rfl (se0 rfl (se0 rfl (se0 rfl (se0 rfl (se0 rfl (se0 rfl trivial))))))))
      · rintro n e H ⟨d, hd, rfl, rfl, rfl⟩
        have hdc : d = 0 ∨ d = 1 ∨ d = 2 ∨ d = 3 ∨ d = 4 ∨ d = 5 := by omega
        rcases hdc with rfl | rfl | rfl | rfl | rfl | rfl
        · conv => whnf
          refine ob (by decide) ?_
          conv => whnf
          refine ob (by decide) ?_
          conv => whnf
          refine iv 5 (by decide) ?_
          conv => whnf
          refine ob (by decide) ?_
          refine iv 32 (by decide) ?_
          conv => whnf
          refine ob (by decide) ?_
          conv => whnf
          refine ob (by decide) ?_
          conv => whnf
          refine iv ((1 + 1 : Nat) : Int) (by decide) ?_
          conv => whnf
          refine ⟨5 - (0 + 1), _, _, by omega, ⟨_, .refl _, .inl ⟨?_, ?_⟩⟩, 0 + 1, by omega, rfl, rfl, rfl⟩
          · rfl
          · exact se0 rfl (se0 rfl (se0 rfl (se0 rfl (se0 rfl (se0 rfl (se0 rfl (se0 rfl (se0 rfl trivial))))))))
        · conv => whnf
          refine ob (by decide) ?_
          conv => whnf
          refine ob (by decide) ?_
          conv => whnf
          refine iv 5 (by decide) ?_
          conv => whnf
          refine ob (by decide) ?_
          refine iv 32 (by decide) ?_
          conv => whnf
          refine ob (by decide) ?_
          conv => whnf
          refine ob (by decide) ?_
          conv => whnf
          refine iv ((2 + 1 : Nat) : Int) (by decide) ?_
          conv => whnf
          refine ⟨5 - (1 + 1), _, _, by omega, ⟨_, .refl _, .inl ⟨?_, ?_⟩⟩, 1 + 1, by omega, rfl, rfl, rfl⟩
          · rfl
          · exact se0 rfl (se0 rfl (se0 rfl (se0 rfl (se0 rfl (se0 rfl (se0 rfl (se0 rfl (se0 rfl trivial))))))))
        · conv => whnf
          refine ob (by decide) ?_
          conv => whnf
          refine ob (by decide) ?_
          conv => whnf
          refine iv 5 (by decide) ?_
          conv => whnf
          refine ob (by decide) ?_
          refine iv 32 (by decide) ?_
          conv => whnf
          refine ob (by decide) ?_
          conv => whnf
          refine ob (by decide) ?_
          conv => whnf
          refine iv ((3 + 1 : Nat) : Int) (by decide) ?_
          conv => whnf
          refine ⟨5 - (2 + 1), _, _, by omega, ⟨_, .refl _, .inl ⟨?_, ?_⟩⟩, 2 + 1, by omega, rfl, rfl, rfl⟩
          · rfl
          · exact se0 rfl (se0 rfl (se0 rfl (se0 rfl (se0 rfl (se0 rfl (se0 rfl (se0 rfl (se0 rfl trivial))))))))
        · conv => whnf
          refine ob (by decide) ?_
          conv => whnf
          refine ob (by decide) ?_
          conv => whnf
          refine iv 5 (by decide) ?_
          conv => whnf
          refine ob (by decide) ?_
          refine iv 32 (by decide) ?_
          conv => whnf
          refine ob (by decide) ?_
          conv => whnf
          refine ob (by decide) ?_
          conv => whnf
          refine iv ((4 + 1 : Nat) : Int) (by decide) ?_
          conv => whnf
          refine ⟨5 - (3 + 1), _, _, by omega, ⟨_, .refl _, .inl ⟨?_, ?_⟩⟩, 3 + 1, by omega, rfl, rfl, rfl⟩
          · rfl
          · exact se0 rfl (se0 rfl (se0 rfl (se0 rfl (se0 rfl (se0 rfl (se0 rfl (se0 rfl (se0 rfl trivial))))))))
        · conv => whnf
          refine ob (by decide) ?_
          conv => whnf
          refine ob (by decide) ?_
          conv => whnf
          refine iv 5 (by decide) ?_
          conv => whnf
          refine ob (by decide) ?_
          refine iv 32 (by decide) ?_
          conv => whnf
          refine ob (by decide) ?_
          conv => whnf
          refine ob (by decide) ?_
          conv => whnf
          refine iv ((5 + 1 : Nat) : Int) (by decide) ?_
          conv => whnf
          refine ⟨5 - (4 + 1), _, _, by omega, ⟨_, .refl _, .inl ⟨?_, ?_⟩⟩, 4 + 1, by omega, rfl, rfl, rfl⟩
          · rfl
          · exact se0 rfl (se0 rfl (se0 rfl (se0 rfl (se0 rfl (se0 rfl (se0 rfl (se0 rfl (se0 rfl trivial))))))))
        · conv => whnf
          refine iv 5 (by decide) ?_
          conv => whnf
          refine ob (by decide) ?_
          refine iv 32 (by decide) ?_
          conv => whnf
          refine ob (by decide) ?_
          conv => whnf
          refine ob (by decide) ?_
          conv => whnf
          refine ob (by decide) ?_
          conv => whnf
          refine ob (by decide) ?_
          conv => whnf
          refine ob (by decide) ?_
          conv => whnf
          refine ob (by decide) ?_
          refine ob (by decide) ?_
          conv => whnf
          refine ob (by decide) ?_
          conv => whnf
          refine ob (by decide) ?_
          refine ob (by decide) ?_
          conv => whnf
          refine iv ((5 + 1 : Nat) : Int) (by decide) ?_
          conv => whnf
          refine ⟨9 - (5 + 1), _, _, by omega, ⟨_, .refl _, .inr ⟨[0, 1, 17, 19, 4, 5, 6, 7, 8, 14, 9, 10, 11, 12, 13, 15], ⟨?_, ?_, rfl, rfl⟩⟩⟩, 5 + 1, by omega, rfl, rfl, rfl⟩
          · exact ⟨.refl _, rfl, .refl _, rfl, .refl _, rfl, .refl _, rfl, .refl _, rfl, .refl _, rfl, trivial⟩
          · exact ⟨rfl, rfl, rfl, rfl, rfl, rfl, rfl, rfl, rfl, rfl, rfl, rfl, rfl, rfl, rfl, rfl, rfl, rfl, rfl, rfl, rfl, rfl, rfl, rfl, rfl, rfl, rfl, rfl, rfl, rfl, rfl, rfl, trivial⟩
    · conv => whnf
      refine drS 8 rfl ?_
      conv => whnf
      refine iv 9 (by decide) ?_
      conv => whnf
      refine ob ⟨by decide, rfl, by decide⟩ ?_
      conv => whnf
      refine iv 9 (by decide) ?_
      conv => whnf
      refine ob ⟨by decide, rfl, by decide⟩ ?_
      conv => whnf
      refine lp (fun n e H => ∃ d : Nat, d ≤ 6 ∧ n = 6 - d ∧ H = stF 6 ++ [rowO (loR 6 d), rowO (hiR 6 d)] ∧ e = [(11, .int .i64 (d + 1 : Nat)), (9, .sl 16 0 9), (10, .sl 17 0 9), (8, .int .i64 (6 : Nat)), (0, .int .i64 8), (1, .list false sh5 []), (2, .list false .leaf []), (7, .ptr 1 []), (6, .ptr 0 [])]) ?_ ?_
      · refine ⟨7, 6, _, _, by omega, ⟨_, .refl _, .inl ⟨?_, ?_⟩⟩, 0, by omega, rfl, rfl, rfl⟩
        · rfl
        · exact se0 rfl (se0 rfl (se0 rfl (se0 rfl (se0 rfl (se0 rfl (se0 rfl (se0 rfl (se0 rfl trivial))))))))
      · rintro n e H ⟨d, hd, rfl, rfl, rfl⟩
        have hdc : d = 0 ∨ d = 1 ∨ d = 2 ∨ d = 3 ∨ d = 4 ∨ d = 5 ∨ d = 6 := by omega
        rcases hdc with rfl | rfl | rfl | rfl | rfl | rfl | rfl
        · conv => whnf
          refine ob (by decide) ?_
          conv => whnf
          refine ob (by decide) ?_
          conv => whnf
          refine iv 6 (by decide) ?_
          conv => whnf
          refine ob (by decide) ?_
          refine iv 64 (by decide) ?_
          conv => whnf
          refine ob (by decide) ?_
          conv => whnf
          refine ob (by decide) ?_
          conv => whnf
          refine iv ((1 + 1 : Nat) : Int) (by decide) ?_
          conv => whnf
          refine ⟨6 - (0 + 1), _, _, by omega, ⟨_, .refl _, .inl ⟨?_, ?_⟩⟩, 0 + 1, by omega, rfl, rfl, rfl⟩
          · rfl
          · exact se0 rfl (se0 rfl (se0 rfl (se0 rfl (se0 rfl (se0 rfl (se0 rfl (se0 rfl (se0 rfl trivial))))))))
        · conv => whnf
          refine ob (by decide) ?_
          conv => whnf
          refine ob (by decide) ?_
          conv => whnf
          refine iv 6 (by decide) ?_
          conv => whnf
          refine ob (by decide) ?_
          refine iv 64 (by decide) ?_
          conv => whnf
          refine ob (by decide) ?_
          conv => whnf
          refine ob (by decide) ?_
          conv => whnf
          refine iv ((2 + 1 : Nat) : Int) (by decide) ?_
          conv => whnf
          refine ⟨6 - (1 + 1), _, _, by omega, ⟨_, .refl _, .inl ⟨?_, ?_⟩⟩, 1 + 1, by omega, rfl, rfl, rfl⟩
          · rfl
          · exact se0 rfl (se0 rfl (se0 rfl (se0 rfl (se0 rfl (se0 rfl (se0 rfl (se0 rfl (se0 rfl trivial))))))))
        · conv => whnf
          refine ob (by decide) ?_
          conv => whnf
          refine ob (by decide) ?_
          conv => whnf
          refine iv 6 (by decide) ?_
          conv => whnf
          refine ob (by decide) ?_
          refine iv 64 (by decide) ?_
          conv => whnf
          refine ob (by decide) ?_
          conv => whnf
          refine ob (by decide) ?_
          conv => whnf
          refine iv ((3 + 1 : Nat) : Int) (by decide) ?_
          conv => whnf
          refine ⟨6 - (2 + 1), _, _, by omega, ⟨_, .refl _, .inl ⟨?_, ?_⟩⟩, 2 + 1, by omega, rfl, rfl, rfl⟩
          · rfl
          · exact se0 rfl (se0 rfl (se0 rfl (se0 rfl (se0 rfl (se0 rfl (se0 rfl (se0 rfl (se0 rfl trivial))))))))
        · conv => whnf
          refine ob (by decide) ?_
          conv => whnf
          refine ob (by decide) ?_
          conv => whnf
          refine iv 6 (by decide) ?_
          conv => whnf
          refine ob (by decide) ?_
          refine iv 64 (by decide) ?_
          conv => whnf
          refine ob (by decide) ?_
          conv => whnf
          refine ob (by decide) ?_
          conv => whnf
          refine iv ((4 + 1 : Nat) : Int) (by decide) ?_
          conv => whnf
          refine ⟨6 - (3 + 1), _, _, by omega, ⟨_, .refl _, .inl ⟨?_, ?_⟩⟩, 3 + 1, by omega, rfl, rfl, rfl⟩
          · rfl
          · exact se0 rfl (se0 rfl (se0 rfl (se0 rfl (se0 rfl (se0 rfl (se0 rfl (se0 rfl (se0 rfl trivial))))))))
        · conv => whnf
          refine ob (by decide) ?_
          conv => whnf
          refine ob (by decide) ?_
          conv => whnf
          refine iv 6 (by decide) ?_
          conv => whnf
          refine ob (by decide) ?_
          refine iv 64 (by decide) ?_
          conv => whnf
          refine ob (by decide) ?_
          conv => whnf
          refine ob (by decide) ?_
          conv => whnf
          refine iv ((5 + 1 : Nat) : Int) (by decide) ?_
          conv => whnf
          refine ⟨6 - (4 + 1), _, _, by omega, ⟨_, .refl _, .inl ⟨?_, ?_⟩⟩, 4 + 1, by omega, rfl, rfl, rfl⟩
          · rfl
          · exact se0 rfl (se0 rfl (se0 rfl (se0 rfl (se0 rfl (se0 rfl (se0 rfl (se0 rfl (se0 rfl trivial))))))))
        · conv => whnf
          refine ob (by decide) ?_
          conv => whnf
          refine ob (by decide) ?_
          conv => whnf
          refine iv 6 (by decide) ?_
          conv => whnf
          refine ob (by decide) ?_
          refine iv 64 (by decide) ?_
          conv => whnf
          refine ob (by decide) ?_
          conv => whnf
          refine ob (by decide) ?_
          conv => whnf
          refine iv ((6 + 1 : Nat) : Int) (by decide) ?_
          conv => whnf
          refine ⟨6 - (5 + 1), _, _, by omega, ⟨_, .refl _, .inl ⟨?_, ?_⟩⟩, 5 + 1, by omega, rfl, rfl, rfl⟩
          · rfl
          · exact se0 rfl (se0 rfl (se0 rfl (se0 rfl (se0 rfl (se0 rfl (se0 rfl (se0 rfl (se0 rfl trivial))))))))
        · conv => whnf
          refine iv 6 (by decide) ?_
          conv => whnf
          refine ob (by decide) ?_
          refine iv 64 (by decide) ?_
          conv => whnf
          refine ob (by decide) ?_
          conv => whnf
          refine ob (by decide) ?_
          conv => whnf
          refine ob (by decide) ?_
          conv => whnf
          refine ob (by decide) ?_
          conv => whnf
          refine ob (by decide) ?_
          conv => whnf
          refine ob (by decide) ?_
          refine ob (by decide) ?_
          conv => whnf
          refine ob (by decide) ?_
          conv => whnf
          refine ob (by decide) ?_
          refine ob (by decide) ?_
          conv => whnf
          refine iv ((6 + 1 : Nat) : Int) (by decide) ?_
          conv => whnf
          refine ⟨9 - (6 + 1), _, _, by omega, ⟨_, .refl _, .inr ⟨[0, 1, 19, 21, 4, 5, 6, 7, 8, 9, 16, 10, 11, 12, 13, 14, 15, 17], ⟨?_, ?_, rfl, rfl⟩⟩⟩, 6 + 1, by omega, rfl, rfl, rfl⟩
          · exact ⟨.refl _, rfl, .refl _, rfl, .refl _, rfl, .refl _, rfl, .refl _, rfl, .refl _, rfl, trivial⟩
          · exact ⟨rfl, rfl, rfl, rfl, rfl, rfl, rfl, rfl, rfl, rfl, rfl, rfl, rfl, rfl, rfl, rfl, rfl, rfl, rfl, rfl, rfl, rfl, rfl, rfl, rfl, rfl, rfl, rfl, rfl, rfl, rfl, rfl, rfl, rfl, rfl, rfl, trivial⟩
    · conv => whnf
      refine drS 8 rfl ?_
      conv => whnf
      refine iv 9 (by decide) ?_
      conv => whnf
      refine ob ⟨by decide, rfl, by decide⟩ ?_
      conv => whnf
      refine iv 9 (by decide) ?_
      conv => whnf
      refine ob ⟨by decide, rfl, by decide⟩ ?_
      conv => whnf
      refine lp (fun n e H => ∃ d : Nat, d ≤ 7 ∧ n = 7 - d ∧ H = stF 7 ++ [rowO (loR 7 d), rowO (hiR 7 d)] ∧ e = [(11, .int .i64 (d + 1 : Nat)), (9, .sl 18 0 9), (10, .sl 19 0 9), (8, .int .i64 (7 : Nat)), (0, .int .i64 8), (1, .list false sh5 []), (2, .list false .leaf []), (7, .ptr 1 []), (6, .ptr 0 [])]) ?_ ?_
      · refine ⟨8, 7, _, _, by omega, ⟨_, .refl _, .inl ⟨?_, ?_⟩⟩, 0, by omega, rfl, rfl, rfl⟩
        · rfl
        · exact se0 rfl (se0 rfl (se0 rfl (se0 rfl (se0 rfl (se0 rfl (se0 rfl (se0 rfl (se0 rfl trivial))))))))
      · rintro n e H ⟨d, hd, rfl, rfl, rfl⟩
        have hdc : d = 0 ∨ d = 1 ∨ d = 2 ∨ d = 3 ∨ d = 4 ∨ d = 5 ∨ d = 6 ∨ d = 7 := by omega
        rcases hdc with rfl | rfl | rfl | rfl | rfl | rfl | rfl | rfl
        · conv => whnf
          refine ob (by decide) ?_
          conv => whnf
          refine ob (by decide) ?_
          conv => whnf
          refine iv 7 (by decide) ?_
          conv => whnf
          refine ob (by decide) ?_
          refine iv 128 (by decide) ?_
          conv => whnf
          refine ob (by decide) ?_
          conv => whnf
          refine ob (by decide) ?_
          conv => whnf
          refine iv ((1 + 1 : Nat) : Int) (by decide) ?_
          conv => whnf
          refine ⟨7 - (0 + 1), _, _, by omega, ⟨_, .refl _, .inl ⟨?_, ?_⟩⟩, 0 + 1, by omega, rfl, rfl, rfl⟩
          · rfl
          · exact se0 rfl (se0 rfl (se0 rfl (se0 rfl (se0 rfl (se0 rfl (se0 rfl (se0 rfl (se0 rfl trivial))))))))
        · conv => whnf
          refine ob (by decide) ?_
          conv => whnf
          refine ob (by decide) ?_
          conv => whnf
          refine iv 7 (by decide) ?_
          conv => whnf
          refine ob (by decide) ?_
          refine iv 128 (by decide) ?_
          conv => whnf
          refine ob (by decide) ?_
          conv => whnf
          refine ob (by decide) ?_
          conv => whnf
          refine iv ((2 + 1 : Nat) : Int) (by decide) ?_
          conv => whnf
          refine ⟨7 - (1 + 1), _, _, by omega, ⟨_, .refl _, .inl ⟨?_, ?_⟩⟩, 1 + 1, by omega, rfl, rfl, rfl⟩
          · rfl
          · exact se0 rfl (se0 rfl (se0 rfl (se0 rfl (se0 rfl (se0 rfl (se0 rfl (se0 rfl (se0 rfl trivial))))))))
        · conv => whnf
          refine ob (by decide) ?_
          conv => whnf
          refine ob (by decide) ?_
          conv => whnf
          refine iv 7 (by decide) ?_
          conv => whnf
          refine ob (by decide) ?_
          refine iv 128 (by decide) ?_
          conv => whnf
          refine ob (by decide) ?_
          conv => whnf
          refine ob (by decide) ?_
          conv => whnf
          refine iv ((3 + 1 : Nat) : Int) (by decide) ?_
          conv => whnf
          refine ⟨7 - (2 + 1), _, _, by omega, ⟨_, .refl _, .inl ⟨?_, ?_⟩⟩, 2 + 1, by omega, rfl, rfl, rfl⟩
          · rfl
          · exact se0 rfl (se0 rfl (se0 rfl (se0 rfl (se0 rfl (se0 rfl (se0 rfl (se0 rfl (se0 rfl trivial))))))))
        · conv => whnf
          refine ob (by decide) ?_
          conv => whnf
          refine ob (by decide) ?_
          conv => whnf
          refine iv 7 (by decide) ?_
          conv => whnf
          refine ob (by decide) ?_
          refine iv 128 (by decide) ?_
          conv => whnf
          refine ob (by decide) ?_
          conv => whnf
          refine ob (by decide) ?_
          conv => whnf
          refine iv ((4 + 1 : Nat) : Int) (by decide) ?_
          conv => whnf
          refine ⟨7 - (3 + 1), _, _, by omega, ⟨_, .refl _, .inl ⟨?_, ?_⟩⟩, 3 + 1, by omega, rfl, rfl, rfl⟩
          · rfl
          · exact se0 rfl (se0 rfl (se0 rfl (se0 rfl (se0 rfl (se0 rfl (se0 rfl (se0 rfl (se0 rfl trivial))))))))
        · conv => whnf
          refine ob (by decide) ?_
          conv => whnf
          refine ob (by decide) ?_
          conv => whnf
          refine iv 7 (by decide) ?_
          conv => whnf
          refine ob (by decide) ?_
          refine iv 128 (by decide) ?_
          conv => whnf
          refine ob (by decide) ?_
          conv => whnf
          refine ob (by decide) ?_
          conv => whnf
          refine iv ((5 + 1 : Nat) : Int) (by decide) ?_
          conv => whnf
          refine ⟨7 - (4 + 1), _, _, by omega, ⟨_, .refl _, .inl ⟨?_, ?_⟩⟩, 4 + 1, by omega, rfl, rfl, rfl⟩
          · rfl
          · exact se0 rfl (se0 rfl (se0 rfl (se0 rfl (se0 rfl (se0 rfl (se0 rfl (se0 rfl (se0 rfl trivial))))))))
        · conv => whnf
          refine ob (by decide) ?_
          conv => whnf
          refine ob (by decide) ?_
          conv => whnf
          refine iv 7 (by decide) ?_
          conv => whnf
          refine ob (by decide) ?_
          refine iv 128 (by decide) ?_
          conv => whnf
          refine ob (by decide) ?_
          conv => whnf
          refine ob (by decide) ?_
          conv => whnf
          refine iv ((6 + 1 : Nat) : Int) (by decide) ?_
          conv => whnf
          refine ⟨7 - (5 + 1), _, _, by omega, ⟨_, .refl _, .inl ⟨?_, ?_⟩⟩, 5 + 1, by omega, rfl, rfl, rfl⟩
          · rfl
          · exact se0 rfl (se0 rfl (se0 rfl (se0 rfl (se0 rfl (se0 rfl (se0 rfl (se0 rfl (se0 rfl trivial))))))))
        · conv => whnf
          refine ob (by decide) ?_
          conv => whnf
          refine ob (by decide) ?_
          conv => whnf
          refine iv 7 (by decide) ?_
          conv => whnf
          refine ob (by decide) ?_
          refine iv 128 (by decide) ?_
          conv => whnf
          refine ob (by decide) ?_
          conv => whnf
          refine ob (by decide) ?_
          conv => whnf
          refine iv ((7 + 1 : Nat) : Int) (by decide) ?_
          conv => whnf
          refine ⟨7 - (6 + 1), _, _, by omega, ⟨_, .refl _, .inl ⟨?_, ?_⟩⟩, 6 + 1, by omega, rfl, rfl, rfl⟩
          · rfl
          · exact se0 rfl (se0 rfl (se0 rfl (se0 rfl (se0 rfl (se0 rfl (se0 rfl (se0 rfl (se0 rfl trivial))))))))
        · conv => whnf
          refine iv 7 (by decide) ?_
          conv => whnf
          refine ob (by decide) ?_
          refine iv 128 (by decide) ?_
          conv => whnf
          refine ob (by decide) ?_
          conv => whnf
          refine ob (by decide) ?_
          conv => whnf
          refine ob (by decide) ?_
          conv => whnf
          refine ob (by decide) ?_
          conv => whnf
          refine ob (by decide) ?_
          conv => whnf
          refine ob (by decide) ?_
          refine ob (by decide) ?_
          conv => whnf
          refine ob (by decide) ?_
          conv => whnf
          refine ob (by decide) ?_
          refine ob (by decide) ?_
          conv => whnf
          refine iv ((7 + 1 : Nat) : Int) (by decide) ?_
          conv => whnf
          refine ⟨9 - (7 + 1), _, _, by omega, ⟨_, .refl _, .inr ⟨[0, 1, 21, 23, 4, 5, 6, 7, 8, 9, 10, 18, 11, 12, 13, 14, 15, 16, 17, 19], ⟨?_, ?_, rfl, rfl⟩⟩⟩, 7 + 1, by omega, rfl, rfl, rfl⟩
          · exact ⟨.refl _, rfl, .refl _, rfl, .refl _, rfl, .refl _, rfl, .refl _, rfl, .refl _, rfl, trivial⟩
          · exact ⟨rfl, rfl, rfl, rfl, rfl, rfl, rfl, rfl, rfl, rfl, rfl, rfl, rfl, rfl, rfl, rfl, rfl, rfl, rfl, rfl, rfl, rfl, rfl, rfl, rfl, rfl, rfl, rfl, rfl, rfl, rfl, rfl, rfl, rfl, rfl, rfl, rfl, rfl, rfl, rfl, trivial⟩
    · conv => whnf
      refine drS 8 rfl ?_
      conv => whnf
      refine iv 9 (by decide) ?_
      conv => whnf
      refine ob ⟨by decide, rfl, by decide⟩ ?_
      conv => whnf
      refine iv 9 (by decide) ?_
      conv => whnf
      refine ob ⟨by decide, rfl, by decide⟩ ?_
      conv => whnf
      refine lp (fun n e H => ∃ d : Nat, d ≤ 8 ∧ n = 8 - d ∧ H = stF 8 ++ [rowO (loR 8 d), rowO (hiR 8 d)] ∧ e = [(11, .int .i64 (d + 1 : Nat)), (9, .sl 20 0 9), (10, .sl 21 0 9), (8, .int .i64 (8 : Nat)), (0, .int .i64 8), (1, .list false sh5 []), (2, .list false .leaf []), (7, .ptr 1 []), (6, .ptr 0 [])]) ?_ ?_
      · refine ⟨9, 8, _, _, by omega, ⟨_, .refl _, .inl ⟨?_, ?_⟩⟩, 0, by omega, rfl, rfl, rfl⟩
        · rfl
        · exact se0 rfl (se0 rfl (se0 rfl (se0 rfl (se0 rfl (se0 rfl (se0 rfl (se0 rfl (se0 rfl trivial))))))))
      · rintro n e H ⟨d, hd, rfl, rfl, rfl⟩
        have hdc : d = 0 ∨ d = 1 ∨ d = 2 ∨ d = 3 ∨ d = 4 ∨ d = 5 ∨ d = 6 ∨ d = 7 ∨ d = 8 := by omega
        rcases hdc with rfl | rfl | rfl | rfl | rfl | rfl | rfl | rfl | rfl
        · conv => whnf
          refine ob (by decide) ?_
          conv => whnf
          refine ob (by decide) ?_
          conv => whnf
          refine iv 8 (by decide) ?_
          conv => whnf
          refine ob (by decide) ?_
          refine iv 256 (by decide) ?_
          conv => whnf
          refine ob (by decide) ?_
          conv => whnf
          refine ob (by decide) ?_
          conv => whnf
          refine iv ((1 + 1 : Nat) : Int) (by decide) ?_
          conv => whnf
          refine ⟨8 - (0 + 1), _, _, by omega, ⟨_, .refl _, .inl ⟨?_, ?_⟩⟩, 0 + 1, by omega, rfl, rfl, rfl⟩
          · rfl
          · exact se0 rfl (se0 rfl (se0 rfl (se0 rfl (se0 rfl (se0 rfl (se0 rfl (se0 rfl (se0 rfl trivial))))))))
        · conv => whnf
          refine ob (by decide) ?_
          conv => whnf
          refine ob (by decide) ?_
          conv => whnf
          refine iv 8 (by decide) ?_
          conv => whnf
          refine ob (by decide) ?_
          refine iv 256 (by decide) ?_
          conv => whnf
          refine ob (by decide) ?_
          conv => whnf
          refine ob (by decide) ?_
          conv => whnf
          refine iv ((2 + 1 : Nat) : Int) (by decide) ?_
          conv => whnf
          refine ⟨8 - (1 + 1), _, _, by omega, ⟨_, .refl _, .inl ⟨?_, ?_⟩⟩, 1 + 1, by omega, rfl, rfl, rfl⟩
          · rfl
          · exact se0 rfl (se0 rfl (se0 rfl (se0 rfl (se0 rfl (se0 rfl (se0 rfl (se0 rfl (se0 rfl trivial))))))))
        · conv => whnf
          refine ob (by decide) ?_
          conv => whnf
          refine ob (by decide) ?_
          conv => whnf
          refine iv 8 (by decide) ?_
          conv => whnf
          refine ob (by decide) ?_
          refine iv 256 (by decide) ?_
          conv => whnf
          refine ob (by decide) ?_
          conv => whnf
          refine ob (by decide) ?_
          conv => whnf
          refine iv ((3 + 1 : Nat) : Int) (by decide) ?_
          conv => whnf
          refine ⟨8 - (2 + 1), _, _, by omega, ⟨_, .refl _, .inl ⟨?_, ?_⟩⟩, 2 + 1, by omega, rfl, rfl, rfl⟩
          · rfl
          · exact se0 rfl (se0 rfl (se0 rfl (se0 rfl (se0 rfl (se0 rfl (se0 rfl (se0 rfl (se0 rfl trivial))))))))
        · conv => whnf
          refine ob (by decide) ?_
          conv => whnf
          refine ob (by decide) ?_
          conv => whnf
          refine iv 8 (by decide) ?_
          conv => whnf
          refine ob (by decide) ?_
          refine iv 256 (by decide) ?_
          conv => whnf
          refine ob (by decide) ?_
          conv => whnf
          refine ob (by decide) ?_
          conv => whnf
          refine iv ((4 + 1 : Nat) : Int) (by decide) ?_
          conv => whnf
          refine ⟨8 - (3 + 1), _, _, by omega, ⟨_, .refl _, .inl ⟨?_, ?_⟩⟩, 3 + 1, by omega, rfl, rfl, rfl⟩
          · rfl
          · exact se0 rfl (se0 rfl (se0 rfl (se0 rfl (se0 rfl (se0 rfl (se0 rfl (se0 rfl (se0 rfl trivial))))))))
        · conv => whnf
          refine ob (by decide) ?_
          conv => whnf
          refine ob (by decide) ?_
          conv => whnf
          refine iv 8 (by decide) ?_
          conv => whnf
          refine ob (by decide) ?_
          refine iv 256 (by decide) ?_
          conv => whnf
          refine ob (by decide) ?_
          conv => whnf
          refine ob (by decide) ?_
          conv => whnf
          refine iv ((5 + 1 : Nat) : Int) (by decide) ?_
          conv => whnf
          refine ⟨8 - (4 + 1), _, _, by omega, ⟨_, .refl _, .inl ⟨?_, ?_⟩⟩, 4 + 1, by omega, rfl, rfl, rfl⟩
          · rfl
          · exact se0 rfl (se0 rfl (se0 rfl (se0 rfl (se0 rfl (se0 rfl (se0 rfl (se0 rfl (se0 rfl trivial))))))))
        · conv => whnf
          refine ob (by decide) ?_
          conv => whnf
          refine ob (by decide) ?_
          conv => whnf
          refine iv 8 (by decide) ?_
          conv => whnf
          refine ob (by decide) ?_
          refine iv 256 (by decide) ?_
          conv => whnf
          refine ob (by decide) ?_
          conv => whnf
          refine ob (by decide) ?_
          conv => whnf
          refine iv ((6 + 1 : Nat) : Int) (by decide) ?_
          conv => whnf
          refine ⟨8 - (5 + 1), _, _, by omega, ⟨_, .refl _, .inl ⟨?_, ?_⟩⟩, 5 + 1, by omega, rfl, rfl, rfl⟩
          · rfl
          · exact se0 rfl (se0 rfl (se0 rfl (se0 rfl (se0 rfl (se0 rfl (se0 rfl (se0 rfl (se0 rfl trivial))))))))
        · conv => whnf
          refine ob (by decide) ?_
          conv => whnf
          refine ob (by decide) ?_
          conv => whnf
          refine iv 8 (by decide) ?_
          conv => whnf
          refine ob (by decide) ?_
          refine iv 256 (by decide) ?_
          conv => whnf
          refine ob (by decide) ?_
          conv => whnf
          refine ob (by decide) ?_
          conv => whnf
          refine iv ((7 + 1 : Nat) : Int) (by decide) ?_
          conv => whnf
          refine ⟨8 - (6 + 1), _, _, by omega, ⟨_, .refl _, .inl ⟨?_, ?_⟩⟩, 6 + 1, by omega, rfl, rfl, rfl⟩
          · rfl
          · exact se0 rfl (se0 rfl (se0 rfl (se0 rfl (se0 rfl (se0 rfl (se0 rfl (se0 rfl (se0 rfl trivial))))))))
        · conv => whnf
          refine ob (by decide) ?_
          conv => whnf
          refine ob (by decide) ?_
          conv => whnf
          refine iv 8 (by decide) ?_
          conv => whnf
          refine ob (by decide) ?_
          refine iv 256 (by decide) ?_
          conv => whnf
          refine ob (by decide) ?_
          conv => whnf
          refine ob (by decide) ?_
          conv => whnf
          refine iv ((8 + 1 : Nat) : Int) (by decide) ?_
          conv => whnf
          refine ⟨8 - (7 + 1), _, _, by omega, ⟨_, .refl _, .inl ⟨?_, ?_⟩⟩, 7 + 1, by omega, rfl, rfl, rfl⟩
          · rfl
          · exact se0 rfl (se0 rfl (se0 rfl (se0 rfl (se0 rfl (se0 rfl (se0 rfl (se0 rfl (se0 rfl trivial))))))))
        · conv => whnf
          refine iv 8 (by decide) ?_
          conv => whnf
          refine ob (by decide) ?_
          refine iv 256 (by decide) ?_
          conv => whnf
          refine ob (by decide) ?_
          conv => whnf
          refine ob (by decide) ?_
          conv => whnf
          refine ob (by decide) ?_
          conv => whnf
          refine ob (by decide) ?_
          conv => whnf
          refine ob (by decide) ?_
          conv => whnf
          refine ob (by decide) ?_
          refine ob (by decide) ?_
          conv => whnf
          refine ob (by decide) ?_
          conv => whnf
          refine ob (by decide) ?_
          refine ob (by decide) ?_
          conv => whnf
          refine iv ((8 + 1 : Nat) : Int) (by decide) ?_
          conv => whnf
          refine ⟨9 - (8 + 1), _, _, by omega, ⟨_, .refl _, .inr ⟨[0, 1, 23, 25, 4, 5, 6, 7, 8, 9, 10, 11, 20, 12, 13, 14, 15, 16, 17, 18, 19, 21], ⟨?_, ?_, rfl, rfl⟩⟩⟩, 8 + 1, by omega, rfl, rfl, rfl⟩
          · exact ⟨.refl _, rfl, .refl _, rfl, .refl _, rfl, .refl _, rfl, .refl _, rfl, .refl _, rfl, trivial⟩
          · exact ⟨rfl, rfl, rfl, rfl, rfl, rfl, rfl, rfl, rfl, rfl, rfl, rfl, rfl, rfl, rfl, rfl, rfl, rfl, rfl, rfl, rfl, rfl, rfl, rfl, rfl, rfl, rfl, rfl, rfl, rfl, rfl, rfl, rfl, rfl, rfl, rfl, rfl, rfl, rfl, rfl, rfl, rfl, rfl, rfl, trivial⟩
    · conv => whnf
      refine lp (fun n e H => H = stF 9 ∧ e = [(12, .int .i64 0), (1, .list false sh5 []), (7, .ptr 1 []), (6, .ptr 0 [])]) ?_ ?_
      · refine ⟨1, back 0 _ (by omega) ?_ ⟨rfl, rfl⟩⟩
        exact se0 rfl (se0 rfl (se0 rfl (se0 rfl trivial)))
      · rintro n e H ⟨rfl, rfl⟩
        conv => whnf
        exact ⟨rfl, rfl⟩

end Go.Proofs.Ythplmnpfaagciaa.Pw

/- Whole, at n = 8 without known bounds. -/
set_option linter.unusedVariables false
set_option linter.unusedSimpArgs false
namespace Go.Proofs.Ythplmnpfaagciaa.Pw
open Go

def unch (t : Tb) (m d : Nat) : Prop := againLo 8 t m d = gt2 t.lo m d ∧ againHi 8 t m d = gt2 t.hi m d
def updT (t : Tb) (m d : Nat) : Tb := ⟨t.lo.set m ((t.lo.getD m []).set d (againLo 8 t m d)), t.hi.set m ((t.hi.getD m []).set d (againHi 8 t m d))⟩
theorem rect9 {l : List (List Int)} (h : Rect 8 l) : ∃ A0 A1 A2 A3 A4 A5 A6 A7 A8, l = [A0, A1, A2, A3, A4, A5, A6, A7, A8] ∧ A0.length = 9 ∧ A1.length = 9 ∧ A2.length = 9 ∧ A3.length = 9 ∧ A4.length = 9 ∧ A5.length = 9 ∧ A6.length = 9 ∧ A7.length = 9 ∧ A8.length = 9 := by
  obtain ⟨h1, h2⟩ := h
  match l, h1 with
  | [a0, a1, a2, a3, a4, a5, a6, a7, a8], _ =>
    have f : ∀ r, r ∈ [a0, a1, a2, a3, a4, a5, a6, a7, a8] → r.length = 9 := fun r hr => by have := h2 r hr; omega
    exact ⟨a0, a1, a2, a3, a4, a5, a6, a7, a8, rfl, f _ (by simp), f _ (by simp), f _ (by simp), f _ (by simp), f _ (by simp), f _ (by simp), f _ (by simp), f _ (by simp), f _ (by simp)⟩
  | [], h => simp at h
  | [_], h => simp at h
  | [_, _], h => simp at h
  | [_, _, _], h => simp at h
  | [_, _, _, _], h => simp at h
  | [_, _, _, _, _], h => simp at h
  | [_, _, _, _, _, _], h => simp at h
  | [_, _, _, _, _, _, _], h => simp at h
  | [_, _, _, _, _, _, _, _], h => simp at h
  | _ :: _ :: _ :: _ :: _ :: _ :: _ :: _ :: _ :: _ :: _, h => simp at h; omega
theorem set_getD {l : List Int} {d : Nat} : l.set d (l.getD d 0) = l := by
  by_cases h : d < l.length
  · refine set_same ?_
    simp [List.getD, List.getElem?_eq_getElem h]
  · rw [List.set_eq_of_length_le (by omega)]
theorem set_getD2 {l : List (List Int)} {m d : Nat} : l.set m ((l.getD m []).set d ((l.getD m []).getD d 0)) = l := by
  rw [set_getD]
  by_cases h : m < l.length
  · refine set_same ?_
    simp [List.getD, List.getElem?_eq_getElem h]
  · rw [List.set_eq_of_length_le (by omega)]
theorem updT_same {t : Tb} {m d : Nat} (h : unch t m d) : updT t m d = t := by
  obtain ⟨h1, h2⟩ := h
  unfold updT
  rw [h1, h2]
  unfold gt2
  simp only [Int.toNat_natCast]
  rw [set_getD2, set_getD2]
theorem leFrz {H : List Ob} {g : Nat} {r : List Int} (h : H.getD g .dead = .frz .leaf (r.map (.int .i64))) (hl : r.length = 9) : LeD H (rowD r) (.sl g 0 9) := by
  have := LeD.frz (H := H) g 0 9 .leaf (r.map (.int .i64)) h (by simp [hl])
  rw [show ((r.map (D.int .i64)).drop 0).take 9 = r.map (.int .i64) from by rw [List.drop_zero, List.take_of_length_le (by simp [hl])]] at this
  exact this
theorem cl_rows : ∀ l : List (List Int), clDs (l.map rowD) = true
  | [] => rfl
  | r :: l => by
    show cond (clD (rowD r)) (clDs (l.map rowD)) false = true
    rw [cl_rows l]; rfl
theorem subRow {ρ : List Nat} {n : Nat} {H H2 : List Ob} {gs : List Nat} {r : List Int} {g : Nat} (h : H.getD g .dead = rowO r) (t : SubH ρ n H H2 gs) : SubH ρ n H (rowO r :: H2) (g :: gs) :=
  ⟨by rw [h]; simp [rowO, renO, ren_cls _ _ (cl_ints _)], by simp [rowO, inO, in_cls _ _ (cl_ints _)], t⟩
theorem Frz.step' {H H2 H' : List Ob} (g : Nat) (sh : Sh) (ds : List D) (h : H.getD g .dead = .row sh ds) (hc : clDs ds = true) (e : H.set g (.frz sh ds) = H2) (r : Frz H2 H') : Frz H H' := by
  subst e; exact Frz.step g sh ds h hc r
theorem Frz.row' {H H2 H' : List Ob} (g : Nat) (sh : Sh) (ds es : List D) (h : H.getD g .dead = .row sh es) (hl : LeDs H ds es) (hs : shapes ds = shapes es) (ho : okDs ds = true) (e : H.set g (.row sh ds) = H2) (r : Frz H2 H') : Frz H H' := by
  subst e; exact Frz.row g sh ds es h hl hs ho r
/-- A table may be frozen, whole. -/
theorem frzW (d0 : D) (A0 A1 A2 A3 A4 A5 A6 A7 A8 B0 B1 B2 B3 B4 B5 B6 B7 B8 : List Int) (ha0 : A0.length = 9) (ha1 : A1.length = 9) (ha2 : A2.length = 9) (ha3 : A3.length = 9) (ha4 : A4.length = 9) (ha5 : A5.length = 9) (ha6 : A6.length = 9) (ha7 : A7.length = 9) (ha8 : A8.length = 9) (hb0 : B0.length = 9) (hb1 : B1.length = 9) (hb2 : B2.length = 9) (hb3 : B3.length = 9) (hb4 : B4.length = 9) (hb5 : B5.length = 9) (hb6 : B6.length = 9) (hb7 : B7.length = 9) (hb8 : B8.length = 9) (X : List Ob) :
    ∃ H1, Frz (stW d0 ⟨[A0, A1, A2, A3, A4, A5, A6, A7, A8], [B0, B1, B2, B3, B4, B5, B6, B7, B8]⟩ ++ X) H1 ∧ LeD H1 (rowsD [A0, A1, A2, A3, A4, A5, A6, A7, A8]) (.sl 2 0 9) ∧ LeD H1 (rowsD [B0, B1, B2, B3, B4, B5, B6, B7, B8]) (.sl 3 0 9) := by
  refine ⟨[.var d0, .var (.agg [.sl 2 0 9, .sl 3 0 9]), .frz .leaf ([A0, A1, A2, A3, A4, A5, A6, A7, A8].map rowD), .frz .leaf ([B0, B1, B2, B3, B4, B5, B6, B7, B8].map rowD), .frz .leaf (A0.map (.int .i64)), .frz .leaf (A1.map (.int .i64)), .frz .leaf (A2.map (.int .i64)), .frz .leaf (A3.map (.int .i64)), .frz .leaf (A4.map (.int .i64)), .frz .leaf (A5.map (.int .i64)), .frz .leaf (A6.map (.int .i64)), .frz .leaf (A7.map (.int .i64)), .frz .leaf (A8.map (.int .i64)), .frz .leaf (B0.map (.int .i64)), .frz .leaf (B1.map (.int .i64)), .frz .leaf (B2.map (.int .i64)), .frz .leaf (B3.map (.int .i64)), .frz .leaf (B4.map (.int .i64)), .frz .leaf (B5.map (.int .i64)), .frz .leaf (B6.map (.int .i64)), .frz .leaf (B7.map (.int .i64)), .frz .leaf (B8.map (.int .i64))] ++ X, ?_, ?_, ?_⟩
  · refine Frz.step' (H2 := [.var d0, .var (.agg [.sl 2 0 9, .sl 3 0 9]), .row .leaf (refsD 4 9), .row .leaf (refsD 13 9), .frz .leaf (A0.map (.int .i64)), rowO A1, rowO A2, rowO A3, rowO A4, rowO A5, rowO A6, rowO A7, rowO A8, rowO B0, rowO B1, rowO B2, rowO B3, rowO B4, rowO B5, rowO B6, rowO B7, rowO B8] ++ X) 4 .leaf (A0.map (.int .i64)) rfl (cl_ints _) rfl ?_
    refine Frz.step' (H2 := [.var d0, .var (.agg [.sl 2 0 9, .sl 3 0 9]), .row .leaf (refsD 4 9), .row .leaf (refsD 13 9), .frz .leaf (A0.map (.int .i64)), .frz .leaf (A1.map (.int .i64)), rowO A2, rowO A3, rowO A4, rowO A5, rowO A6, rowO A7, rowO A8, rowO B0, rowO B1, rowO B2, rowO B3, rowO B4, rowO B5, rowO B6, rowO B7, rowO B8] ++ X) 5 .leaf (A1.map (.int .i64)) rfl (cl_ints _) rfl ?_
    refine Frz.step' (H2 := [.var d0, .var (.agg [.sl 2 0 9, .sl 3 0 9]), .row .leaf (refsD 4 9), .row .leaf (refsD 13 9), .frz .leaf (A0.map (.int .i64)), .frz .leaf (A1.map (.int .i64)), .frz .leaf (A2.map (.int .i64)), rowO A3, rowO A4, rowO A5, rowO A6, rowO A7, rowO A8, rowO B0, rowO B1, rowO B2, rowO B3, rowO B4, rowO B5, rowO B6, rowO B7, rowO B8] ++ X) 6 .leaf (A2.map (.int .i64)) rfl (cl_ints _) rfl ?_
    refine Frz.step' (H2 := [.var d0, .var (.agg [.sl 2 0 9, .sl 3 0 9]), .row .leaf (refsD 4 9), .row .leaf (refsD 13 9), .frz .leaf (A0.map (.int .i64)), .frz .leaf (A1.map (.int .i64)), .frz .leaf (A2.map (.int .i64)), .frz .leaf (A3.map (.int .i64)), rowO A4, rowO A5, rowO A6, rowO A7, rowO A8, rowO B0, rowO B1, rowO B2, rowO B3, rowO B4, rowO B5, rowO B6, rowO B7, rowO B8] ++ X) 7 .leaf (A3.map (.int .i64)) rfl (cl_ints _) rfl ?_
    refine Frz.step' (H2 := [.var d0, .var (.agg [.sl 2 0 9, .sl 3 0 9]), .row .leaf (refsD 4 9), .row .leaf (refsD 13 9), .frz .leaf (A0.map (.int .i64)), .frz .leaf (A1.map (.int .i64)), .frz .leaf (A2.map (.int .i64)), .frz .leaf (A3.map (.int .i64)), .frz .leaf (A4.map (.int .i64)), rowO A5, rowO A6, rowO A7, rowO A8, rowO B0, rowO B1, rowO B2, rowO B3, rowO B4, rowO B5, rowO B6, rowO B7, rowO B8] ++ X) 8 .leaf (A4.map (.int .i64)) rfl (cl_ints _) rfl ?_
    refine Frz.step' (H2 := [.var d0, .var (.agg [.sl 2 0 9, .sl 3 0 9]), .row .leaf (refsD 4 9), .row .leaf (refsD 13 9), .frz .leaf (A0.map (.int .i64)), .frz .leaf (A1.map (.int .i64)), .frz .leaf (A2.map (.int .i64)), .frz .leaf (A3.map (.int .i64)), .frz .leaf (A4.map (.int .i64)), .frz .leaf (A5.map (.int .i64)), rowO A6, rowO A7, rowO A8, rowO B0, rowO B1, rowO B2, rowO B3, rowO B4, rowO B5, rowO B6, rowO B7, rowO B8] ++ X) 9 .leaf (A5.map (.int .i64)) rfl (cl_ints _) rfl ?_
    refine Frz.step' (H2 := [.var d0, .var (.agg [.sl 2 0 9, .sl 3 0 9]), .row .leaf (refsD 4 9), .row .leaf (refsD 13 9), .frz .leaf (A0.map (.int .i64)), .frz .leaf (A1.map (.int .i64)), .frz .leaf (A2.map (.int .i64)), .frz .leaf (A3.map (.int .i64)), .frz .leaf (A4.map (.int .i64)), .frz .leaf (A5.map (.int .i64)), .frz .leaf (A6.map (.int .i64)), rowO A7, rowO A8, rowO B0, rowO B1, rowO B2, rowO B3, rowO B4, rowO B5, rowO B6, rowO B7, rowO B8] ++ X) 10 .leaf (A6.map (.int .i64)) rfl (cl_ints _) rfl ?_
    refine Frz.step' (H2 := [.var d0, .var (.agg [.sl 2 0 9, .sl 3 0 9]), .row .leaf (refsD 4 9), .row .leaf (refsD 13 9), .frz .leaf (A0.map (.int .i64)), .frz .leaf (A1.map (.int .i64)), .frz .leaf (A2.map (.int .i64)), .frz .leaf (A3.map (.int .i64)), .frz .leaf (A4.map (.int .i64)), .frz .leaf (A5.map (.int .i64)), .frz .leaf (A6.map (.int .i64)), .frz .leaf (A7.map (.int .i64)), rowO A8, rowO B0, rowO B1, rowO B2, rowO B3, rowO B4, rowO B5, rowO B6, rowO B7, rowO B8] ++ X) 11 .leaf (A7.map (.int .i64)) rfl (cl_ints _) rfl ?_
    refine Frz.step' (H2 := [.var d0, .var (.agg [.sl 2 0 9, .sl 3 0 9]), .row .leaf (refsD 4 9), .row .leaf (refsD 13 9), .frz .leaf (A0.map (.int .i64)), .frz .leaf (A1.map (.int .i64)), .frz .leaf (A2.map (.int .i64)), .frz .leaf (A3.map (.int .i64)), .frz .leaf (A4.map (.int .i64)), .frz .leaf (A5.map (.int .i64)), .frz .leaf (A6.map (.int .i64)), .frz .leaf (A7.map (.int .i64)), .frz .leaf (A8.map (.int .i64)), rowO B0, rowO B1, rowO B2, rowO B3, rowO B4, rowO B5, rowO B6, rowO B7, rowO B8] ++ X) 12 .leaf (A8.map (.int .i64)) rfl (cl_ints _) rfl ?_
    refine Frz.step' (H2 := [.var d0, .var (.agg [.sl 2 0 9, .sl 3 0 9]), .row .leaf (refsD 4 9), .row .leaf (refsD 13 9), .frz .leaf (A0.map (.int .i64)), .frz .leaf (A1.map (.int .i64)), .frz .leaf (A2.map (.int .i64)), .frz .leaf (A3.map (.int .i64)), .frz .leaf (A4.map (.int .i64)), .frz .leaf (A5.map (.int .i64)), .frz .leaf (A6.map (.int .i64)), .frz .leaf (A7.map (.int .i64)), .frz .leaf (A8.map (.int .i64)), .frz .leaf (B0.map (.int .i64)), rowO B1, rowO B2, rowO B3, rowO B4, rowO B5, rowO B6, rowO B7, rowO B8] ++ X) 13 .leaf (B0.map (.int .i64)) rfl (cl_ints _) rfl ?_
    refine Frz.step' (H2 := [.var d0, .var (.agg [.sl 2 0 9, .sl 3 0 9]), .row .leaf (refsD 4 9), .row .leaf (refsD 13 9), .frz .leaf (A0.map (.int .i64)), .frz .leaf (A1.map (.int .i64)), .frz .leaf (A2.map (.int .i64)), .frz .leaf (A3.map (.int .i64)), .frz .leaf (A4.map (.int .i64)), .frz .leaf (A5.map (.int .i64)), .frz .leaf (A6.map (.int .i64)), .frz .leaf (A7.map (.int .i64)), .frz .leaf (A8.map (.int .i64)), .frz .leaf (B0.map (.int .i64)), .frz .leaf (B1.map (.int .i64)), rowO B2, rowO B3, rowO B4, rowO B5, rowO B6, rowO B7, rowO B8] ++ X) 14 .leaf (B1.map (.int .i64)) rfl (cl_ints _) rfl ?_
    refine Frz.step' (H2 := [.var d0, .var (.agg [.sl 2 0 9, .sl 3 0 9]), .row .leaf (refsD 4 9), .row .leaf (refsD 13 9), .frz .leaf (A0.map (.int .i64)), .frz .leaf (A1.map (.int .i64)), .frz .leaf (A2.map (.int .i64)), .frz .leaf (A3.map (.int .i64)), .frz .leaf (A4.map (.int .i64)), .frz .leaf (A5.map (.int .i64)), .frz .leaf (A6.map (.int .i64)), .frz .leaf (A7.map (.int .i64)), .frz .leaf (A8.map (.int .i64)), .frz .leaf (B0.map (.int .i64)), .frz .leaf (B1.map (.int .i64)), .frz .leaf (B2.map (.int .i64)), rowO B3, rowO B4, rowO B5, rowO B6, rowO B7, rowO B8] ++ X) 15 .leaf (B2.map (.int .i64)) rfl (cl_ints _) rfl ?_
    refine Frz.step' (H2 := [.var d0, .var (.agg [.sl 2 0 9, .sl 3 0 9]), .row .leaf (refsD 4 9), .row .leaf (refsD 13 9), .frz .leaf (A0.map (.int .i64)), .frz .leaf (A1.map (.int .i64)), .frz .leaf (A2.map (.int .i64)), .frz .leaf (A3.map (.int .i64)), .frz .leaf (A4.map (.int .i64)), .frz .leaf (A5.map (.int .i64)), .frz .leaf (A6.map (.int .i64)), .frz .leaf (A7.map (.int .i64)), .frz .leaf (A8.map (.int .i64)), .frz .leaf (B0.map (.int .i64)), .frz .leaf (B1.map (.int .i64)), .frz .leaf (B2.map (.int .i64)), .frz .leaf (B3.map (.int .i64)), rowO B4, rowO B5, rowO B6, rowO B7, rowO B8] ++ X) 16 .leaf (B3.map (.int .i64)) rfl (cl_ints _) rfl ?_
    refine Frz.step' (H2 := [.var d0, .var (.agg [.sl 2 0 9, .sl 3 0 9]), .row .leaf (refsD 4 9), .row .leaf (refsD 13 9), .frz .leaf (A0.map (.int .i64)), .frz .leaf (A1.map (.int .i64)), .frz .leaf (A2.map (.int .i64)), .frz .leaf (A3.map (.int .i64)), .frz .leaf (A4.map (.int .i64)), .frz .leaf (A5.map (.int .i64)), .frz .leaf (A6.map (.int .i64)), .frz .leaf (A7.map (.int .i64)), .frz .leaf (A8.map (.int .i64)), .frz .leaf (B0.map (.int .i64)), .frz .leaf (B1.map (.int .i64)), .frz .leaf (B2.map (.int .i64)), .frz .leaf (B3.map (.int .i64)), .frz .leaf (B4.map (.int .i64)), rowO B5, rowO B6, rowO B7, rowO B8] ++ X) 17 .leaf (B4.map (.int .i64)) rfl (cl_ints _) rfl ?_
    refine Frz.step' (H2 := [.var d0, .var (.agg [.sl 2 0 9, .sl 3 0 9]), .row .leaf (refsD 4 9), .row .leaf (refsD 13 9), .frz .leaf (A0.map (.int .i64)), .frz .leaf (A1.map (.int .i64)), .frz .leaf (A2.map (.int .i64)), .frz .leaf (A3.map (.int .i64)), .frz .leaf (A4.map (.int .i64)), .frz .leaf (A5.map (.int .i64)), .frz .leaf (A6.map (.int .i64)), .frz .leaf (A7.map (.int .i64)), .frz .leaf (A8.map (.int .i64)), .frz .leaf (B0.map (.int .i64)), .frz .leaf (B1.map (.int .i64)), .frz .leaf (B2.map (.int .i64)), .frz .leaf (B3.map (.int .i64)), .frz .leaf (B4.map (.int .i64)), .frz .leaf (B5.map (.int .i64)), rowO B6, rowO B7, rowO B8] ++ X) 18 .leaf (B5.map (.int .i64)) rfl (cl_ints _) rfl ?_
    refine Frz.step' (H2 := [.var d0, .var (.agg [.sl 2 0 9, .sl 3 0 9]), .row .leaf (refsD 4 9), .row .leaf (refsD 13 9), .frz .leaf (A0.map (.int .i64)), .frz .leaf (A1.map (.int .i64)), .frz .leaf (A2.map (.int .i64)), .frz .leaf (A3.map (.int .i64)), .frz .leaf (A4.map (.int .i64)), .frz .leaf (A5.map (.int .i64)), .frz .leaf (A6.map (.int .i64)), .frz .leaf (A7.map (.int .i64)), .frz .leaf (A8.map (.int .i64)), .frz .leaf (B0.map (.int .i64)), .frz .leaf (B1.map (.int .i64)), .frz .leaf (B2.map (.int .i64)), .frz .leaf (B3.map (.int .i64)), .frz .leaf (B4.map (.int .i64)), .frz .leaf (B5.map (.int .i64)), .frz .leaf (B6.map (.int .i64)), rowO B7, rowO B8] ++ X) 19 .leaf (B6.map (.int .i64)) rfl (cl_ints _) rfl ?_
    refine Frz.step' (H2 := [.var d0, .var (.agg [.sl 2 0 9, .sl 3 0 9]), .row .leaf (refsD 4 9), .row .leaf (refsD 13 9), .frz .leaf (A0.map (.int .i64)), .frz .leaf (A1.map (.int .i64)), .frz .leaf (A2.map (.int .i64)), .frz .leaf (A3.map (.int .i64)), .frz .leaf (A4.map (.int .i64)), .frz .leaf (A5.map (.int .i64)), .frz .leaf (A6.map (.int .i64)), .frz .leaf (A7.map (.int .i64)), .frz .leaf (A8.map (.int .i64)), .frz .leaf (B0.map (.int .i64)), .frz .leaf (B1.map (.int .i64)), .frz .leaf (B2.map (.int .i64)), .frz .leaf (B3.map (.int .i64)), .frz .leaf (B4.map (.int .i64)), .frz .leaf (B5.map (.int .i64)), .frz .leaf (B6.map (.int .i64)), .frz .leaf (B7.map (.int .i64)), rowO B8] ++ X) 20 .leaf (B7.map (.int .i64)) rfl (cl_ints _) rfl ?_
    refine Frz.step' (H2 := [.var d0, .var (.agg [.sl 2 0 9, .sl 3 0 9]), .row .leaf (refsD 4 9), .row .leaf (refsD 13 9), .frz .leaf (A0.map (.int .i64)), .frz .leaf (A1.map (.int .i64)), .frz .leaf (A2.map (.int .i64)), .frz .leaf (A3.map (.int .i64)), .frz .leaf (A4.map (.int .i64)), .frz .leaf (A5.map (.int .i64)), .frz .leaf (A6.map (.int .i64)), .frz .leaf (A7.map (.int .i64)), .frz .leaf (A8.map (.int .i64)), .frz .leaf (B0.map (.int .i64)), .frz .leaf (B1.map (.int .i64)), .frz .leaf (B2.map (.int .i64)), .frz .leaf (B3.map (.int .i64)), .frz .leaf (B4.map (.int .i64)), .frz .leaf (B5.map (.int .i64)), .frz .leaf (B6.map (.int .i64)), .frz .leaf (B7.map (.int .i64)), .frz .leaf (B8.map (.int .i64))] ++ X) 21 .leaf (B8.map (.int .i64)) rfl (cl_ints _) rfl ?_
    refine Frz.row' (H2 := [.var d0, .var (.agg [.sl 2 0 9, .sl 3 0 9]), .row .leaf ([A0, A1, A2, A3, A4, A5, A6, A7, A8].map rowD), .row .leaf (refsD 13 9), .frz .leaf (A0.map (.int .i64)), .frz .leaf (A1.map (.int .i64)), .frz .leaf (A2.map (.int .i64)), .frz .leaf (A3.map (.int .i64)), .frz .leaf (A4.map (.int .i64)), .frz .leaf (A5.map (.int .i64)), .frz .leaf (A6.map (.int .i64)), .frz .leaf (A7.map (.int .i64)), .frz .leaf (A8.map (.int .i64)), .frz .leaf (B0.map (.int .i64)), .frz .leaf (B1.map (.int .i64)), .frz .leaf (B2.map (.int .i64)), .frz .leaf (B3.map (.int .i64)), .frz .leaf (B4.map (.int .i64)), .frz .leaf (B5.map (.int .i64)), .frz .leaf (B6.map (.int .i64)), .frz .leaf (B7.map (.int .i64)), .frz .leaf (B8.map (.int .i64))] ++ X) 2 .leaf ([A0, A1, A2, A3, A4, A5, A6, A7, A8].map rowD) (refsD 4 9) rfl (.cons _ _ _ _ (leFrz (g := 4) rfl ha0) (.cons _ _ _ _ (leFrz (g := 5) rfl ha1) (.cons _ _ _ _ (leFrz (g := 6) rfl ha2) (.cons _ _ _ _ (leFrz (g := 7) rfl ha3) (.cons _ _ _ _ (leFrz (g := 8) rfl ha4) (.cons _ _ _ _ (leFrz (g := 9) rfl ha5) (.cons _ _ _ _ (leFrz (g := 10) rfl ha6) (.cons _ _ _ _ (leFrz (g := 11) rfl ha7) (.cons _ _ _ _ (leFrz (g := 12) rfl ha8) .nil))))))))) rfl rfl rfl ?_
    refine Frz.step' (H2 := [.var d0, .var (.agg [.sl 2 0 9, .sl 3 0 9]), .frz .leaf ([A0, A1, A2, A3, A4, A5, A6, A7, A8].map rowD), .row .leaf (refsD 13 9), .frz .leaf (A0.map (.int .i64)), .frz .leaf (A1.map (.int .i64)), .frz .leaf (A2.map (.int .i64)), .frz .leaf (A3.map (.int .i64)), .frz .leaf (A4.map (.int .i64)), .frz .leaf (A5.map (.int .i64)), .frz .leaf (A6.map (.int .i64)), .frz .leaf (A7.map (.int .i64)), .frz .leaf (A8.map (.int .i64)), .frz .leaf (B0.map (.int .i64)), .frz .leaf (B1.map (.int .i64)), .frz .leaf (B2.map (.int .i64)), .frz .leaf (B3.map (.int .i64)), .frz .leaf (B4.map (.int .i64)), .frz .leaf (B5.map (.int .i64)), .frz .leaf (B6.map (.int .i64)), .frz .leaf (B7.map (.int .i64)), .frz .leaf (B8.map (.int .i64))] ++ X) 2 .leaf ([A0, A1, A2, A3, A4, A5, A6, A7, A8].map rowD) rfl (cl_rows _) rfl ?_
    refine Frz.row' (H2 := [.var d0, .var (.agg [.sl 2 0 9, .sl 3 0 9]), .frz .leaf ([A0, A1, A2, A3, A4, A5, A6, A7, A8].map rowD), .row .leaf ([B0, B1, B2, B3, B4, B5, B6, B7, B8].map rowD), .frz .leaf (A0.map (.int .i64)), .frz .leaf (A1.map (.int .i64)), .frz .leaf (A2.map (.int .i64)), .frz .leaf (A3.map (.int .i64)), .frz .leaf (A4.map (.int .i64)), .frz .leaf (A5.map (.int .i64)), .frz .leaf (A6.map (.int .i64)), .frz .leaf (A7.map (.int .i64)), .frz .leaf (A8.map (.int .i64)), .frz .leaf (B0.map (.int .i64)), .frz .leaf (B1.map (.int .i64)), .frz .leaf (B2.map (.int .i64)), .frz .leaf (B3.map (.int .i64)), .frz .leaf (B4.map (.int .i64)), .frz .leaf (B5.map (.int .i64)), .frz .leaf (B6.map (.int .i64)), .frz .leaf (B7.map (.int .i64)), .frz .leaf (B8.map (.int .i64))] ++ X) 3 .leaf ([B0, B1, B2, B3, B4, B5, B6, B7, B8].map rowD) (refsD 13 9) rfl (.cons _ _ _ _ (leFrz (g := 13) rfl hb0) (.cons _ _ _ _ (leFrz (g := 14) rfl hb1) (.cons _ _ _ _ (leFrz (g := 15) rfl hb2) (.cons _ _ _ _ (leFrz (g := 16) rfl hb3) (.cons _ _ _ _ (leFrz (g := 17) rfl hb4) (.cons _ _ _ _ (leFrz (g := 18) rfl hb5) (.cons _ _ _ _ (leFrz (g := 19) rfl hb6) (.cons _ _ _ _ (leFrz (g := 20) rfl hb7) (.cons _ _ _ _ (leFrz (g := 21) rfl hb8) .nil))))))))) rfl rfl rfl ?_
    exact Frz.step' (H2 := [.var d0, .var (.agg [.sl 2 0 9, .sl 3 0 9]), .frz .leaf ([A0, A1, A2, A3, A4, A5, A6, A7, A8].map rowD), .frz .leaf ([B0, B1, B2, B3, B4, B5, B6, B7, B8].map rowD), .frz .leaf (A0.map (.int .i64)), .frz .leaf (A1.map (.int .i64)), .frz .leaf (A2.map (.int .i64)), .frz .leaf (A3.map (.int .i64)), .frz .leaf (A4.map (.int .i64)), .frz .leaf (A5.map (.int .i64)), .frz .leaf (A6.map (.int .i64)), .frz .leaf (A7.map (.int .i64)), .frz .leaf (A8.map (.int .i64)), .frz .leaf (B0.map (.int .i64)), .frz .leaf (B1.map (.int .i64)), .frz .leaf (B2.map (.int .i64)), .frz .leaf (B3.map (.int .i64)), .frz .leaf (B4.map (.int .i64)), .frz .leaf (B5.map (.int .i64)), .frz .leaf (B6.map (.int .i64)), .frz .leaf (B7.map (.int .i64)), .frz .leaf (B8.map (.int .i64))] ++ X) 3 .leaf ([B0, B1, B2, B3, B4, B5, B6, B7, B8].map rowD) rfl (cl_rows _) rfl (.refl _)
  · exact LeD.frz 2 0 9 .leaf ([A0, A1, A2, A3, A4, A5, A6, A7, A8].map rowD) rfl (Nat.le_refl 9)
  · exact LeD.frz 3 0 9 .leaf ([B0, B1, B2, B3, B4, B5, B6, B7, B8].map rowD) rfl (Nat.le_refl 9)

end Go.Proofs.Ythplmnpfaagciaa.Pw
