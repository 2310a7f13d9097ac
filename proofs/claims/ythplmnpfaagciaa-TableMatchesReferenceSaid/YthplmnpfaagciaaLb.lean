/- Parts of the proof, merged: LM LO LP LQ. -/
import Derived.Test.YthplmnpfaagciaaLa
/- value, and what the closure's values are. -/
set_option linter.unusedVariables false
set_option linter.unusedSimpArgs false
namespace Go.Proofs.Ythplmnpfaagciaa.Pw
open Go

/-- What can be derived. -/
inductive Der (K : List Known) (G : List Int) (n : Int) : Side → Int → Prop
  | known (k : Known) : k ∈ K → force k G = true → isC n ⟨k.n, k.d, k.up⟩ → Der K G n ⟨k.n, k.d, k.up⟩ k.v
  | one (s : Side) : isC n s → (s.up = true ∨ s.d = 1) → Der K G n s (2 ^ s.n.toNat)
  | two (s : Side) : isC n s → (s.up = false ∨ s.d = s.n) → Der K G n s 2
  | rule (r : Nat) (s : Side) (v : Int) : isC n s → 3 ≤ r → r ≤ 6 → isC n (srcS r s) → Der K G n (srcS r s) v → Der K G n s (valS r s v)
def IsBest (K : List Known) (G : List Int) (n : Int) (s : Side) (v : Int) : Prop := Der K G n s v ∧ ∀ w, Der K G n s w → better s w v = false
theorem IsBest.uniq {K : List Known} {G : List Int} {n : Int} {s : Side} {v w : Int} (h : IsBest K G n s v) (h' : IsBest K G n s w) : v = w := by
  have h1 := h.2 w h'.1
  have h2 := h'.2 v h.1
  unfold better at *
  cases hu : s.up <;> simp [hu] at * <;> omega
open Classical in
noncomputable def bst (K : List Known) (G : List Int) (n : Int) (s : Side) : Int := if h : ∃ v, IsBest K G n s v then Classical.choose h else 0
theorem IsBest.eq {K : List Known} {G : List Int} {n : Int} {s : Side} {v : Int} (h : IsBest K G n s v) : bst K G n s = v := by
  unfold bst
  rw [dif_pos ⟨v, h⟩]
  exact (Classical.choose_spec (⟨v, h⟩ : ∃ v, IsBest K G n s v)).uniq h

theorem valS_mono {r : Nat} {s : Side} {v w : Int} (h : better s v w = false) : better s (valS r s v) (valS r s w) = false := by
  unfold valS
  split
  · unfold better dbl at *
    have hv := tdiv2 (v + 1)
    have hw := tdiv2 (w + 1)
    cases hu : s.up
    · simp [hu] at *
      rcases Int.le_total 0 (v + 1) with h1 | h1 <;> rcases Int.le_total 0 (w + 1) with h2 | h2
      · have := hv.1 h1; have := hw.1 h2; omega
      · have := hv.1 h1; have := hw.2 h2; omega
      · have := hv.2 h1; have := hw.1 h2; omega
      · have := hv.2 h1; have := hw.2 h2; omega
    · simp [hu] at *; omega
  · exact h
theorem better_up {s t : Side} (h : s.up = t.up) (v w : Int) : better s v w = better t v w := by unfold better; rw [h]
theorem nb_trans {s : Side} {a b c : Int} (h1 : better s a b = false) (h2 : better s b c = false) : better s a c = false := by
  unfold better at *; cases hu : s.up <;> simp [hu] at * <;> omega

theorem Closd.der {K : List Known} {G : List Int} {n : Int} {l : Lg} (h : Inv K G n l) : ∀ (i : Nat) x, l.steps[i]? = some x → Der K G n x.s x.v := by
  intro i
  induction i using Nat.strongRecOn with
  | ind i ih =>
    intro x hx
    have hc := (h.cell i x hx).1
    cases h.fol i x hx with
    | known s v j k h1 h2 h3 h4 h5 h6 =>
      obtain ⟨sn, sd, su⟩ := s
      simp only at h3 h4 h5
      subst h3 h4 h5 h6
      exact .known k (List.mem_of_getElem? h1) h2 hc
    | one s h1 => exact .one s hc h1
    | two s h1 => exact .two s hc h1
    | rule r s j y h3 h6 hy hys hcy =>
      have hj : j < i := by
        have := (List.getElem?_eq_some_iff.1 hy).1
        simp at this; omega
      have hy' : l.steps[j]? = some y := by rw [List.getElem?_take, if_pos hj] at hy; exact hy
      have := ih j hj y hy'
      rw [hys] at this hcy
      exact .rule r s y.v hc h3 h6 hcy this
theorem Closd.best {K : List Known} {G : List Int} {n : Int} {l : Lg} (h : Closd K G n l) {s : Side} (hs : isC n s) {i : Nat} {x : Stp} (hi : lookA l.best s = some i) (hx : l.steps[i]? = some x) : IsBest K G n s x.v := by
  have hxs : x.s = s := by
    obtain ⟨y, hy, hys⟩ := h.inv.best s i hi
    rw [hx] at hy; cases hy; exact hys
  refine ⟨?_, ?_⟩
  · have := Closd.der h.inv i x hx
    rwa [hxs] at this
  · intro w hw
    have key : ∀ s w, Der K G n s w → ∀ i x, lookA l.best s = some i → l.steps[i]? = some x → better s w x.v = false := by
      intro s w hw
      induction hw with
      | known k h1 h2 h3 =>
        intro i x hi hx
        have := h.known k h1 h3.2.2 h2
        rw [taken_eq, valOf, hi] at this
        simpa [hx] using this
      | one s h1 h2 =>
        intro i x hi hx
        have := (h.base s h1).1 h2
        rw [taken_eq, valOf, hi] at this
        simpa [hx] using this
      | two s h1 h2 =>
        intro i x hi hx
        have := (h.base s h1).2 h2
        rw [taken_eq, valOf, hi] at this
        simpa [hx] using this
      | rule r s v hs h3 h6 hc _ ih =>
        intro i x hi hx
        obtain ⟨j, y, hj, hy, _⟩ := h.inv.at h.full hc
        have h1 := ih j y hj hy
        rw [better_up (srcS_up r s)] at h1
        have h2 := h.rule s hs r h3 h6 hc j y hj hy
        rw [taken_eq, valOf, hi] at h2
        have h2 : better s (valS r s y.v) x.v = false := by simpa [hx] using h2
        exact nb_trans (valS_mono h1) h2
    exact key s w hw i x hi hx

/-- A value of the log. -/
theorem hcValue (K : List Known) (G : List Int) (N : Nat) (l : Lg) (hl : Closd K G N l) (s : Side) (hs : isC N s) :
    HC Try.prog 40 [.ptr 0 [], s.D] (LN l) (fun r H' => r = .int .i64 (bst K G N s) ∧ H' = LN l) := by
  obtain ⟨i, y, hi, hy, hys, _, hy1, hy2⟩ := hl.inv.at hl.full hs
  have hil := (List.getElem?_eq_some_iff.1 hy).1
  have hb := (hl.best hs hi hy).eq
  refine HC.view (Q0 := fun r H' => r = .int .i64 (bst K G N s) ∧ H' = LN l ++ [.var s.D]) ?_ ?_
  · refine hc_of (okc Try.f40.ntmps 3) (fn := Try.f40) (cd := _) rfl rfl rfl rfl rfl rfl (fun hbd => ?_)
    conv => whnf
    refine dr 14 rfl ?_
    conv => whnf
    refine ob (keys_map _ _ (fun s => rfl) _) ?_
    refine ⟨some (.int .i64 i), ?_, ?_⟩
    · show lookM (mapD l.best) s.D = _
      rw [look_map, hi]; rfl
    conv => whnf
    refine ob (by omega) ?_
    conv => whnf
    refine ⟨y.D, .int .i64 y.v, by simp [hy], rfl, ?_⟩
    conv => whnf
    refine ⟨?_, rfl⟩
    rw [hb]; rfl
  · rintro r H' ⟨rfl, rfl⟩
    refine ⟨_, _, 3, .refl _, .refl _, Nat.le_refl _, by simp [LN], rfl, ?_, rfl, rfl⟩
    intro o ho
    have : o ∈ LN l := ho
    simp [LN] at this
    rcases this with rfl | rfl | rfl
    · rfl
    · simp [inO, in_mapD]
    · simp [inO, rowL, in_cls _ _ (cl_stps _)]

end Go.Proofs.Ythplmnpfaagciaa.Pw

/- Close. -/
set_option linter.unusedVariables false
set_option linter.unusedSimpArgs false
namespace Go.Proofs.Ythplmnpfaagciaa.Pw
open Go

theorem set_same {α : Type} {H : List α} {i : Nat} {x : α} (h : H[i]? = some x) : H.set i x = H := by
  apply List.ext_getElem?
  intro j
  by_cases e : i = j
  · subst e; rw [List.getElem?_set_self (List.getElem?_eq_some_iff.1 h).1, h]
  · rw [List.getElem?_set_ne e]
theorem valueO {K : List Known} {G : List Int} {N : Nat} {l : Lg} (hl : Closd K G N l) (s : Side) (hs : isC N s) {t : List Ob} {Q : D → List Ob → Prop}
    (hQ : Q (.int .i64 (bst K G N s)) (LN l ++ t)) : HC Try.prog 40 [.ptr 0 [], s.D] (LN l ++ t) Q := by
  refine HC.frame [0, 1, 2] (hcValue K G N l hl s hs) (.refl _) ?_ rfl (by simp [LN]) (ler _ _) rfl ?_
  · refine ⟨rfl, rfl, ?_, ?_, ?_, ?_, trivial⟩
    · show (LN l ++ t).getD 1 .dead = _
      simp only [renO, ren_mapD]; rfl
    · simp [inO, in_mapD]
    · simp only [renO, rowL, ren_cls _ _ (cl_stps _)]; rfl
    · simp [inO, rowL, in_cls _ _ (cl_stps _)]
  · rintro r H0' ⟨rfl, rfl⟩ _
    refine cast ?_ hQ
    congr 1
    simp [putB, outN, LN, renO, ren_mapD, renD, renDs, ren_cls _ _ (cl_stps l.steps), rowL]

structure CellM where
  n : Int
  d : Int
  lo : Int
  hi : Int
def CellM.D (c : CellM) : D := .agg [.int .i64 c.n, .int .i64 c.d, .int .i64 c.lo, .int .i64 c.hi]
def sh4 : Sh := .agg [.leaf, .leaf, .leaf, .leaf]
noncomputable def cellM (K : List Known) (G : List Int) (n : Nat) (m d : Nat) : CellM := ⟨m, d, bst K G n ⟨m, d, false⟩, bst K G n ⟨m, d, true⟩⟩
noncomputable def rowC (K : List Known) (G : List Int) (n m : Nat) : Nat → List CellM
  | 0 => []
  | k + 1 => rowC K G n m k ++ [cellM K G n m (k + 1)]
noncomputable def cellsC (K : List Known) (G : List Int) (n : Nat) : Nat → List CellM
  | 0 => []
  | m + 1 => cellsC K G n m ++ rowC K G n (m + 1) (m + 1)
theorem mem_rowC {K : List Known} {G : List Int} {n m : Nat} {c : CellM} : ∀ k : Nat, c ∈ rowC K G n m k ↔ ∃ d, 1 ≤ d ∧ d ≤ k ∧ c = cellM K G n m d
  | 0 => by simp [rowC]; intro d h1 h2; omega
  | k + 1 => by
    simp only [rowC, List.mem_append, mem_rowC k, List.mem_singleton]
    constructor
    · rintro (⟨d, h1, h2, h3⟩ | h)
      · exact ⟨d, h1, by omega, h3⟩
      · exact ⟨k + 1, by omega, by omega, h⟩
    · rintro ⟨d, h1, h2, h3⟩
      by_cases e : d = k + 1
      · subst e; exact .inr h3
      · exact .inl ⟨d, h1, by omega, h3⟩
theorem mem_cellsC {K : List Known} {G : List Int} {n : Nat} {c : CellM} : ∀ k : Nat, c ∈ cellsC K G n k ↔ ∃ m d, 1 ≤ d ∧ d ≤ m ∧ m ≤ k ∧ c = cellM K G n m d
  | 0 => by simp [cellsC]; intro m d h1 h2 h3; omega
  | k + 1 => by
    simp only [cellsC, List.mem_append, mem_cellsC k, mem_rowC]
    constructor
    · rintro (⟨m, d, h1, h2, h3, h4⟩ | ⟨d, h1, h2, h3⟩)
      · exact ⟨m, d, h1, h2, by omega, h4⟩
      · exact ⟨k + 1, d, h1, h2, by omega, h3⟩
    · rintro ⟨m, d, h1, h2, h3, h4⟩
      by_cases e : m = k + 1
      · subst e; exact .inr ⟨d, h1, h2, h4⟩
      · exact .inl ⟨m, d, h1, h2, by omega, h4⟩
theorem cl_cells : ∀ l : List CellM, clDs (l.map CellM.D) = true
  | [] => rfl
  | x :: l => by
    show cond (clD x.D) (clDs (l.map CellM.D)) false = true
    rw [cl_cells l]; rfl
def okCells (l : List CellM) : Prop := ∀ c ∈ l, c.lo ≤ c.hi
def cellsD (l : List CellM) : D := .list false sh4 (l.map CellM.D)
/-- What Close returns: the cells and the error. -/
noncomputable def closeR (K : List Known) (G : List Int) (n : Int) : List CellM × Int :=
  open Classical in if 1 ≤ n ∧ n ≤ 8 ∧ rightK K = true then (if okCells (cellsC K G n.toNat n.toNat) then (cellsC K G n.toNat n.toNat, 0) else ([], 6)) else ([], 1)

/-- The slice that grows: nil, or the object 3. -/
def OutR (cs : List CellM) (ob : Ob) (d : D) : Prop := (cs = [] ∧ ob = .dead ∧ d = .nils) ∨ (ob = .row sh4 (cs.map CellM.D) ∧ d = .sl 3 0 cs.length)

theorem row_len {K : List Known} {G : List Int} {n m : Nat} : ∀ k, (rowC K G n m k).length = k
  | 0 => rfl
  | k + 1 => by simp [rowC, row_len k]
theorem cells_len {K : List Known} {G : List Int} {n : Nat} : ∀ k, (cellsC K G n k).length ≤ k * k
  | 0 => by simp [cellsC]
  | k + 1 => by simp only [cellsC, List.length_append, row_len]; have := cells_len (K := K) (G := G) (n := n) k; rw [Nat.add_mul, Nat.mul_add]; omega

theorem vClose (fk fg : Bool) (K : List Known) (G : List Int) (n : Int) :
    Val Try.prog 29 [.int .i64 n, .list fk sh5 (K.map Known.D), .list fg .leaf (G.map (.int .i64))] (fun r => r = .tuple [cellsD (closeR K G n).1, .int .i64 (closeR K G n).2]) := by
  refine HC.ret (Q0 := fun r H' => (r = .tuple [.nils, .int .i64 (closeR K G n).2] ∧ (closeR K G n).1 = []) ∨ ∃ l cs, (closeR K G n) = (cs, 0) ∧ r = .tuple [.sl 3 0 cs.length, .int .i64 0] ∧ H' = LN l ++ [.row sh4 (cs.map CellM.D)]) ?_ ?_
  · have early : (n < 1 ∨ 8 < n) ∨ rightK K = false → closeR K G n = ([], 1) := by
      intro h
      unfold closeR
      rw [if_neg]
      rintro ⟨a, b, c⟩
      rcases h with h | h
      · omega
      · rw [c] at h; cases h
    refine hc_of (okc Try.f29.ntmps 0) (fn := Try.f29) (cd := _) rfl rfl rfl rfl rfl rfl (fun hb => ?_)
    conv => whnf
    refine ifb (fun h1 => ?_) (fun h1 => ?_)
    · have he := early (.inl (.inl (by simpa using h1)))
      conv => whnf
      exact .inl ⟨by rw [he]; rfl, by rw [he]⟩
    · have h1 : 1 ≤ n := by simpa using h1
      conv => whnf
      refine ifb (fun h2 => ?_) (fun h2 => ?_)
      · have he := early (.inl (.inr (by simpa using h2)))
        conv => whnf
        exact .inl ⟨by rw [he]; rfl, by rw [he]⟩
      · have h2 : n ≤ 8 := by simpa using h2
        conv => whnf
        refine Val.call (vRight fk K) (.refl _) (ler _ _) rfl ?_
        rintro r rfl
        conv => whnf
        refine ifb (fun h3 => ?_) (fun h3 => ?_)
        · have h3 : rightK K = false := by
            cases hr : rightK K
            · rfl
            · rw [hr] at h3; simp at h3
          have he := early (.inr h3)
          conv => whnf
          exact .inl ⟨by rw [he]; rfl, by rw [he]⟩
        · have h3 : rightK K = true := by
            cases hr : rightK K
            · rw [hr] at h3; simp at h3
            · rfl
          obtain ⟨N, rfl⟩ : ∃ N : Nat, n = N := ⟨n.toNat, by omega⟩
          have hcl : closeR K G N = (open Classical in if okCells (cellsC K G N N) then (cellsC K G N N, 0) else ([], 6)) := by
            unfold closeR
            rw [if_pos ⟨h1, h2, h3⟩]
            simp
          conv => whnf
          refine HC.mono (hcClosure fk fg K G N (by omega) h3) ?_
          rintro r H' ⟨l, ⟨hl, _⟩, rfl, rfl⟩
          conv => whnf
          refine lp (fun k e H => ∃ (m : Nat) (ob : Ob) (d9 : D), m ≤ N ∧ k = N - m ∧ okCells (cellsC K G N m) ∧ OutR (cellsC K G N m) ob d9 ∧ H = LN l ++ [ob] ∧ e = [(29, .int .i64 m), (28, .int .i64 N), (9, d9), (8, .ptr 0 [])]) ?_ ?_
          · refine ⟨N + 1, N, [(29, .int .i64 (0 : Nat)), (28, .int .i64 N), (9, .nils), (8, .ptr 0 [])], LN l ++ [.dead], by omega, ⟨LN l, .refl _, .inr ⟨[0, 1, 2, 3], ⟨?_, ?_, rfl, rfl⟩⟩⟩, 0, .dead, .nils, by omega, rfl, ?_, .inl ⟨rfl, rfl, rfl⟩, rfl, rfl⟩
            · exact ⟨.refl _, rfl, .refl _, rfl, .refl _, rfl, .refl _, rfl, trivial⟩
            · refine ⟨rfl, rfl, ?_, ?_, ?_, ?_, rfl, rfl, trivial⟩
              · simp only [renO, ren_mapD]; rfl
              · simp [inO, in_mapD]
              · simp only [renO, rowL, ren_cls _ _ (cl_stps _)]; rfl
              · simp [inO, rowL, in_cls _ _ (cl_stps _)]
            · intro c hc; simp [cellsC] at hc
          · rintro k e H ⟨m, ob, d9, hm, rfl, hok, hout, rfl, rfl⟩
            conv => whnf
            refine ifb (fun h4 => ?_) (fun h4 => ?_)
            · have h4 : m < N := by simpa using h4
              conv => whnf
              refine iv ((m + 1 : Nat) : Int) (by rw [w64 (by omega) (by omega)]; omega) ?_
              conv => whnf
              refine lp (fun k e H => ∃ (d : Nat) (ob : Ob) (d9 : D), d ≤ m + 1 ∧ k = m + 1 - d ∧ okCells (cellsC K G N m ++ rowC K G N (m + 1) d) ∧ OutR (cellsC K G N m ++ rowC K G N (m + 1) d) ob d9 ∧ H = LN l ++ [ob] ∧ e = [(34, .int .i64 d), (33, .int .i64 (m + 1 : Nat)), (10, .int .i64 m), (29, .int .i64 m), (28, .int .i64 N), (9, d9), (8, .ptr 0 [])]) ?_ ?_
              · refine ⟨m + 2, back (m + 1) _ (by omega) ?_ ⟨0, ob, d9, by omega, rfl, by rw [rowC, List.append_nil]; exact hok, by rw [rowC, List.append_nil]; exact hout, rfl, rfl⟩⟩
                exact se0 rfl (se0 rfl (se0 rfl (se0 rfl (se0 rfl (se0 rfl (se0 rfl trivial))))))
              · rintro k e H ⟨d, ob, d9, hd, rfl, hok, hout, rfl, rfl⟩
                conv => whnf
                refine ifb (fun h5 => ?_) (fun h5 => ?_)
                · have h5 : d < m + 1 := by simp at h5; omega
                  conv => whnf
                  refine iv ((m + 1 : Nat) : Int) (by rw [w64 (by omega) (by omega)]; omega) ?_
                  conv => whnf
                  refine iv ((d + 1 : Nat) : Int) (by rw [w64 (by omega) (by omega)]; omega) ?_
                  conv => whnf
                  refine iv ((m + 1 : Nat) : Int) (by rw [w64 (by omega) (by omega)]; omega) ?_
                  conv => whnf
                  refine iv ((d + 1 : Nat) : Int) (by rw [w64 (by omega) (by omega)]; omega) ?_
                  conv => whnf
                  refine valueO hl ⟨(m + 1 : Nat), (d + 1 : Nat), false⟩ ⟨by show (1:Int) ≤ (d + 1 : Nat); omega, by show ((d + 1 : Nat) : Int) ≤ (m + 1 : Nat); omega, by show ((m + 1 : Nat) : Int) ≤ N; omega⟩ ?_
                  conv => whnf
                  refine iv ((m + 1 : Nat) : Int) (by rw [w64 (by omega) (by omega)]; omega) ?_
                  conv => whnf
                  refine iv ((d + 1 : Nat) : Int) (by rw [w64 (by omega) (by omega)]; omega) ?_
                  conv => whnf
                  refine valueO hl ⟨(m + 1 : Nat), (d + 1 : Nat), true⟩ ⟨by show (1:Int) ≤ (d + 1 : Nat); omega, by show ((d + 1 : Nat) : Int) ≤ (m + 1 : Nat); omega, by show ((m + 1 : Nat) : Int) ≤ N; omega⟩ ?_
                  conv => whnf
                  refine ifb (fun h6 => ?_) (fun h6 => ?_)
                  · conv => whnf
                    have hno : ¬ okCells (cellsC K G N N) := by
                      intro h
                      have := h (cellM K G N (m + 1) (d + 1)) ((mem_cellsC N).2 ⟨m + 1, d + 1, by omega, by omega, by omega, rfl⟩)
                      simp [cellM] at this h6
                      omega
                    rw [if_neg hno] at hcl
                    exact .inl ⟨by rw [hcl]; rfl, by rw [hcl]⟩
                  · have h6 : bst K G N ⟨(m + 1 : Nat), (d + 1 : Nat), false⟩ ≤ bst K G N ⟨(m + 1 : Nat), (d + 1 : Nat), true⟩ := by simpa using h6
                    obtain ⟨cs, hcs⟩ : ∃ cs, cs = cellsC K G N m ++ rowC K G N (m + 1) d := ⟨_, rfl⟩
                    rw [← hcs] at hout
                    have hcl64 : cs.length ≤ 100 := by
                      rw [hcs, List.length_append, row_len]
                      have h1 := cells_len (K := K) (G := G) (n := N) m
                      have h2 : m * m ≤ 7 * 7 := Nat.mul_le_mul (by omega) (by omega)
                      omega
                    rcases hout with ⟨h7, rfl, rfl⟩ | ⟨rfl, rfl⟩
                    · subst h7
                      conv => whnf
                      refine Pw.ob (Nat.le_refl 1) ?_
                      conv => whnf
                      refine Pw.ob (show 1 ≤ 2147483648 by omega) ?_
                      conv => whnf
                      refine iv ((d + 1 : Nat) : Int) (by rw [w64 (by omega) (by omega)]; omega) ?_
                      conv => whnf
                      refine ⟨m + 1 - (d + 1), [(34, .int .i64 (d + 1 : Nat)), (33, .int .i64 (m + 1 : Nat)), (10, .int .i64 m), (29, .int .i64 m), (28, .int .i64 N), (9, .sl 3 0 (([] : List CellM) ++ [cellM K G N (m + 1) (d + 1)]).length), (8, .ptr 0 [])], LN l ++ [.row sh4 ((([] : List CellM) ++ [cellM K G N (m + 1) (d + 1)]).map CellM.D)], by omega, ⟨_, .refl _, .inr ⟨[0, 1, 2, 6], ⟨?_, ?_, rfl, rfl⟩⟩⟩, d + 1, _, _, by omega, rfl, ?_, ?_, rfl, rfl⟩
                      · refine ⟨.refl _, rfl, .refl _, rfl, .refl _, rfl, .refl _, rfl, .refl _, rfl, ?_, rfl, .refl _, rfl, trivial⟩
                        exact .refl _
                      · refine ⟨rfl, rfl, ?_, ?_, ?_, ?_, ?_, ?_, trivial⟩
                        · simp only [renO, ren_mapD]; rfl
                        · simp [inO, in_mapD]
                        · simp only [renO, rowL, ren_cls _ _ (cl_stps _)]; rfl
                        · simp [inO, rowL, in_cls _ _ (cl_stps _)]
                        · simp only [renO, ren_cls _ _ (cl_cells _)]; rfl
                        · exact in_cls _ _ (cl_cells _)
                      · rw [rowC, ← List.append_assoc, ← hcs]
                        intro c hc
                        rcases List.mem_append.1 hc with hc | hc
                        · rw [hcs] at hc; exact hok c hc
                        · simp at hc; subst hc; simpa [cellM] using h6
                      · rw [rowC, ← List.append_assoc, ← hcs]; exact .inr ⟨rfl, rfl⟩
                    · conv => whnf
                      refine Pw.ob (Nat.le_refl 1) ?_
                      conv => whnf
                      refine Pw.ob (by simp) ?_
                      refine Pw.ob (show cs.length + 1 ≤ 2147483648 by omega) ?_
                      conv => whnf
                      refine iv ((d + 1 : Nat) : Int) (by rw [w64 (by omega) (by omega)]; omega) ?_
                      conv => whnf
                      refine ⟨m + 1 - (d + 1), [(34, .int .i64 (d + 1 : Nat)), (33, .int .i64 (m + 1 : Nat)), (10, .int .i64 m), (29, .int .i64 m), (28, .int .i64 N), (9, .sl 3 0 (cs ++ [cellM K G N (m + 1) (d + 1)]).length), (8, .ptr 0 [])], LN l ++ [.row sh4 ((cs ++ [cellM K G N (m + 1) (d + 1)]).map CellM.D)], by omega, ⟨_, .refl _, .inr ⟨[0, 1, 2, 6], ⟨?_, ?_, rfl, rfl⟩⟩⟩, d + 1, _, _, by omega, rfl, ?_, ?_, rfl, rfl⟩
                      · refine ⟨.refl _, rfl, .refl _, rfl, .refl _, rfl, .refl _, rfl, .refl _, rfl, ?_, rfl, .refl _, rfl, trivial⟩
                        show LeD _ (.sl 6 0 (cs ++ [cellM K G N (m + 1) (d + 1)]).length) (.sl 6 0 (cs.length + 1))
                        simp only [List.length_append, List.length_cons, List.length_nil]; exact .refl _
                      · refine ⟨rfl, rfl, ?_, ?_, ?_, ?_, ?_, ?_, trivial⟩
                        · simp only [renO, ren_mapD]; rfl
                        · simp [inO, in_mapD]
                        · simp only [renO, rowL, ren_cls _ _ (cl_stps _)]; rfl
                        · simp [inO, rowL, in_cls _ _ (cl_stps _)]
                        · simp only [renO, ren_cls _ _ (cl_cells _)]
                          rw [show (cs ++ [cellM K G N (m + 1) (d + 1)]).map CellM.D = ((cs.map CellM.D).drop 0).take cs.length ++ [(cellM K G N (m + 1) (d + 1)).D] from by simp [List.take_of_length_le]]
                          rfl
                        · exact in_cls _ _ (cl_cells _)
                      · rw [rowC, ← List.append_assoc, ← hcs]
                        intro c hc
                        rcases List.mem_append.1 hc with hc | hc
                        · rw [hcs] at hc; exact hok c hc
                        · simp at hc; subst hc; simpa [cellM] using h6
                      · rw [rowC, ← List.append_assoc, ← hcs]; exact .inr ⟨rfl, rfl⟩
                · conv => whnf
                  have : d = m + 1 := by simp at h5; omega
                  subst this
                  refine iv ((m + 1 : Nat) : Int) (by rw [w64 (by omega) (by omega)]; omega) ?_
                  conv => whnf
                  refine back (N - (m + 1)) _ (by omega) ?_ ⟨m + 1, ob, d9, by omega, rfl, by rw [cellsC]; exact hok, by rw [cellsC]; exact hout, rfl, rfl⟩
                  exact se0 rfl (se0 rfl (se0 rfl (se0 rfl trivial)))
            · have : m = N := by simp at h4; omega
              subst this
              rw [if_pos hok] at hcl
              rcases hout with ⟨h7, rfl, rfl⟩ | ⟨rfl, rfl⟩
              · conv => whnf
                exact .inl ⟨by rw [hcl]; rfl, by rw [hcl]; exact h7⟩
              · conv => whnf
                exact .inr ⟨l, cellsC K G m m, hcl, rfl, rfl⟩
  · rintro r H' (⟨rfl, h⟩ | ⟨l, cs, h, rfl, rfl⟩)
    · refine ⟨_, .tuple [cellsD (closeR K G n).1, .int .i64 (closeR K G n).2], .refl _, ?_, ?_, rfl⟩
      · rw [h]; exact .tuple _ _ (.cons _ _ _ _ (.nils _) (.cons _ _ _ _ (.refl _) .nil))
      · rw [h]; rfl
    · rw [h]
      refine ⟨LN l ++ [.frz sh4 (cs.map CellM.D)], .tuple [cellsD cs, .int .i64 0], Frz.step 3 sh4 (cs.map CellM.D) rfl (cl_cells cs) (.refl _), ?_, rfl, rfl⟩
      have := LeD.frz (H := LN l ++ [.frz sh4 (cs.map CellM.D)]) 3 0 cs.length sh4 (cs.map CellM.D) rfl (by simp)
      rw [show ((cs.map CellM.D).drop 0).take cs.length = cs.map CellM.D from by simp [List.take_of_length_le]] at this
      exact .tuple _ _ (.cons _ _ _ _ this (.cons _ _ _ _ (.refl _) .nil))

end Go.Proofs.Ythplmnpfaagciaa.Pw

/- Why$1: the chain of a step. -/
set_option linter.unusedVariables false
set_option linter.unusedSimpArgs false
namespace Go.Proofs.Ythplmnpfaagciaa.Pw
open Go

inductive Chain (st : List Stp) : Nat → List Stp → Prop
  | base (i : Nat) (x : Stp) : st[i]? = some x → x.by_ ≤ 2 → Chain st i [x]
  | step (i j : Nat) (x : Stp) (L : List Stp) : st[i]? = some x → 2 < x.by_ → x.at_ = [(j : Int)] → j < i → Chain st j L → Chain st i (L ++ [⟨x.s, x.v, x.by_, [((L.length - 1 : Nat) : Int)]⟩])
theorem Chain.pos {st : List Stp} {i : Nat} {L : List Stp} (h : Chain st i L) : 0 < L.length := by cases h <;> simp
theorem Inv.chain {K : List Known} {G : List Int} {n : Int} {l : Lg} (h : Inv K G n l) : ∀ i, i < l.steps.length → ∃ L, Chain l.steps i L := by
  intro i
  induction i using Nat.strongRecOn with
  | ind i ih =>
    intro hi
    have hx := List.getElem?_eq_getElem hi
    by_cases hb : l.steps[i].by_ ≤ 2
    · exact ⟨_, .base i _ hx hb⟩
    · have : ∃ j : Nat, l.steps[i].at_ = [(j : Int)] ∧ j < i := by
        generalize l.steps[i] = x at hx hb
        cases h.fol i x hx with
        | known => simp at hb
        | one => simp at hb
        | two => simp at hb
        | rule r s j y h3 h6 hy hys hcy =>
          refine ⟨j, rfl, ?_⟩
          have := (List.getElem?_eq_some_iff.1 hy).1
          simp at this; omega
      obtain ⟨j, hj, hji⟩ := this
      obtain ⟨L, hL⟩ := ih j hji (by omega)
      exact ⟨_, .step i j _ L hx (by omega) hj hji hL⟩

def mapI (m : List (Int × Int)) : List (D × D) := m.map fun p => (.int .i64 p.1, .int .i64 p.2)
def setI : List (Int × Int) → Int → Int → List (Int × Int)
  | [], s, i => [(s, i)]
  | (a, j) :: m, s, i => if s = a then (s, i) :: m else (a, j) :: setI m s i
theorem set_mapI (s i : Int) : ∀ m : List (Int × Int), setM (mapI m) (.int .i64 s) (.int .i64 i) = mapI (setI m s i)
  | [] => rfl
  | (a, j) :: m => by
    show (match some (decide (s = a)) with | some true => _ | _ => (D.int .i64 a, D.int .i64 j) :: setM (mapI m) (.int .i64 s) (.int .i64 i)) = _
    rw [set_mapI s i m]
    by_cases h : s = a <;> simp [h, mapI, setI]
theorem look_setI (s i : Int) : ∀ m : List (Int × Int), lookM (mapI (setI m s i)) (.int .i64 s) = some (.int .i64 i)
  | [] => by
    show (match some (decide (s = s)) with | some true => some (D.int .i64 i) | _ => _) = _
    simp
  | (a, j) :: m => by
    unfold setI
    by_cases h : s = a
    · rw [if_pos h]
      show (match some (decide (s = s)) with | some true => some (D.int .i64 i) | _ => _) = _
      simp
    · rw [if_neg h]
      show (match some (decide (s = a)) with | some true => some (D.int .i64 j) | _ => lookM (mapI (setI m s i)) (.int .i64 s)) = _
      simp [h, look_setI s i m]
theorem ren_mapI (ρ : List Nat) : ∀ m : List (Int × Int), renM ρ (mapI m) = mapI m
  | [] => rfl
  | p :: m => by
    show (renD ρ (D.int .i64 p.1), renD ρ (D.int .i64 p.2)) :: renM ρ (mapI m) = _
    rw [ren_mapI ρ m]; rfl
theorem in_mapI (n : Nat) : ∀ m : List (Int × Int), inM n (mapI m) = true
  | [] => rfl
  | p :: m => by
    show cond (inD n (D.int .i64 p.1)) (cond (inD n (D.int .i64 p.2)) (inM n (mapI m)) false) false = true
    rw [in_mapI n m]; rfl
theorem keys_mapI (c : Cx) (t : Nat) (h : ∀ s : Int, keyOk c t (.int .i64 s) = true) (m : List (Int × Int)) : keysOk c t (mapI m) := by
  intro p hp
  obtain ⟨q, _, rfl⟩ := List.mem_map.1 hp
  exact h q.1

def needF : D := .func 41 [.ptr 6 [], .ptr 4 [], .ptr 8 [], .ptr 7 []]
/-- Why's objects, before and behind a call of need. -/
def W1 (k : Known) (l : Lg) : List Ob := [.var k.D, .var (.agg [.sl 3 0 l.steps.length, .map 2]), .map (mapD l.best), rowL l, .var (.ptr 1 []), .map (mapI []), .var (.map 5), .var .nils, .var needF]
def W2 (k : Known) (l : Lg) (nm : List (Int × Int)) (L : List Stp) : List Ob :=
  [.var k.D, .var (.agg [.sl 3 0 l.steps.length, .map 2]), .map (mapD l.best), rowL l, .var (.ptr 1 []), .map (mapI nm), .var (.map 5), .var (.sl 9 0 L.length), .var needF, .row sh6 (L.map Stp.D)]

theorem Chain.len {st : List Stp} {i : Nat} {L : List Stp} (h : Chain st i L) : L.length ≤ i + 1 := by
  induction h with
  | base => simp
  | step => simp; omega
theorem subW2 {H : List Ob} (k : Known) (l : Lg) (nm : List (Int × Int)) (L : List Stp) (j : Nat) (h0 : H.getD 0 .dead = .var k.D) (h1 : H.getD 1 .dead = .var (.agg [.sl 3 0 l.steps.length, .map 2])) (h2 : H.getD 2 .dead = .map (mapD l.best)) (h3 : H.getD 3 .dead = rowL l)
    (h4 : H.getD 4 .dead = .var (.ptr 1 [])) (h5 : H.getD 5 .dead = .map (mapI nm)) (h6 : H.getD 6 .dead = .var (.map 5)) (h7 : H.getD 7 .dead = .var (.sl j 0 L.length)) (h8 : H.getD 8 .dead = .var needF) (h9 : H.getD j .dead = .row sh6 (L.map Stp.D)) :
    SubH [0, 1, 2, 3, 4, 5, 6, 7, 8, j] 10 H (W2 k l nm L) [0, 1, 2, 3, 4, 5, 6, 7, 8, j] := by
  refine ⟨h0, rfl, h1, rfl, ?_, ?_, ?_, ?_, h4, rfl, ?_, ?_, h6, rfl, h7, rfl, h8, rfl, ?_, ?_, trivial⟩
  · rw [h2]; simp [renO, ren_mapD]
  · simp [inO, in_mapD]
  · rw [h3]; simp [renO, rowL, ren_cls _ _ (cl_stps _)]
  · simp [inO, rowL, in_cls _ _ (cl_stps _)]
  · rw [h5]; simp [renO, ren_mapI]
  · simp [inO, in_mapI]
  · rw [h9]; simp [renO, ren_cls _ _ (cl_stps _)]
  · simp [inO, in_cls _ _ (cl_stps _)]
theorem keep9 (j n : Nat) (H2 : List Ob) : ∀ i, i < 9 → ([0, 1, 2, 3, 4, 5, 6, 7, 8, j] : List Nat).getD i 0 = i ∨ (H2.getD i .dead = .dead ∧ n ≤ ([0, 1, 2, 3, 4, 5, 6, 7, 8, j] : List Nat).getD i 0) := by
  intro i hi
  have : i = 0 ∨ i = 1 ∨ i = 2 ∨ i = 3 ∨ i = 4 ∨ i = 5 ∨ i = 6 ∨ i = 7 ∨ i = 8 := by omega
  rcases this with rfl | rfl | rfl | rfl | rfl | rfl | rfl | rfl | rfl <;> exact .inl rfl
theorem subW1 {H : List Ob} (k : Known) (l : Lg) (h0 : H.getD 0 .dead = .var k.D) (h1 : H.getD 1 .dead = .var (.agg [.sl 3 0 l.steps.length, .map 2])) (h2 : H.getD 2 .dead = .map (mapD l.best)) (h3 : H.getD 3 .dead = rowL l)
    (h4 : H.getD 4 .dead = .var (.ptr 1 [])) (h5 : H.getD 5 .dead = .map (mapI [])) (h6 : H.getD 6 .dead = .var (.map 5)) (h7 : H.getD 7 .dead = .var .nils) (h8 : H.getD 8 .dead = .var needF) :
    SubH [0, 1, 2, 3, 4, 5, 6, 7, 8] 9 H (W1 k l) [0, 1, 2, 3, 4, 5, 6, 7, 8] := by
  refine ⟨h0, rfl, h1, rfl, ?_, ?_, ?_, ?_, h4, rfl, h5, rfl, h6, rfl, h7, rfl, h8, rfl, trivial⟩
  · rw [h2]; simp [renO, ren_mapD]
  · simp [inO, in_mapD]
  · rw [h3]; simp [renO, rowL, ren_cls _ _ (cl_stps _)]
  · simp [inO, rowL, in_cls _ _ (cl_stps _)]
theorem leDs_app (H : List Ob) : ∀ (a : List D) {b c : List D}, LeDs H b c → LeDs H (a ++ b) (a ++ c)
  | [], _, _, h => h
  | d :: a, _, _, h => .cons _ _ _ _ (.refl _) (leDs_app H a h)
theorem shapes_app : ∀ a b : List D, shapes (a ++ b) = shapes a ++ shapes b
  | [], _ => rfl
  | d :: a, b => by simp only [List.cons_append, shapes, shapes_app a b]
theorem ok_stps : ∀ L : List Stp, okDs (L.map Stp.D) = true
  | [] => rfl
  | x :: L => by
    show cond (okD x.D) (okDs (L.map Stp.D)) false = true
    rw [ok_stps L]; rfl

theorem hcNeed (k : Known) (l : Lg) (hlen : l.steps.length < 2147483000) {i : Nat} {L : List Stp} (hc : Chain l.steps i L) :
    HC Try.prog 41 [.int .i64 i, .ptr 6 [], .ptr 4 [], .ptr 8 [], .ptr 7 []] (W1 k l) (fun r H' => ∃ nm, r = .int .i64 (L.length - 1 : Nat) ∧ H' = W2 k l nm L) := by
  induction hc with
  | base i x hx hb =>
    have hi := (List.getElem?_eq_some_iff.1 hx).1
    refine HC.move (Q0 := fun r H' => r = .int .i64 0 ∧ ∃ a b, H' = [.var k.D, .var (.agg [.sl 3 0 l.steps.length, .map 2]), .map (mapD l.best), rowL l, .var (.ptr 1 []), .map (mapI (setI [] i 0)), .var (.map 5), .var (.sl 11 0 1), .var needF, a, b, .row sh6 [x.D]]) ?_ ?_
    · refine hc_of (okc Try.f41.ntmps 9) (fn := Try.f41) (cd := _) rfl rfl rfl rfl rfl rfl (fun hbd => ?_)
      conv => whnf
      refine ob (keys_mapI _ _ (fun s => rfl) []) ?_
      refine ⟨none, rfl, ?_⟩
      conv => whnf
      refine ob (by omega) ?_
      conv => whnf
      refine ⟨x.D, by simp [hx], ?_⟩
      conv => whnf
      refine ifb (fun h1 => ?_) (fun h1 => ?_)
      · simp at h1; omega
      conv => whnf
      refine ob (Nat.le_refl 1) ?_
      conv => whnf
      refine ob (show 1 ≤ 2147483648 by omega) ?_
      conv => whnf
      refine iv 0 (show IntKind.i64.wrap (((1 : Nat) : Int) - 1) = 0 from by decide) ?_
      conv => whnf
      refine ob (keys_mapI _ _ (fun s => rfl) []) ?_
      conv => whnf
      refine ob (keys_mapI _ _ (fun s => rfl) (setI [] i 0)) ?_
      refine ⟨_, look_setI i 0 [], ?_⟩
      conv => whnf
      exact ⟨rfl, _, _, rfl⟩
    · rintro r H' ⟨rfl, a, b, rfl⟩
      refine ⟨_, W2 k l (setI [] i 0) [x], [0, 1, 2, 3, 4, 5, 6, 7, 8, 11], .int .i64 0, .refl _, ?_, rfl, Nat.le_of_ble_eq_true rfl, ?_, rfl, .refl _, _, rfl, rfl⟩
      · exact subW2 k l _ [x] 11 rfl rfl rfl rfl rfl rfl rfl rfl rfl rfl
      · exact keep9 _ _ _
  | step i j x L hx hb hat hji hL ih =>
    have hi := (List.getElem?_eq_some_iff.1 hx).1
    have hLl := hL.len
    have hLp := hL.pos
    refine HC.move (Q0 := fun r H' => r = .int .i64 L.length ∧ ∃ nm a b, H' = [.var k.D, .var (.agg [.sl 3 0 l.steps.length, .map 2]), .map (mapD l.best), rowL l, .var (.ptr 1 []), .map (mapI (setI nm i L.length)), .var (.map 5), .var (.sl 13 0 (L.length + 1)), .var needF, a, .dead, .row .leaf [.int .i64 (L.length - 1 : Nat)], b,
      .row sh6 (L.map Stp.D ++ [.agg [.int .i64 x.s.n, .int .i64 x.s.d, .bool x.s.up, .int .i64 x.v, .int .i64 x.by_, .sl 11 0 1]])]) ?_ ?_
    · refine hc_of (okc Try.f41.ntmps 9) (fn := Try.f41) (cd := _) rfl rfl rfl rfl rfl rfl (fun hbd => ?_)
      conv => whnf
      refine ob (keys_mapI _ _ (fun s => rfl) []) ?_
      refine ⟨none, rfl, ?_⟩
      conv => whnf
      refine ob (by omega) ?_
      conv => whnf
      refine ⟨x.D, by simp [hx], ?_⟩
      conv => whnf
      refine ifb (fun h1 => ?_) (fun h1 => ?_)
      · conv => whnf
        refine dr 5 rfl ?_
        conv => whnf
        refine ob (by decide) ?_
        refine ⟨.int .i64 j, by rw [hat]; rfl, ?_⟩
        conv => whnf
        refine HC.frame [0, 1, 2, 3, 4, 5, 6, 7, 8] ih (.refl _) (subW1 k l rfl rfl rfl rfl rfl rfl rfl rfl rfl) rfl (by simp [W1]) (ler _ _) rfl ?_
        rintro r H0' ⟨nm, rfl, rfl⟩ _
        generalize hG : putB _ _ _ _ = GG
        have hG2 : GG = [.var k.D, .var (.agg [.sl 3 0 l.steps.length, .map 2]), .map (mapD l.best), rowL l, .var (.ptr 1 []), .map (mapI nm), .var (.map 5), .var (.sl 10 0 L.length), .var needF, .var x.D, .row sh6 (L.map Stp.D)] := by
          rw [← hG]
          simp [putB, outN, W1, W2, renO, ren_mapD, ren_mapI, renD, renDs, ren_cls _ _ (cl_stps _), rowL, List.range_succ, needF, ren_cl _ _ (show clD k.D = true from rfl)]
          rfl
        subst hG2
        clear hG
        conv => whnf
        refine ob (Nat.le_refl 1) ?_
        conv => whnf
        refine ob (by simp) ?_
        refine ob (show L.length + 1 ≤ 2147483648 by omega) ?_
        conv => whnf
        refine iv L.length (by
          show IntKind.i64.wrap (((L.length + 1 : Nat) : Int) - 1) = L.length
          rw [w64 (by omega) (by omega)]; omega) ?_
        conv => whnf
        refine ob (keys_mapI _ _ (fun s => rfl) nm) ?_
        conv => whnf
        refine ob ?_ ?_
        · show keysOk _ _ (setM (mapI nm) (.int .i64 i) (.int .i64 L.length))
          rw [set_mapI]; exact keys_mapI _ _ (fun s => rfl) _
        refine ⟨some (.int .i64 L.length), ?_, ?_⟩
        · show lookM (setM (mapI nm) (.int .i64 i) (.int .i64 L.length)) (.int .i64 i) = _
          rw [set_mapI, look_setI]
        conv => whnf
        refine ⟨rfl, nm, .var (.agg [.int .i64 x.s.n, .int .i64 x.s.d, .bool x.s.up, .int .i64 x.v, .int .i64 x.by_, .sl 11 0 1]), .row sh6 [.agg [.int .i64 x.s.n, .int .i64 x.s.d, .bool x.s.up, .int .i64 x.v, .int .i64 x.by_, .sl 11 0 1]], ?_⟩
        have e : ((L.map Stp.D).drop 0).take L.length = L.map Stp.D := by simp [List.take_of_length_le]
        conv => rhs; rw [← set_mapI, ← e]
        rfl
      · simp at h1; omega
    · rintro r H' ⟨rfl, nm, a, b, rfl⟩
      refine ⟨[.var k.D, .var (.agg [.sl 3 0 l.steps.length, .map 2]), .map (mapD l.best), rowL l, .var (.ptr 1 []), .map (mapI (setI nm i L.length)), .var (.map 5), .var (.sl 13 0 (L.length + 1)), .var needF, a, .dead, .frz .leaf [.int .i64 (L.length - 1 : Nat)], b,
        .row sh6 ((L ++ [(⟨x.s, x.v, x.by_, [((L.length - 1 : Nat) : Int)]⟩ : Stp)]).map Stp.D)], W2 k l (setI nm i L.length) (L ++ [(⟨x.s, x.v, x.by_, [((L.length - 1 : Nat) : Int)]⟩ : Stp)]), [0, 1, 2, 3, 4, 5, 6, 7, 8, 13], .int .i64 L.length, ?_, ?_, rfl, Nat.le_of_ble_eq_true rfl, keep9 _ _ _, rfl, .refl _, _, ?_, rfl⟩
      · refine Frz.step 11 .leaf [.int .i64 (L.length - 1 : Nat)] rfl rfl ?_
        refine Frz.row 13 sh6 ((L ++ [(⟨x.s, x.v, x.by_, [((L.length - 1 : Nat) : Int)]⟩ : Stp)]).map Stp.D) _ rfl ?_ ?_ (ok_stps _) (.refl _)
        · rw [List.map_append]
          refine leDs_app _ _ (.cons _ _ _ _ ?_ .nil)
          refine .agg _ _ (.cons _ _ _ _ (.refl _) (.cons _ _ _ _ (.refl _) (.cons _ _ _ _ (.refl _) (.cons _ _ _ _ (.refl _) (.cons _ _ _ _ (.refl _) (.cons _ _ _ _ ?_ .nil)))))) rfl
          exact LeD.frz 11 0 1 .leaf [.int .i64 (L.length - 1 : Nat)] rfl (Nat.le_refl 1)
        · rw [List.map_append, shapes_app, shapes_app]; rfl
      · exact subW2 k l _ _ 13 rfl rfl rfl rfl rfl rfl rfl (by simp) rfl rfl
      · simp

end Go.Proofs.Ythplmnpfaagciaa.Pw

/- Why. -/
set_option linter.unusedVariables false
set_option linter.unusedSimpArgs false
namespace Go.Proofs.Ythplmnpfaagciaa.Pw
open Go

def Known.s (k : Known) : Side := ⟨k.n, k.d, k.up⟩
def stepsD (L : List Stp) : D := .list false sh6 (L.map Stp.D)
/-- What Why returns. -/
structure WhyR (K : List Known) (G : List Int) (k : Known) (L : List Stp) (e : Int) : Prop where
  bad : (rightK K = false ∨ ¬ isC 8 k.s) → L = [] ∧ e = 1
  none : rightK K = true → isC 8 k.s → bst K G 8 k.s ≠ k.v → L = [] ∧ e = 4
  ok : rightK K = true → isC 8 k.s → bst K G 8 k.s = k.v → e = 0 ∧ ∃ l i, (Closd K G 8 l ∧ LogS K G 8 l) ∧ lookA l.best k.s = some i ∧ Chain l.steps i L

theorem vWhy (fk fg : Bool) (K : List Known) (G : List Int) (k : Known) :
    Val Try.prog 30 [.list fk sh5 (K.map Known.D), .list fg .leaf (G.map (.int .i64)), k.D] (fun r => ∃ L e, r = .tuple [stepsD L, .int .i64 e] ∧ WhyR K G k L e) := by
  refine HC.ret (Q0 := fun r H' => (∃ e, r = .tuple [.nils, .int .i64 e] ∧ WhyR K G k [] e) ∨ ∃ L l nm, WhyR K G k L 0 ∧ r = .tuple [.sl 9 0 L.length, .int .i64 0] ∧ H' = W2 k l nm L) ?_ ?_
  · refine hc_of (okc Try.f30.ntmps 0) (fn := Try.f30) (cd := _) rfl rfl rfl rfl rfl rfl (fun hb => ?_)
    conv => whnf
    refine Val.call (vRight fk K) (.refl _) (ler _ _) rfl ?_
    rintro r rfl
    conv => whnf
    refine ifb (fun h1 => ?_) (fun h1 => ?_)
    · have h1 : rightK K = false := by
        cases hr : rightK K
        · rfl
        · rw [hr] at h1; simp at h1
      conv => whnf
      exact .inl ⟨1, rfl, ⟨fun _ => ⟨rfl, rfl⟩, fun h => by rw [h1] at h; (cases h), fun h => by rw [h1] at h; (cases h)⟩⟩
    · have h1 : rightK K = true := by
        cases hr : rightK K
        · rw [hr] at h1; simp at h1
        · rfl
      conv => whnf
      refine HC.val (hcCell k.n k.d 8) (.refl _) (ler _ _) rfl ?_
      rintro r H0' ⟨rfl, rfl⟩
      refine ⟨rfl, rfl, ?_⟩
      conv => whnf
      refine ifb (fun h2 => ?_) (fun h2 => ?_)
      · have h2 : ¬ isC 8 k.s := by
          rw [← cell_iff]
          have : isCell k.n k.d 8 = false := by simpa using h2
          show ¬ isCell k.n k.d 8 = true
          rw [this]; simp
        conv => whnf
        exact .inl ⟨1, rfl, ⟨fun _ => ⟨rfl, rfl⟩, fun _ h => absurd h h2, fun _ h => absurd h h2⟩⟩
      · have h2 : isC 8 k.s := by
          rw [← cell_iff]
          have : isCell k.n k.d 8 = true := by simpa using h2
          exact this
        conv => whnf
        refine HC.frame [] (hcClosure fk fg K G 8 (by omega) h1) (.refl _) trivial rfl (by simp) (ler _ _) rfl ?_
        rintro r H0' ⟨l, ⟨hl, hlS⟩, rfl, rfl⟩ _
        generalize hG : putB _ _ _ _ = GG
        have hG2 : GG = [.var k.D, .var (.agg [.sl 3 0 l.steps.length, .map 2]), .map (mapD l.best), rowL l] := by
          rw [← hG]
          simp [putB, outN, LN, renO, ren_mapD, renD, renDs, ren_cls _ _ (cl_stps _), rowL, List.range_succ]
          rfl
        subst hG2
        clear hG
        obtain ⟨i, y, hi, hy, hys, _, hy1, hy2⟩ := hl.inv.at hl.full h2
        have hil := (List.getElem?_eq_some_iff.1 hy).1
        have hbst := (hl.best h2 hi hy).eq
        obtain ⟨L, hL⟩ := hl.inv.chain i hil
        have hlen := hl.inv.len
        conv => whnf
        refine dr 13 rfl ?_
        conv => whnf
        refine ob (keys_map _ _ (fun s => rfl) _) ?_
        refine ⟨some (.int .i64 i), ?_, ?_⟩
        · show lookM (mapD l.best) k.s.D = _
          rw [look_map, hi]; rfl
        conv => whnf
        refine dr 11 rfl ?_
        conv => whnf
        refine ob (by omega) ?_
        conv => whnf
        refine ⟨y.D, .int .i64 y.v, by simp [hy], rfl, ?_⟩
        conv => whnf
        refine ifb (fun h3 => ?_) (fun h3 => ?_)
        · have h3 : y.v ≠ k.v := by simpa using h3
          conv => whnf
          exact .inl ⟨4, rfl, ⟨fun h => by rcases h with h | h; (rw [h1] at h; cases h); exact absurd h2 h, fun _ _ _ => ⟨rfl, rfl⟩, fun _ _ h => absurd (hbst.symm.trans h) h3⟩⟩
        · have h3 : y.v = k.v := by simpa using h3
          conv => whnf
          refine HC.mono (hcNeed k l (by omega) hL) ?_
          rintro r H' ⟨nm, rfl, rfl⟩
          conv => whnf
          exact .inr ⟨L, l, nm, ⟨fun h => by rcases h with h | h; (rw [h1] at h; cases h); exact absurd h2 h, fun _ _ h => absurd (hbst.trans h3) h, fun _ _ _ => ⟨rfl, l, i, ⟨hl, hlS⟩, hi, hL⟩⟩, rfl, rfl⟩
  · rintro r H' (⟨e, rfl, h⟩ | ⟨L, l, nm, h, rfl, rfl⟩)
    · exact ⟨_, .tuple [stepsD [], .int .i64 e], .refl _, .tuple _ _ (.cons _ _ _ _ (.nils _) (.cons _ _ _ _ (.refl _) .nil)), rfl, [], e, rfl, h⟩
    · refine ⟨(W2 k l nm L).set 9 (.frz sh6 (L.map Stp.D)), .tuple [stepsD L, .int .i64 0], Frz.step 9 sh6 (L.map Stp.D) rfl (cl_stps L) (.refl _), ?_, ?_, L, 0, rfl, h⟩
      · have := LeD.frz (H := (W2 k l nm L).set 9 (.frz sh6 (L.map Stp.D))) 9 0 L.length sh6 (L.map Stp.D) rfl (by simp)
        rw [show ((L.map Stp.D).drop 0).take L.length = L.map Stp.D from by simp [List.take_of_length_le]] at this
        exact .tuple _ _ (.cons _ _ _ _ this (.cons _ _ _ _ (.refl _) .nil))
      · rfl

end Go.Proofs.Ythplmnpfaagciaa.Pw
