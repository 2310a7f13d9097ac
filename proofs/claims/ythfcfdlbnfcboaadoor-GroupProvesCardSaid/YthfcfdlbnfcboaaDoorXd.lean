/- Parts of the proof, merged: YQ ZD YR ZE ZF ZG YS ZH ZI YT. -/
import Derived.Test.YthfcfdlbnfcboaaDoorXc
import Derived.Test.YthfcfdlbnfcboaaDoorPe

set_option linter.unusedVariables false
set_option linter.unusedSimpArgs false
set_option maxHeartbeats 4000000
set_option maxRecDepth 10000
namespace Go.Proofs.YthfcfdlbnfcboaaDoor.Pw
open Go
theorem exB_orb : orbX exBX = [[0, 1], [2]] := by decide +kernel
def bigI : Inc := ⟨8, []⟩
theorem vBigProve : Val Tryd.prog 39 [bigI.D] (fun r => r = .tuple [prfI [], .int .i64 2]) := by
  refine Val.ofV ?_
  refine hc_ofS (okc Tryd.f39.ntmps 0) (fn := Tryd.f39) (cd := _) rfl rfl rfl rfl rfl rfl (fun hbd => ?_)
  all_goals (conv => whnf)
  exact fin_in ⟨_, .tuple [prfI [], .int .i64 2], .refl _, .tuple _ _ (.cons _ _ _ _ (.agg _ _ (.cons _ _ _ _ (.nils _) .nil) rfl) (.cons _ _ _ _ (.refl _) .nil)), rfl, rfl⟩
theorem vBigProved : Val Tryd.prog 9 [bigI.D] (fun r => r = .agg [prfI [], .int .i64 2]) := by
  have h := vBigProve
  refine Val.ofV ?_
  refine hc_ofS (okc Tryd.f9.ntmps 0) (fn := Tryd.f9) (cd := _) rfl rfl rfl rfl rfl rfl (fun hbd => ?_)
  repeat' (
   conv => whnf
   first
   | ((with_reducible refine hcI ?_); refine Val.call h (.refl _) (ler _ _) rfl ?_; rintro r rfl))
  all_goals (conv => whnf)
  exact fC rfl rfl
theorem vBigOrderG : Val Tryd.prog 45 [bigI.D] (fun r => r = .tuple [iD 0, .int .i64 2]) := by
  refine Val.ofV ?_
  refine hc_ofS (okc Tryd.f45.ntmps 0) (fn := Tryd.f45) (cd := _) rfl rfl rfl rfl rfl rfl (fun hbd => ?_)
  all_goals (conv => whnf)
  exact fC rfl rfl
theorem vBigOrder : Val Tryd.prog 15 [bigI.D] (fun r => r = .agg [iD 0, .int .i64 2]) := by
  have h := vBigOrderG
  refine Val.ofV ?_
  refine hc_ofS (okc Tryd.f15.ntmps 0) (fn := Tryd.f15) (cd := _) rfl rfl rfl rfl rfl rfl (fun hbd => ?_)
  repeat' (
   conv => whnf
   first
   | ((with_reducible refine hcI ?_); refine Val.call h (.refl _) (ler _ _) rfl ?_; rintro r rfl))
  all_goals (conv => whnf)
  exact fC rfl rfl
theorem vPlane : Val Tryd.prog 33 [] (fun r => r = plX.D) := by
  have h := vMadeR [3, 6] (by decide)
  rw [plX_eq] at h
  refine Val.ofV ?_
  refine hc_ofS (okc Tryd.f33.ntmps 0) (fn := Tryd.f33) (cd := _) rfl rfl rfl rfl rfl rfl (fun hbd => ?_)
  repeat' (
   conv => whnf
   first
   | ((with_reducible refine hcI ?_); refine Val.call h (.step 1 .leaf (bytesL [3, 6]) rfl rfl (.refl _)) (.cons _ _ _ _ (.agg _ _ (.cons _ _ _ _ (leRow rfl rfl) .nil) rfl) .nil) rfl ?_; rintro r rfl))
  all_goals (conv => whnf)
  exact fC rfl rfl
theorem hcNorm {P : Program} {f : FuncId} {args : List D} {H : List Ob} (H2 : List Ob) {Q : D → List Ob → Prop} (h : H = H2) (hq : HC P f args H2 Q) : HC P f args H Q := by subst h; exact hq
theorem vExamples : Val Tryd.prog 7 [] (fun r => r = .bool true) := by
  have hpl := vProved plX plX_fam
  obtain ⟨PL, hPL⟩ : ∃ PL, (List.range plX.V).map (fun i => toI (lvK plX i (plX.V - i))) = PL := ⟨_, rfl⟩
  rw [hPL] at hpl
  have hPLl : PL.length = 7 := by rw [← hPL]; rfl
  have hPLl2 := lvlsL_len PL
  have hPb : ∀ l ∈ PL, l.1.length ≤ 1000000 ∧ l.2.length ≤ 1000000 := by
    intro l hl
    rw [← hPL] at hl
    obtain ⟨i, _, rfl⟩ := List.mem_map.1 hl
    have := lvK_len plX i (plX.V - i)
    have hv : plX.V = 7 := rfl
    simp only [toI, List.length_map]
    omega
  have hchk := vChecked plX plX_fam PL hPb
  have hN : chkN plX PL = 168 := by rw [← hPL, chkN_prf plX_fam]; exact pl_ord
  rw [hN] at hchk
  have hord := vLawOrder plX plX_fam.ok plX_fam.v7
  rw [show ordK plX plX.V = 168 from pl_ord] at hord
  obtain ⟨⟨y0, n0⟩, h0⟩ : ∃ l, l = toI (lvK plX 0 7) := ⟨_, rfl⟩
  obtain ⟨⟨y1, n1⟩, h1⟩ : ∃ l, l = toI (lvK plX 1 6) := ⟨_, rfl⟩
  obtain ⟨⟨y2, n2⟩, h2⟩ : ∃ l, l = toI (lvK plX 2 5) := ⟨_, rfl⟩
  have hy0 : (rchL y0).length = 7 := by
    have : y0 = (toI (lvK plX 0 7)).1 := by rw [← h0]
    rw [rchL_len, this]; simp only [toI, List.length_map]; rw [lvK_cnt]; exact pl_0
  have hy1 : (rchL y1).length = 6 := by
    have : y1 = (toI (lvK plX 1 6)).1 := by rw [← h1]
    rw [rchL_len, this]; simp only [toI, List.length_map]; rw [lvK_cnt]; exact pl_1
  have hy2 : (rchL y2).length = 4 := by
    have : y2 = (toI (lvK plX 2 5)).1 := by rw [← h2]
    rw [rchL_len, this]; simp only [toI, List.length_map]; rw [lvK_cnt]; exact pl_2
  have e0 : PL[Int.toNat 0]? = some (y0, n0) := by rw [← hPL, h0]; rfl
  have e1 : PL[Int.toNat 1]? = some (y1, n1) := by rw [← hPL, h1]; rfl
  have e2 : PL[Int.toNat 2]? = some (y2, n2) := by rw [← hPL, h2]; rfl
  have hoA := vLawOrder exA exA_fam.ok exA_fam.v7
  rw [show ordK exA exA.V = 1 from exA_ord] at hoA
  have hoB := vLawOrder exBX exB_fam.ok exB_fam.v7
  rw [show ordK exBX exBX.V = 2 from exB_ord] at hoB
  have hob := vLawOrbits exBX exB_fam.ok exB_fam.v7
  rw [exB_orb] at hob
  have hcA := vChecked exA exA_fam [] (by simp)
  rw [show chkN exA [] = 0 from rfl] at hcA
  have hal := vAlike [[0, 1], [2]] [[0, 1], [2]] (by decide) (by decide)
  rw [decide_eq_true rfl] at hal
  have hi1 := vIs exBX [1, 0, 2] (by decide) exB_fam.ok.b exB_fam.ok.n exB_fam.bits
  rw [exB_is1] at hi1
  have hi2 := vIs exBX [0, 2, 1] (by decide) exB_fam.ok.b exB_fam.ok.n exB_fam.bits
  rw [exB_is2] at hi2
  have hi3 := vIs exBX [0, 1] (by decide) exB_fam.ok.b exB_fam.ok.n exB_fam.bits
  rw [exB_is3] at hi3
  clear h0 h1 h2 hPL hPb hN
  refine Val.ofV ?_
  refine hc_ofS (okc Tryd.f7.ntmps 0) (fn := Tryd.f7) (cd := _) rfl rfl rfl rfl rfl rfl (fun hbd => ?_)
  repeat' (
   conv => whnf
   first
   | ((with_reducible refine hcI ?_); refine Val.call vPlane (.refl _) (ler _ _) rfl ?_; rintro r rfl)
   | ((with_reducible refine hcI ?_); refine Val.call hpl (.refl _) (ler _ _) rfl ?_; rintro r rfl)
   | ((with_reducible refine hcI ?_); refine Val.call hchk (.refl _) (ler _ _) rfl ?_; rintro r rfl)
   | ((with_reducible refine hcI ?_); refine Val.call hord (.refl _) (ler _ _) rfl ?_; rintro r rfl)
   | refine ifn (fun h => ?_) (fun h => ?_)
   | ((with_reducible refine exLv e0 ?_))
   | ((with_reducible refine exLv e1 ?_))
   | ((with_reducible refine exLv e2 ?_))
   | ((with_reducible apply ob); ((first | rfl | assumption | omega | (unfold maxLen2; omega) | (dsimp only; omega) | (simp only [LN]; omega) | (simp; done) | (simp; omega)))))
  all_goals (conv => whnf)
  all_goals (first | (exfalso; omega) | skip)
  refine hcNorm [.var plX.D, .var (.agg [prfI PL, .int .i64 0]), .row .leaf (setsL [2, 3]), .var (.agg [.int .i64 3, .sl 2 0 2]), .row .leaf (setsL [3]), .var (.agg [.int .i64 3, .sl 4 0 1]), .var (.agg [.int .i64 8, .nils])] rfl ?_
  refine Val.call hob (.step 4 .leaf (setsL [3]) rfl rfl (.refl _)) (.cons _ _ _ _ (show LeD _ exBX.D (.agg [.int .i64 3, .sl 4 0 1]) from .agg _ _ (.cons _ _ _ _ (.refl _) (.cons _ _ _ _ (leRow (ds := setsL [3]) rfl rfl) .nil)) rfl) .nil) rfl ?_
  rintro r rfl
  all_goals (conv => whnf)
  all_goals (first | (exfalso; omega) | skip)
  refine hcNorm [.var plX.D, .var (.agg [prfI PL, .int .i64 0]), .row .leaf (setsL [2, 3]), .var (.agg [.int .i64 3, .sl 2 0 2]), .frz .leaf (setsL [3]), .var (.agg [.int .i64 3, .sl 4 0 1]), .var (.agg [.int .i64 8, .nils]), .var (.agg [rowsD [[0, 1], [2]], .int .i64 0])] rfl ?_
  refine Val.call hoA (.step 2 .leaf (setsL [2, 3]) rfl rfl (.refl _)) (.cons _ _ _ _ (show LeD _ exA.D (.agg [.int .i64 3, .sl 2 0 2]) from .agg _ _ (.cons _ _ _ _ (.refl _) (.cons _ _ _ _ (leRow (ds := setsL [2, 3]) rfl rfl) .nil)) rfl) .nil) rfl ?_
  rintro r rfl
  all_goals (conv => whnf)
  all_goals (first | (exfalso; omega) | skip)
  refine hcNorm [.var plX.D, .var (.agg [prfI PL, .int .i64 0]), .frz .leaf (setsL [2, 3]), .var (.agg [.int .i64 3, .sl 2 0 2]), .frz .leaf (setsL [3]), .var (.agg [.int .i64 3, .sl 4 0 1]), .var (.agg [.int .i64 8, .nils]), .var (.agg [rowsD [[0, 1], [2]], .int .i64 0])] rfl ?_
  refine Val.call hoB (.refl _) (.cons _ _ _ _ (show LeD _ exBX.D (.agg [.int .i64 3, .sl 4 0 1]) from .agg _ _ (.cons _ _ _ _ (.refl _) (.cons _ _ _ _ (leRow (ds := setsL [3]) rfl rfl) .nil)) rfl) .nil) rfl ?_
  rintro r rfl
  all_goals (conv => whnf)
  all_goals (first | (exfalso; omega) | skip)
  refine hcNorm [.var plX.D, .var (.agg [prfI PL, .int .i64 0]), .frz .leaf (setsL [2, 3]), .var (.agg [.int .i64 3, .sl 2 0 2]), .frz .leaf (setsL [3]), .var (.agg [.int .i64 3, .sl 4 0 1]), .var (.agg [.int .i64 8, .nils]), .var (.agg [rowsD [[0, 1], [2]], .int .i64 0]), .row .leaf (intsL [0, 1]), .row .leaf (intsL [2]), .row .leaf [.sl 8 0 2, .sl 9 0 1]] rfl ?_
  refine Val.call hal (.step 8 .leaf (intsL [0, 1]) rfl rfl (.step 9 .leaf (intsL [2]) rfl rfl (frzRow 10 [.sl 8 0 2, .sl 9 0 1] (rowsL [[0, 1], [2]]) rfl rfl (.cons _ _ _ _ (leRow (ds := intsL [0, 1]) rfl rfl) (.cons _ _ _ _ (leRow (ds := intsL [2]) rfl rfl) .nil)) rfl rfl (.step 10 .leaf (rowsL [[0, 1], [2]]) rfl rfl (.refl _))))) (.cons _ _ _ _ (.refl _) (.cons _ _ _ _ (leRow (ds := rowsL [[0, 1], [2]]) rfl rfl) .nil)) rfl ?_
  rintro r rfl
  all_goals (conv => whnf)
  all_goals (first | (exfalso; omega) | skip)
  refine hcNorm [.var plX.D, .var (.agg [prfI PL, .int .i64 0]), .frz .leaf (setsL [2, 3]), .var (.agg [.int .i64 3, .sl 2 0 2]), .frz .leaf (setsL [3]), .var (.agg [.int .i64 3, .sl 4 0 1]), .var (.agg [.int .i64 8, .nils]), .var (.agg [rowsD [[0, 1], [2]], .int .i64 0]), .frz .leaf (intsL [0, 1]), .frz .leaf (intsL [2]), .frz .leaf (rowsL [[0, 1], [2]])] rfl ?_
  refine Val.call hcA (.refl _) (.cons _ _ _ _ (show LeD _ exA.D (.agg [.int .i64 3, .sl 2 0 2]) from .agg _ _ (.cons _ _ _ _ (.refl _) (.cons _ _ _ _ (leRow (ds := setsL [2, 3]) rfl rfl) .nil)) rfl) (.cons _ _ _ _ (.agg _ _ (.cons _ _ _ _ (.nils _) .nil) rfl) .nil)) rfl ?_
  rintro r rfl
  all_goals (conv => whnf)
  all_goals (first | (exfalso; omega) | skip)
  refine hcNorm [.var plX.D, .var (.agg [prfI PL, .int .i64 0]), .frz .leaf (setsL [2, 3]), .var (.agg [.int .i64 3, .sl 2 0 2]), .frz .leaf (setsL [3]), .var (.agg [.int .i64 3, .sl 4 0 1]), .var (.agg [.int .i64 8, .nils]), .var (.agg [rowsD [[0, 1], [2]], .int .i64 0]), .frz .leaf (intsL [0, 1]), .frz .leaf (intsL [2]), .frz .leaf (rowsL [[0, 1], [2]])] rfl ?_
  refine Val.call vBigProved (.refl _) (.cons _ _ _ _ (show LeD _ bigI.D (.agg [.int .i64 8, .nils]) from .agg _ _ (.cons _ _ _ _ (.refl _) (.cons _ _ _ _ (.nils _) .nil)) rfl) .nil) rfl ?_
  rintro r rfl
  all_goals (conv => whnf)
  all_goals (first | (exfalso; omega) | skip)
  refine hcNorm [.var plX.D, .var (.agg [prfI PL, .int .i64 0]), .frz .leaf (setsL [2, 3]), .var (.agg [.int .i64 3, .sl 2 0 2]), .frz .leaf (setsL [3]), .var (.agg [.int .i64 3, .sl 4 0 1]), .var (.agg [.int .i64 8, .nils]), .var (.agg [rowsD [[0, 1], [2]], .int .i64 0]), .frz .leaf (intsL [0, 1]), .frz .leaf (intsL [2]), .frz .leaf (rowsL [[0, 1], [2]])] rfl ?_
  refine Val.call vBigOrder (.refl _) (.cons _ _ _ _ (show LeD _ bigI.D (.agg [.int .i64 8, .nils]) from .agg _ _ (.cons _ _ _ _ (.refl _) (.cons _ _ _ _ (.nils _) .nil)) rfl) .nil) rfl ?_
  rintro r rfl
  all_goals (conv => whnf)
  all_goals (first | (exfalso; omega) | skip)
  refine hcNorm [.var plX.D, .var (.agg [prfI PL, .int .i64 0]), .frz .leaf (setsL [2, 3]), .var (.agg [.int .i64 3, .sl 2 0 2]), .frz .leaf (setsL [3]), .var (.agg [.int .i64 3, .sl 4 0 1]), .var (.agg [.int .i64 8, .nils]), .var (.agg [rowsD [[0, 1], [2]], .int .i64 0]), .frz .leaf (intsL [0, 1]), .frz .leaf (intsL [2]), .frz .leaf (rowsL [[0, 1], [2]]), .row .leaf (intsL [1, 0, 2])] rfl ?_
  refine Val.call hi1 (.step 11 .leaf (intsL [1, 0, 2]) rfl rfl (.refl _)) (.cons _ _ _ _ (show LeD _ exBX.D (.agg [.int .i64 3, .sl 4 0 1]) from .agg _ _ (.cons _ _ _ _ (.refl _) (.cons _ _ _ _ (leRow (ds := setsL [3]) rfl rfl) .nil)) rfl) (.cons _ _ _ _ (leRow (ds := intsL [1, 0, 2]) rfl rfl) .nil)) rfl ?_
  rintro r rfl
  all_goals (conv => whnf)
  all_goals (first | (exfalso; omega) | skip)
  refine hcNorm [.var plX.D, .var (.agg [prfI PL, .int .i64 0]), .frz .leaf (setsL [2, 3]), .var (.agg [.int .i64 3, .sl 2 0 2]), .frz .leaf (setsL [3]), .var (.agg [.int .i64 3, .sl 4 0 1]), .var (.agg [.int .i64 8, .nils]), .var (.agg [rowsD [[0, 1], [2]], .int .i64 0]), .frz .leaf (intsL [0, 1]), .frz .leaf (intsL [2]), .frz .leaf (rowsL [[0, 1], [2]]), .frz .leaf (intsL [1, 0, 2]), .row .leaf (intsL [0, 2, 1])] rfl ?_
  refine Val.call hi2 (.step 12 .leaf (intsL [0, 2, 1]) rfl rfl (.refl _)) (.cons _ _ _ _ (show LeD _ exBX.D (.agg [.int .i64 3, .sl 4 0 1]) from .agg _ _ (.cons _ _ _ _ (.refl _) (.cons _ _ _ _ (leRow (ds := setsL [3]) rfl rfl) .nil)) rfl) (.cons _ _ _ _ (leRow (ds := intsL [0, 2, 1]) rfl rfl) .nil)) rfl ?_
  rintro r rfl
  all_goals (conv => whnf)
  all_goals (first | (exfalso; omega) | skip)
  refine hcNorm [.var plX.D, .var (.agg [prfI PL, .int .i64 0]), .frz .leaf (setsL [2, 3]), .var (.agg [.int .i64 3, .sl 2 0 2]), .frz .leaf (setsL [3]), .var (.agg [.int .i64 3, .sl 4 0 1]), .var (.agg [.int .i64 8, .nils]), .var (.agg [rowsD [[0, 1], [2]], .int .i64 0]), .frz .leaf (intsL [0, 1]), .frz .leaf (intsL [2]), .frz .leaf (rowsL [[0, 1], [2]]), .frz .leaf (intsL [1, 0, 2]), .frz .leaf (intsL [0, 2, 1]), .row .leaf (intsL [0, 1])] rfl ?_
  refine Val.call hi3 (.step 13 .leaf (intsL [0, 1]) rfl rfl (.refl _)) (.cons _ _ _ _ (show LeD _ exBX.D (.agg [.int .i64 3, .sl 4 0 1]) from .agg _ _ (.cons _ _ _ _ (.refl _) (.cons _ _ _ _ (leRow (ds := setsL [3]) rfl rfl) .nil)) rfl) (.cons _ _ _ _ (leRow (ds := intsL [0, 1]) rfl rfl) .nil)) rfl ?_
  rintro r rfl
  all_goals (conv => whnf)
  all_goals (first | (exfalso; omega) | skip)
  exact fC rfl rfl
end Go.Proofs.YthfcfdlbnfcboaaDoor.Pw



set_option linter.unusedVariables false
set_option linter.unusedSimpArgs false
set_option maxHeartbeats 1000000
set_option maxRecDepth 10000
namespace Go.Proofs.YthfcfdlbnfcboaaDoor.Pw
open Go
def prfX (x : Inc) : List Lvl := (List.range x.V).map fun i => toI (lvK x i (x.V - i))
theorem prfX_len (x : Inc) : (prfX x).length = x.V := by simp [prfX]
theorem prfX_b {x : Inc} (hx : x.V ≤ 7) : ∀ l ∈ prfX x, l.1.length ≤ 7 ∧ l.2.length ≤ 7 := by
  intro l hl
  obtain ⟨i, _, rfl⟩ := List.mem_map.1 hl
  have := lvK_len x i (x.V - i)
  simp only [toI, List.length_map]
  omega
end Go.Proofs.YthfcfdlbnfcboaaDoor.Pw



set_option linter.unusedVariables false
set_option linter.unusedSimpArgs false
set_option maxHeartbeats 4000000
set_option maxRecDepth 10000
namespace Go.Proofs.YthfcfdlbnfcboaaDoor.Pw
open Go
theorem tyU8 {n : Nat} {d : D} (h : TyD (cx 0 0) (n + 1) 5 d) : ∃ x : Nat, d = .int .u8 (x : Int) ∧ x < 256 := by
  obtain ⟨x, rfl, hx⟩ := h
  have hx : (decide (IntKind.u8.min ≤ x) && decide (x ≤ IntKind.u8.max)) = true := hx
  simp only [Bool.and_eq_true, decide_eq_true_eq] at hx
  have h1 : IntKind.u8.min = 0 := by decide
  have h2 : IntKind.u8.max = 255 := by decide
  exact ⟨x.toNat, by rw [Int.toNat_of_nonneg (by omega)], by omega⟩
theorem tyU8s {n : Nat} {d : D} (h : TyD (cx 0 0) (n + 2) 22 d) : ∃ l, d = bytesD l ∧ ∀ x ∈ l, x < 256 := by
  obtain ⟨ds, rfl, hds⟩ := h
  have : ∀ es : List D, (∀ x ∈ es, TyD (cx 0 0) (n + 1) 5 x) → ∃ l, es = bytesL l ∧ ∀ x ∈ l, x < 256 := by
    intro es
    induction es with
    | nil => intro _; exact ⟨[], rfl, by simp⟩
    | cons d es ih =>
      intro h
      obtain ⟨l, rfl, hl⟩ := ih (fun x hx => h x (by simp [hx]))
      obtain ⟨x, rfl, hx⟩ := tyU8 (h d (by simp))
      exact ⟨x :: l, rfl, by intro y hy; rcases List.mem_cons.1 hy with rfl | hy; exact hx; exact hl y hy⟩
  obtain ⟨l, rfl, hl⟩ := this ds hds
  exact ⟨l, rfl, hl⟩
theorem tyRaw {d : D} (h : TyD (cx 0 0) 6 24 d) : ∃ l, d = .agg [bytesD l] ∧ ∀ x ∈ l, x < 256 := by
  obtain ⟨ds, rfl, hl, hds⟩ := h
  match ds, hl with
  | [e], _ =>
    obtain ⟨l, rfl, hl⟩ := tyU8s (hds 0 22 e rfl rfl)
    exact ⟨l, rfl, hl⟩
end Go.Proofs.YthfcfdlbnfcboaaDoor.Pw



set_option linter.unusedVariables false
set_option linter.unusedSimpArgs false
set_option maxHeartbeats 1000000
set_option maxRecDepth 10000
namespace Go.Proofs.YthfcfdlbnfcboaaDoor.Pw
open Go
def pk : Nat → List Int → Nat → List Int
  | 0, _, _ => []
  | m + 1, rest, k => rest.getD (k / factL m % (m + 1)) 0 :: pk m (rest.take (k / factL m % (m + 1)) ++ rest.drop (k / factL m % (m + 1) + 1)) k
theorem perS_pk (n k : Nat) : ∀ m t, t + m = n → (perS n k n).2 = (perS n k t).2 ++ pk m (perS n k t).1 k
  | 0, t, h => by simp at h; subst h; simp [pk]
  | m + 1, t, h => by
    rw [perS_pk n k m (t + 1) (by omega)]
    have hp : perA n k t = k / factL m % (m + 1) := by unfold perA; rw [show n - t - 1 = m by omega, show n - t = m + 1 by omega]
    simp only [perS, pk, hp, List.append_assoc, List.cons_append, List.nil_append]
def permL (n k : Nat) : List Int := (perS n k n).2
theorem permL_pk (n k : Nat) : permL n k = pk n (oneI n) k := by unfold permL; rw [perS_pk n k n 0 (by omega)]; rfl
theorem fact_div {m k i : Nat} : (i * factL (m + 1) + k) / factL m % (m + 1) = k / factL m % (m + 1) := by
  have h0 := fact_pos m
  rw [show i * factL (m + 1) + k = k + factL m * (i * (m + 1)) by rw [factL]; rw [show i * ((m + 1) * factL m) = factL m * (i * (m + 1)) by rw [← Nat.mul_assoc, Nat.mul_comm]]; omega]
  rw [Nat.add_mul_div_left _ _ h0, show k / factL m + i * (m + 1) = k / factL m + (m + 1) * i by rw [Nat.mul_comm i], Nat.add_mul_mod_self_left]
theorem fact_dvd (j : Nat) : ∀ m, j ≤ m → ∃ c, factL m = c * factL j
  | 0, h => ⟨1, by rw [Nat.le_zero.1 h]; simp⟩
  | m + 1, h => by
    rcases Nat.lt_or_ge m j with h1 | h1
    · exact ⟨1, by rw [show j = m + 1 by omega]; simp⟩
    · obtain ⟨c, hc⟩ := fact_dvd j m h1
      exact ⟨(m + 1) * c, by rw [factL, hc, Nat.mul_assoc]⟩
theorem pk_mod (M i : Nat) : ∀ (m : Nat) (rest : List Int) (k : Nat), m ≤ M → pk m rest (i * factL M + k) = pk m rest k
  | 0, _, _, _ => rfl
  | m + 1, rest, k, h => by
    obtain ⟨c, hc⟩ := fact_dvd (m + 1) M h
    have e : (i * factL M + k) / factL m % (m + 1) = k / factL m % (m + 1) := by
      rw [hc, ← Nat.mul_assoc]; exact fact_div
    unfold pk
    rw [e, pk_mod M i m _ k (by omega)]
def allR : Nat → List Int → List (List Int)
  | 0, _ => [[]]
  | m + 1, rest => (List.range (m + 1)).flatMap fun i => (allR m (rest.take i ++ rest.drop (i + 1))).map (rest.getD i 0 :: ·)
theorem range_mul {β : Type} (f : Nat → β) (b : Nat) : ∀ a, (List.range (a * b)).map f = (List.range a).flatMap fun i => (List.range b).map fun r => f (i * b + r)
  | 0 => by simp
  | a + 1 => by
    rw [Nat.add_mul, Nat.one_mul, List.range_add, List.map_append, range_mul f b a, List.range_succ, List.flatMap_append]
    simp [List.map_map, Function.comp_def]
theorem flat_congr {α β : Type} {f g : α → List β} : ∀ {l : List α}, (∀ a ∈ l, f a = g a) → l.flatMap f = l.flatMap g
  | [], _ => rfl
  | a :: l, h => by rw [List.flatMap_cons, List.flatMap_cons, h a List.mem_cons_self, flat_congr fun b hb => h b (List.mem_cons_of_mem _ hb)]
theorem allR_pk : ∀ (m : Nat) (rest : List Int), (List.range (factL m)).map (pk m rest) = allR m rest
  | 0, _ => rfl
  | m + 1, rest => by
    have h0 := fact_pos m
    rw [show factL (m + 1) = (m + 1) * factL m from rfl, range_mul]
    unfold allR
    refine flat_congr fun i hi => ?_
    have hi := List.mem_range.1 hi
    rw [← allR_pk m, List.map_map]
    refine List.map_congr_left fun r hr => ?_
    have hr := List.mem_range.1 hr
    have e : (i * factL m + r) / factL m % (m + 1) = i := by
      rw [Nat.mul_comm, Nat.mul_add_div h0, Nat.div_eq_of_lt hr, Nat.add_zero, Nat.mod_eq_of_lt hi]
    show pk (m + 1) rest (i * factL m + r) = _
    rw [pk, e, pk_mod m i m _ r (Nat.le_refl _)]
    rfl
theorem take_drop_perm {l : List Int} {i : Nat} {a : Int} (h : l[i]? = some a) : l.Perm (a :: (l.take i ++ l.drop (i + 1))) := by
  have hi : i < l.length := (List.getElem?_eq_some_iff.1 h).1
  have e : l = l.take i ++ a :: l.drop (i + 1) := by
    conv => lhs; rw [← List.take_append_drop i l]
    rw [List.drop_eq_getElem_cons hi]
    rw [List.getElem?_eq_getElem hi] at h
    rw [Option.some.inj h]
  conv => lhs; rw [e]
  exact List.perm_middle
theorem allR_mem : ∀ (m : Nat) (rest g : List Int), rest.length = m → (g ∈ allR m rest ↔ g.Perm rest)
  | 0, rest, g, h => by
    have : rest = [] := List.eq_nil_of_length_eq_zero h
    subst this
    simp [allR]
  | m + 1, rest, g, h => by
    unfold allR
    rw [List.mem_flatMap]
    constructor
    · rintro ⟨i, hi, hg⟩
      have hi := List.mem_range.1 hi
      obtain ⟨g', hg', rfl⟩ := List.mem_map.1 hg
      have ha : rest[i]? = some (rest.getD i 0) := by
        have : rest[i]? = some rest[i] := List.getElem?_eq_getElem (by omega)
        rw [this, getD_of this]
      have hp := take_drop_perm ha
      have := (allR_mem m _ g' (by simp; omega)).1 hg'
      exact (this.cons _).trans hp.symm
    · intro hp
      cases g with
      | nil => have := hp.length_eq; simp at this; omega
      | cons a g' =>
        have ha : a ∈ rest := hp.mem_iff.1 List.mem_cons_self
        obtain ⟨i, hi, e⟩ := List.getElem_of_mem ha
        have ha2 : rest[i]? = some a := by rw [List.getElem?_eq_getElem hi, e]
        refine ⟨i, List.mem_range.2 (by omega), List.mem_map.2 ⟨g', ?_, by rw [getD_of ha2]⟩⟩
        exact (allR_mem m _ g' (by simp; omega)).2 (List.Perm.cons_inv (hp.trans (take_drop_perm ha2)))
theorem allR_nodup : ∀ (m : Nat) (rest : List Int), rest.length = m → rest.Nodup → (allR m rest).Nodup
  | 0, _, _, _ => by simp [allR]
  | m + 1, rest, h, hn => by
    unfold allR List.Nodup
    rw [List.pairwise_flatMap]
    constructor
    · intro i hi
      have hi := List.mem_range.1 hi
      have ha : rest[i]? = some (rest.getD i 0) := by
        have : rest[i]? = some rest[i] := List.getElem?_eq_getElem (by omega)
        rw [this, getD_of this]
      have hn2 := (List.nodup_cons.1 ((take_drop_perm ha).nodup_iff.1 hn)).2
      exact List.Pairwise.map _ (fun a b (hab : a ≠ b) => by intro e; exact hab (List.cons.inj e).2) (allR_nodup m _ (by simp; omega) hn2)
    · refine List.Pairwise.imp_of_mem (fun {i j} hi hj hij => ?_) (List.nodup_range (n := m + 1))
      intro x hx y hy
      obtain ⟨x', _, rfl⟩ := List.mem_map.1 hx
      obtain ⟨y', _, rfl⟩ := List.mem_map.1 hy
      have hi := List.mem_range.1 hi
      have hj := List.mem_range.1 hj
      intro e
      have e1 := (List.cons.inj e).1
      rw [getD_of (List.getElem?_eq_getElem (by omega : i < rest.length)), getD_of (List.getElem?_eq_getElem (by omega : j < rest.length))] at e1
      exact hij ((List.getElem_inj hn).1 e1)
theorem pm_perm {g : List Int} {n : Nat} : Pm g n ↔ g.Perm (oneI n) := by
  have h1 := one_pm n
  constructor
  · intro hg
    refine (List.perm_ext_iff_of_nodup hg.2.2 h1.2.2).2 fun a => ⟨fun ha => ?_, fun ha => ?_⟩
    · have := hg.2.1 a ha
      simp only [oneI, natsI, List.mem_map, List.mem_range]
      exact ⟨a.toNat, by omega, by omega⟩
    · have hnd : (g.map Int.toNat).Nodup := (nd_map (fun a ha b hb e => by have := hg.2.1 a ha; have := hg.2.1 b hb; omega)).2 hg.2.2
      have h2 := (count_lt n (g.map Int.toNat) (fun x hx => by
        obtain ⟨y, hy, rfl⟩ := List.mem_map.1 hx
        have := hg.2.1 y hy; omega) (by rw [List.length_map]; exact hg.1)).2 hnd
      have h3 := h1.2.1 a ha
      obtain ⟨y, hy, e⟩ := List.mem_map.1 (h2 a.toNat (by omega))
      have := hg.2.1 y hy
      have : y = a := by omega
      rw [← this]; exact hy
  · intro hp
    exact ⟨by rw [hp.length_eq]; exact h1.1, fun a ha => h1.2.1 a (hp.mem_iff.1 ha), hp.nodup_iff.2 h1.2.2⟩
def permsA (n : Nat) : List (List Int) := allR n (oneI n)
theorem permsA_mem (n : Nat) (g : List Int) : g ∈ permsA n ↔ Pm g n := by
  unfold permsA; rw [allR_mem n _ g (one_len n), pm_perm]
theorem permsA_nodup (n : Nat) : (permsA n).Nodup := allR_nodup n _ (one_len n) (one_pm n).2.2
theorem permL_all (n : Nat) : (List.range (factL n)).map (permL n) = permsA n := by
  unfold permsA
  rw [← allR_pk]
  exact List.map_congr_left fun k _ => permL_pk n k
theorem permL_pm {n k : Nat} (h : k < factL n) : Pm (permL n k) n := by
  rw [← permsA_mem, ← permL_all]
  exact List.mem_map.2 ⟨k, List.mem_range.2 h, rfl⟩
end Go.Proofs.YthfcfdlbnfcboaaDoor.Pw



set_option linter.unusedVariables false
set_option linter.unusedSimpArgs false
set_option maxHeartbeats 1000000
set_option maxRecDepth 10000
namespace Go.Proofs.YthfcfdlbnfcboaaDoor.Pw
open Go
theorem mul_len (a b : List Int) : (mulI a b).length = a.length := mulK_len a b _
theorem mul_get {a b : List Int} {k : Nat} (hk : k < a.length) : (mulI a b).getD k 0 = b.getD (a.getD k 0).toNat 0 := by
  have e : mulI a b = (List.range a.length).map (mulF a b) := mulK_map a b a.length
  rw [e, List.getD, List.getElem?_map, List.getElem?_range hk]; rfl
theorem pm_get {g : List Int} {n k : Nat} (hg : Pm g n) (hk : k < n) : 0 ≤ g.getD k 0 ∧ g.getD k 0 < n := by
  have h : k < g.length := by rw [hg.1]; exact hk
  rw [getD_of (List.getElem?_eq_getElem h)]
  exact hg.2.1 _ (List.getElem_mem h)
theorem ext_get {a b : List Int} {n : Nat} (ha : a.length = n) (hb : b.length = n) (h : ∀ k, k < n → a.getD k 0 = b.getD k 0) : a = b := by
  apply List.ext_getElem?
  intro k
  rcases Nat.lt_or_ge k n with hk | hk
  · have := h k hk
    have h1 : a[k]? = some a[k] := List.getElem?_eq_getElem (by omega)
    have h2 : b[k]? = some b[k] := List.getElem?_eq_getElem (by omega)
    rw [getD_of h1, getD_of h2] at this
    rw [h1, h2, this]
  · rw [List.getElem?_eq_none (by omega), List.getElem?_eq_none (by omega)]
theorem pm_eq {g : List Int} {n p q : Nat} (hg : Pm g n) (hp : p < n) (hq : q < n) (h : g.getD p 0 = g.getD q 0) : p = q := pm_inj hg hp hq (by rw [h])
theorem mul_cancel {a b c : List Int} {n : Nat} (ha : Pm a n) (hb : Pm b n) (hc : Pm c n) (h : mulI a c = mulI b c) : a = b := by
  refine ext_get ha.1 hb.1 fun k hk => ?_
  have e : (mulI a c).getD k 0 = (mulI b c).getD k 0 := by rw [h]
  rw [mul_get (by rw [ha.1]; exact hk), mul_get (by rw [hb.1]; exact hk)] at e
  have h1 := pm_get ha hk
  have h2 := pm_get hb hk
  have := pm_eq hc (by omega) (by omega) e
  omega
theorem mul_cancelL {a b c : List Int} {n : Nat} (ha : Pm a n) (hb : Pm b n) (hc : Pm c n) (h : mulI c a = mulI c b) : a = b := by
  have hs : ∀ q, q < n → ∃ p, p < n ∧ c.getD p 0 = (q : Int) := by
    intro q hq
    have hm : (q : Int) ∈ c := (pm_perm.1 hc).mem_iff.2 (by simp only [oneI, natsI, List.mem_map, List.mem_range]; exact ⟨q, hq, rfl⟩)
    obtain ⟨p, hp, e⟩ := List.getElem_of_mem hm
    exact ⟨p, by rw [← hc.1]; exact hp, by rw [getD_of (List.getElem?_eq_getElem hp)]; exact e⟩
  refine ext_get ha.1 hb.1 fun k hk => ?_
  obtain ⟨p, hp, e⟩ := hs k hk
  have e2 : (mulI c a).getD p 0 = (mulI c b).getD p 0 := by rw [h]
  rw [mul_get (by rw [hc.1]; exact hp), mul_get (by rw [hc.1]; exact hp), e] at e2
  simpa using e2
theorem trace_mul {a b : List Int} {V : Nat} (ha : Pm a V) (hb : Pm b V) (s : Nat) : traceB (mulI a b) s = traceB a (traceB b s) := by
  apply Nat.eq_of_testBit_eq
  intro q
  rw [traceB_bit, traceB_bit, traceB_bit, mul_len, ha.1, hb.1]
  by_cases h : q < V
  · have h1 := pm_get ha h
    rw [mul_get (by rw [ha.1]; exact h)]
    have h2 : (a.getD q 0).toNat < V := by omega
    rw [decide_eq_true h, decide_eq_true h2]; rfl
  · simp [h]
theorem aut_iff {x : Inc} (hx : x.Fam) {g : List Int} : Aut x g ↔ Pm g x.V ∧ x.B.Perm (x.B.map (traceB g)) := by
  have h1 := mapB_one hx
  unfold Aut OkM
  constructor
  · rintro ⟨hg, h⟩
    refine ⟨hg, ?_⟩
    rw [hg.1, h1] at h
    exact h
  · rintro ⟨hg, h⟩
    refine ⟨hg, ?_⟩
    rw [hg.1, h1]
    exact h
theorem aut_mul {x : Inc} (hx : x.Fam) {a b : List Int} (ha : Aut x a) (hb : Aut x b) : Aut x (mulI a b) := by
  rw [aut_iff hx] at ha hb ⊢
  refine ⟨mul_pm ha.1 hb.1, ?_⟩
  have h1 := hb.2.map (traceB a)
  rw [List.map_map] at h1
  refine (ha.2.trans h1).trans (List.Perm.of_eq ?_)
  exact List.map_congr_left fun s _ => (trace_mul ha.1 hb.1 s).symm
theorem aut_one {x : Inc} (hx : x.Fam) : Aut x (oneI x.V) := ⟨one_pm x.V, okM_one x x.V⟩
theorem inv_ex {m : List Int} {n : Nat} (hm : Pm m n) : ∃ h, Pm h n ∧ mulI m h = oneI n := by
  have h1 : ((permsA n).map (mulI m ·)).Nodup := (nd_map (fun a ha b hb e => mul_cancelL ((permsA_mem n a).1 ha) ((permsA_mem n b).1 hb) hm e)).2 (permsA_nodup n)
  have h2 : ∀ a ∈ (permsA n).map (mulI m ·), a ∈ permsA n := by
    intro a ha
    obtain ⟨b, hb, rfl⟩ := List.mem_map.1 ha
    exact (permsA_mem n _).2 (mul_pm hm ((permsA_mem n b).1 hb))
  have h4 : oneI n ∈ (permsA n).map (mulI m ·) := by
    refine Classical.byContradiction fun hn => ?_
    have := nd_le (oneI n :: (permsA n).map (mulI m ·)) (permsA n) (List.nodup_cons.2 ⟨hn, h1⟩) (by
      intro a ha
      rcases List.mem_cons.1 ha with rfl | ha
      · exact (permsA_mem n _).2 (one_pm n)
      · exact h2 a ha)
    simp at this
    omega
  obtain ⟨b, hb, e⟩ := List.mem_map.1 h4
  exact ⟨b, (permsA_mem n b).1 hb, e⟩
theorem aut_inv {x : Inc} (hx : x.Fam) {m h : List Int} (hm : Aut x m) (hh : Pm h x.V) (e : mulI m h = oneI x.V) : Aut x h := by
  rw [aut_iff hx] at hm ⊢
  refine ⟨hh, ?_⟩
  have hv := hx.v7
  have h1 : (x.B.map (traceB h)).map (traceB m) = x.B := by
    rw [List.map_map]
    conv => rhs; rw [← mapB_one hx]
    exact List.map_congr_left fun s _ => by show traceB m (traceB h s) = _; rw [← trace_mul hm.1 hh, e]
  have h2 : ((x.B.map (traceB h)).map (traceB m)).Perm (x.B.map (traceB m)) := by rw [h1]; exact hm.2
  have h3 := h2.map (fun b => movL m (bitsL b))
  have e1 : ((x.B.map (traceB h)).map (traceB m)).map (fun b => movL m (bitsL b)) = x.B.map (traceB h) := by
    rw [List.map_map]
    conv => rhs; rw [← List.map_id (x.B.map (traceB h))]
    refine List.map_congr_left fun b hb => ?_
    obtain ⟨s, _, rfl⟩ := List.mem_map.1 hb
    exact mov_trace (by omega) hm.1 (by have := trace_lt h s; rwa [hh.1] at this)
  have e2 : (x.B.map (traceB m)).map (fun b => movL m (bitsL b)) = x.B := by
    rw [List.map_map]
    conv => rhs; rw [← List.map_id x.B]
    exact List.map_congr_left fun b hb => mov_trace (by omega) hm.1 (hx.lt b hb)
  rw [e1, e2] at h3
  exact h3.symm
def autos (x : Inc) : List (List Int) := (permsA x.V).filter (isG x)
def preB (i j : Nat) (g : List Int) : Bool := decide (g.take (i + 1) = preI i j)
def stB (i : Nat) (g : List Int) : Bool := decide (g.take i = oneI i)
theorem autos_mem {x : Inc} (hx : x.Fam) (g : List Int) : g ∈ autos x ↔ Aut x g := by
  unfold autos
  rw [List.mem_filter, permsA_mem, isG_iff hx]
  exact ⟨fun h => h.2, fun h => ⟨h.1, h⟩⟩
theorem autos_nodup (x : Inc) : (autos x).Nodup := (permsA_nodup x.V).filter _
theorem take_one_iff {g : List Int} {i : Nat} (hl : i ≤ g.length) : g.take i = oneI i ↔ ∀ k, k < i → g.getD k 0 = (k : Int) := by
  constructor
  · intro h k hk
    have e : (g.take i).getD k 0 = g.getD k 0 := by simp [List.getD, List.getElem?_take, hk]
    rw [← e, h, one_getD i k hk]
  · intro h
    refine ext_get (n := i) (by simp; omega) (one_len i) fun k hk => ?_
    have e : (g.take i).getD k 0 = g.getD k 0 := by simp [List.getD, List.getElem?_take, hk]
    rw [e, h k hk, one_getD i k hk]
theorem take_pre_iff {g : List Int} {i j : Nat} (hl : i < g.length) : g.take (i + 1) = preI i j ↔ g.take i = oneI i ∧ g.getD i 0 = (j : Int) := by
  have h1 : g[i]? = some g[i] := List.getElem?_eq_getElem hl
  rw [List.take_add_one, h1, getD_of h1]
  unfold preI
  constructor
  · intro h
    have := List.append_inj' h (by simp)
    exact ⟨this.1, by simpa using this.2⟩
  · rintro ⟨h2, h3⟩
    rw [h2, h3]; rfl
theorem split_len {α : Type} (f : α → Nat) : ∀ (J : List Nat) (L : List α), J.Nodup → (∀ a ∈ L, f a ∈ J) → L.length = (J.map fun j => (L.filter fun a => decide (f a = j)).length).sum
  | [], L, _, h => by
    cases L with
    | nil => rfl
    | cons a L => have := h a List.mem_cons_self; cases this
  | j :: J, L, hJ, h => by
    obtain ⟨hj, hJ2⟩ := List.nodup_cons.1 hJ
    have ih := split_len f J (L.filter fun a => !decide (f a = j)) hJ2 (by
      intro a ha
      obtain ⟨h1, h2⟩ := List.mem_filter.1 ha
      rcases List.mem_cons.1 (h a h1) with h3 | h3
      · simp [h3] at h2
      · exact h3)
    have e : (J.map fun j' => ((L.filter fun a => !decide (f a = j)).filter fun a => decide (f a = j')).length) = J.map fun j' => (L.filter fun a => decide (f a = j')).length := by
      refine List.map_congr_left fun j' hj' => ?_
      rw [List.filter_filter]
      congr 1
      refine List.filter_congr fun a _ => ?_
      by_cases h4 : f a = j'
      · have : ¬ j' = j := fun e => hj (e ▸ hj')
        simp [h4, this]
      · simp [h4]
    rw [e] at ih
    rw [List.map_cons, List.sum_cons, ← ih]
    have := List.length_eq_countP_add_countP (fun a => decide (f a = j)) (l := L)
    rw [List.countP_eq_length_filter, List.countP_eq_length_filter] at this
    rw [this]
    congr 2
    refine List.filter_congr fun a _ => ?_
    simp
theorem sum_if (p : Nat → Bool) (c : Nat) : ∀ J : List Nat, (J.map fun j => if p j = true then c else 0).sum = J.countP p * c
  | [] => by simp
  | j :: J => by
    rw [List.map_cons, List.sum_cons, sum_if p c J, List.countP_cons]
    by_cases h : p j = true
    · simp [h, Nat.add_mul]; omega
    · simp [h]
theorem fib_len {x : Inc} (hx : x.Fam) {i j : Nat} (hij : i ≤ j) (hj : j < x.V) : ((autos x).filter (preB i j)).length = if (mapN x x (preI i j)).isSome = true then ((autos x).filter (preB i i)).length else 0 := by
  by_cases hr : (mapN x x (preI i j)).isSome = true
  · rw [if_pos hr]
    obtain ⟨m, hm, hmt⟩ := (mapN_iff hx.v7 hij hj).1 hr
    obtain ⟨h, hh, he⟩ := inv_ex hm.1
    have hha := aut_inv hx hm hh he
    have hl : ∀ g, Aut x g → i < g.length := fun g hg => by rw [hg.1.1]; omega
    obtain ⟨hm1, hm2⟩ := (take_pre_iff (hl m hm)).1 hmt
    have hm3 := (take_one_iff (by have := hl m hm; omega)).1 hm1
    have hh3 : ∀ k, k < i → h.getD k 0 = (k : Int) := fun k hk => by
      have e : (mulI m h).getD k 0 = (k : Int) := by rw [he, one_getD _ _ (by omega)]
      rw [mul_get (by have := hl m hm; omega), hm3 k hk] at e
      simpa using e
    have hh4 : h.getD j 0 = (i : Int) := by
      have e : (mulI m h).getD i 0 = (i : Int) := by rw [he, one_getD _ _ (by omega)]
      rw [mul_get (hl m hm), hm2] at e
      simpa using e
    have mem : ∀ (j' : Nat) (g : List Int), g ∈ (autos x).filter (preB i j') ↔ Aut x g ∧ (∀ k, k < i → g.getD k 0 = (k : Int)) ∧ g.getD i 0 = (j' : Int) := by
      intro j' g
      rw [List.mem_filter, autos_mem hx]
      constructor
      · rintro ⟨ha, hb⟩
        obtain ⟨h1, h2⟩ := (take_pre_iff (hl g ha)).1 (of_decide_eq_true hb)
        exact ⟨ha, (take_one_iff (by have := hl g ha; omega)).1 h1, h2⟩
      · rintro ⟨ha, h1, h2⟩
        exact ⟨ha, decide_eq_true ((take_pre_iff (hl g ha)).2 ⟨(take_one_iff (by have := hl g ha; omega)).2 h1, h2⟩)⟩
    have nd : ∀ j', ((autos x).filter (preB i j')).Nodup := fun j' => (autos_nodup x).filter _
    have leq : ∀ (a b : Nat) (c : List Int), Aut x c → (∀ g, g ∈ (autos x).filter (preB i a) → mulI g c ∈ (autos x).filter (preB i b)) → ((autos x).filter (preB i a)).length ≤ ((autos x).filter (preB i b)).length := by
      intro a b c hc hmap
      have h1 := nd_le (((autos x).filter (preB i a)).map (mulI · c)) ((autos x).filter (preB i b)) ((nd_map (fun u hu v hv e => mul_cancel ((mem a u).1 hu).1.1 ((mem a v).1 hv).1.1 hc.1 e)).2 (nd a)) (by
        intro u hu
        obtain ⟨v, hv, rfl⟩ := List.mem_map.1 hu
        exact hmap v hv)
      rwa [List.length_map] at h1
    refine Nat.le_antisymm (leq j i h hha fun g hg => ?_) (leq i j m hm fun g hg => ?_)
    · obtain ⟨h1, h2, h3⟩ := (mem j g).1 hg
      refine (mem i _).2 ⟨aut_mul hx h1 hha, fun k hk => ?_, ?_⟩
      · rw [mul_get (by have := hl g h1; omega), h2 k hk]
        simpa using hh3 k hk
      · rw [mul_get (hl g h1), h3]
        simpa using hh4
    · obtain ⟨h1, h2, h3⟩ := (mem i g).1 hg
      refine (mem j _).2 ⟨aut_mul hx h1 hm, fun k hk => ?_, ?_⟩
      · rw [mul_get (by have := hl g h1; omega), h2 k hk]
        simpa using hm3 k hk
      · rw [mul_get (hl g h1), h3]
        simpa using hm2
  · rw [if_neg hr]
    rw [List.length_eq_zero_iff, List.filter_eq_nil_iff]
    intro g hg hb
    exact hr ((mapN_iff hx.v7 hij hj).2 ⟨g, (autos_mem hx g).1 hg, of_decide_eq_true hb⟩)
theorem st_len {x : Inc} (hx : x.Fam) {i : Nat} (hi : i < x.V) : ((autos x).filter (stB i)).length = cntL x i i (x.V - i) * ((autos x).filter (stB (i + 1))).length := by
  have e1 : ((autos x).filter (stB (i + 1))) = (autos x).filter (preB i i) := List.filter_congr fun g _ => by unfold stB preB; rw [show preI i i = oneI (i + 1) from by unfold preI; exact one_snoc i]
  rw [e1]
  have hl : ∀ g, Aut x g → i < g.length := fun g hg => by rw [hg.1.1]; omega
  have h1 := split_len (fun g : List Int => (g.getD i 0).toNat) (List.range' i (x.V - i)) ((autos x).filter (stB i)) (show (List.range' i (x.V - i)).Nodup from List.nodup_range') (by
    intro g hg
    obtain ⟨ha, hb⟩ := List.mem_filter.1 hg
    have ha := (autos_mem hx g).1 ha
    have h2 := (take_one_iff (by have := hl g ha; omega)).1 (of_decide_eq_true hb)
    have h3 := pm_get ha.1 hi
    rw [List.mem_range'_1]
    refine ⟨?_, by omega⟩
    rcases Nat.lt_or_ge (g.getD i 0).toNat i with h4 | h4
    · have h5 := h2 _ h4
      have := pm_eq ha.1 (p := (g.getD i 0).toNat) (q := i) (by omega) hi (by rw [h5]; omega)
      omega
    · exact h4)
  rw [h1]
  have h2 : ((List.range' i (x.V - i)).map fun j => (((autos x).filter (stB i)).filter fun a => decide ((a.getD i 0).toNat = j)).length) = (List.range' i (x.V - i)).map fun j => if (fun q => (mapN x x (preI i q)).isSome) j = true then ((autos x).filter (preB i i)).length else 0 := by
    refine List.map_congr_left fun j hj => ?_
    obtain ⟨hj1, hj2⟩ := List.mem_range'_1.1 hj
    rw [← fib_len hx hj1 (by omega), List.filter_filter]
    congr 1
    refine List.filter_congr fun g hg => ?_
    have ha := (autos_mem hx g).1 hg
    have h3 := pm_get ha.1 hi
    have h4 := take_pre_iff (j := j) (hl g ha)
    unfold preB stB
    rw [Bool.eq_iff_iff, Bool.and_eq_true, decide_eq_true_eq, decide_eq_true_eq, decide_eq_true_eq, h4]
    constructor
    · rintro ⟨h5, h6⟩; exact ⟨h6, by omega⟩
    · rintro ⟨h5, h6⟩; exact ⟨by omega, h5⟩
  rw [h2, sum_if]
  rfl
theorem autos_len {x : Inc} (hx : x.Fam) : (autos x).length = ordK x x.V := by
  have key : ∀ i, i ≤ x.V → (autos x).length = ordK x i * ((autos x).filter (stB i)).length := by
    intro i
    induction i with
    | zero =>
      intro _
      rw [show ordK x 0 = 1 from rfl, Nat.one_mul]
      congr 1
      refine (List.filter_eq_self.2 fun g _ => ?_).symm
      simp [stB, oneI, natsI]
    | succ i ih =>
      intro h
      rw [ih (by omega), st_len hx (by omega), ordK_succ, Nat.mul_assoc]
  rw [key x.V (Nat.le_refl _)]
  have : ((autos x).filter (stB x.V)).length = 1 := by
    have hn : ((autos x).filter (stB x.V)).Nodup := (autos_nodup x).filter _
    have h1 := nd_le _ [oneI x.V] hn (by
      intro g hg
      obtain ⟨ha, hb⟩ := List.mem_filter.1 hg
      have ha := (autos_mem hx g).1 ha
      have := of_decide_eq_true hb
      rw [List.take_of_length_le (by rw [ha.1.1]; omega)] at this
      rw [this]; exact List.mem_singleton.2 rfl)
    have h2 : oneI x.V ∈ (autos x).filter (stB x.V) := List.mem_filter.2 ⟨(autos_mem hx _).2 (aut_one hx), decide_eq_true (List.take_of_length_le (by rw [one_len]; omega))⟩
    have h3 := List.length_pos_of_mem h2
    simp at h1
    omega
  rw [this, Nat.mul_one]
end Go.Proofs.YthfcfdlbnfcboaaDoor.Pw



set_option linter.unusedVariables false
set_option linter.unusedSimpArgs false
set_option maxHeartbeats 1000000
set_option maxRecDepth 10000
namespace Go.Proofs.YthfcfdlbnfcboaaDoor.Pw
open Go
theorem moveK_bit (b : Nat) (g : List Int) (q : Nat) : ∀ k, (moveK b g k).testBit q = true ↔ ∃ p, p < k ∧ b.testBit p = true ∧ (g.getD p 0).toNat = q
  | 0 => by simp [moveK]
  | k + 1 => by
    have ih := moveK_bit b g q k
    unfold moveK
    by_cases hb : b.testBit k = true
    · rw [if_pos hb, Nat.testBit_or, Bool.or_eq_true, ih, Nat.one_shiftLeft, Nat.testBit_two_pow, decide_eq_true_eq]
      constructor
      · rintro (⟨p, h1, h2⟩ | h)
        · exact ⟨p, by omega, h2⟩
        · exact ⟨k, by omega, hb, h⟩
      · rintro ⟨p, h1, h2, h3⟩
        rcases Nat.lt_succ_iff_lt_or_eq.1 h1 with h | rfl
        · exact .inl ⟨p, h, h2, h3⟩
        · exact .inr h3
    · rw [if_neg hb, ih]
      constructor
      · rintro ⟨p, h1, h2⟩; exact ⟨p, by omega, h2⟩
      · rintro ⟨p, h1, h2, h3⟩
        rcases Nat.lt_succ_iff_lt_or_eq.1 h1 with h | rfl
        · exact ⟨p, h, h2, h3⟩
        · exact absurd h2 hb
theorem moved_eq {b V : Nat} {g : List Int} (hg : Pm g V) (hV : V ≤ 64) (hb : b < 2 ^ V) : movedN b g = movL g (bitsL b) := by
  apply Nat.eq_of_testBit_eq
  intro q
  rw [Bool.eq_iff_iff]
  unfold movedN movL
  rw [moveK_bit, mov_bit]
  simp only [Nat.zero_testBit, Bool.false_eq_true, false_or]
  constructor
  · rintro ⟨p, h1, h2, h3⟩
    exact ⟨p, (bitsL_mem _ _).2 ⟨by rw [hg.1] at h1; omega, h2⟩, h3⟩
  · rintro ⟨p, h1, h2⟩
    have h3 := ((bitsL_mem _ _).1 h1).2
    exact ⟨p, by rw [hg.1]; exact bits_lt hb h3, h3, h2⟩
theorem imgK_srt (B : List Nat) (g : List Int) : ∀ k, Srt (imgK B g k)
  | 0 => List.Pairwise.nil
  | k + 1 => withL_srt (imgK_srt B g k) _
theorem imgK_perm (B : List Nat) (g : List Int) : ∀ k, k ≤ B.length → (imgK B g k).Perm ((B.take k).map (movedN · g))
  | 0, _ => by simp [imgK]
  | k + 1, h => by
    have ih := imgK_perm B g k (by omega)
    have hk : B[k]? = some B[k] := List.getElem?_eq_getElem (by omega)
    rw [imgK, getD_of hk, List.take_add_one, hk, List.map_append]
    refine (withL_perm _ _).trans ?_
    refine ((ih.cons _).trans ?_)
    exact (List.perm_append_singleton _ _).symm
theorem imgI_eq {x : Inc} (hx : x.Fam) {g : List Int} (hg : Pm g x.V) : imgI x g = ⟨x.V, sortL (movB g x.B)⟩ := by
  have hv := hx.v7
  unfold imgI
  rw [if_pos hg]
  congr 1
  refine sort_uniq ?_ (imgK_srt _ _ _)
  have h := imgK_perm x.B g x.B.length (Nat.le_refl _)
  rw [List.take_length] at h
  refine h.trans (List.Perm.of_eq ?_)
  exact List.map_congr_left fun b hb => moved_eq hg (by omega) (hx.lt b hb)
theorem img_self {x : Inc} (hx : x.Fam) {g : List Int} (hg : Pm g x.V) : imgI x g = x ↔ Aut x g := by
  have hv := hx.v7
  have hv1 := hx.ok.v1
  rw [imgI_eq hx hg, ← isG_iff hx]
  unfold isG imageI
  rw [decide_eq_true_eq, if_pos hg]
  constructor
  · intro h
    exact ⟨hg.1, ⟨by rw [hg.1]; omega, by rw [hg.1]; omega, by rw [hg.1]; exact hg.2⟩, congrArg Inc.B h⟩
  · rintro ⟨_, _, h⟩
    have : (⟨x.V, sortL (movB g x.B)⟩ : Inc) = ⟨x.V, x.B⟩ := by rw [show sortL (movB g x.B) = x.B from h]
    exact this
def cntA (x : Inc) (k : Nat) : Nat := (List.range k).countP fun r => decide (imgI x (permL x.V r) = x)
theorem cntA_succ (x : Inc) (k : Nat) : cntA x (k + 1) = cntA x k + if imgI x (permL x.V k) = x then 1 else 0 := by
  unfold cntA
  rw [List.range_succ, List.countP_append]
  by_cases h : imgI x (permL x.V k) = x <;> simp [h]
theorem cntA_all {x : Inc} (hx : x.Fam) : cntA x (factL x.V) = ordK x x.V := by
  rw [← autos_len hx]
  unfold cntA autos
  rw [← List.countP_eq_length_filter, ← permL_all, List.countP_map]
  refine List.countP_congr fun r hr => ?_
  have hp := permL_pm (List.mem_range.1 hr)
  rw [decide_eq_true_eq, img_self hx hp]
  exact (isG_iff hx _).symm
theorem cntA_le (x : Inc) (k : Nat) : cntA x k ≤ k := by
  have := List.countP_le_length (p := fun r => decide (imgI x (permL x.V r) = x)) (l := List.range k)
  rwa [List.length_range] at this
end Go.Proofs.YthfcfdlbnfcboaaDoor.Pw



set_option linter.unusedVariables false
set_option linter.unusedSimpArgs false
set_option maxHeartbeats 4000000
set_option maxRecDepth 10000
namespace Go.Proofs.YthfcfdlbnfcboaaDoor.Pw
open Go
theorem hcOne (n : Nat) (hn : n ≤ 1000000) : HC Tryd.prog 20 [iD n] [] (fun r H' => Fin (r = .sl 0 0 n ∧ H' = [.row .leaf (intsL (oneI n))])) := by
  refine hc_ofS (okc Tryd.f20.ntmps 0) (fn := Tryd.f20) (cd := _) rfl rfl rfl rfl rfl rfl (fun hbd => ?_)
  all_goals (conv => whnf)
  refine lpX (X := Nat) (fun k => [(4, iD k), (0, iD n), (3, .sl 0 0 k)]) (fun k => [.row .leaf (intsL (oneI k))]) (fun k => k ≤ n) (fun k => n - k) ⟨_, nx (ρ := [0]) 0 (by repeat (first | exact trivial | refine seC rfl rfl ?_ | refine seL (leRow rfl rfl) rfl ?_)) (by repeat (first | exact trivial | refine shC rfl rfl ?_)) rfl rfl (Nat.lt_succ_self _) (Nat.zero_le _)⟩ ?_
  intro k hk
  have h0 : (intsL (oneI k)).length = k := by simp [oneI, natsI]
  repeat' (
   conv => whnf
   first
   | refine ifd (fun h => ?_) (fun h => ?_)
   | with_reducible refine ivW (by omega) (by omega) ?_
   | ((with_reducible apply ob); ((first | rfl | assumption | omega | (unfold maxLen2; omega) | (dsimp only; omega) | (simp only [LN]; omega) | (simp; done) | (simp; omega)))))
  all_goals (conv => whnf)
  · exact nx (k + 1) [2] (by repeat (first | exact trivial | refine seC rfl rfl ?_ | refine seL (leRow rfl rfl) rfl ?_)) (shR rfl (by simp [oneI, natsI, intsL, List.range_succ, List.take_of_length_le]) (cl_ints _) trivial) rfl rfl (by omega) (by omega)
  · have : k = n := by omega
    subst this
    exact fin_in ⟨rfl, rfl⟩
theorem oneAt {n : Nat} (hn : n ≤ 1000000) {os : List Ob} {Q : D → List Ob → Prop} (h : Q (.sl os.length 0 n) (os ++ [.row .leaf (intsL (oneI n))])) : HC Tryd.prog 20 [iD n] os Q := by
  refine HC.frame [] (hcOne n hn) (.refl _) trivial rfl (by simp) (ler _ _) rfl ?_
  rintro r H0' hq hlen
  obtain ⟨rfl, rfl⟩ := fin_out hq
  have e : ([.row .leaf (renDs [os.length] (intsL (oneI n)))] : List Ob) = [.row .leaf (intsL (oneI n))] := by rw [ren_cls _ _ (cl_ints _)]
  rw [← e] at h
  exact h
theorem exCk {l : List (Int × List Int)} {n : Nat} {aj : Int} {am : List Int} {k : D → Prop} (h : l[n]? = some (aj, am)) (hk : k (.agg [.int .i64 aj, intsD am])) : ∃ d, (rchL l)[n]? = some d ∧ k d := ⟨_, by unfold rchL; rw [List.getElem?_map, h]; rfl, hk⟩
theorem exWk {l : List (Int × Tree)} {n : Nat} {aj : Int} {am : Tree} {k : D → Prop} (h : l[n]? = some (aj, am)) (hk : k (.agg [.int .i64 aj, treeD am])) : ∃ d, (unsL l)[n]? = some d ∧ k d := ⟨_, by unfold unsL; rw [List.getElem?_map, h]; rfl, hk⟩
theorem lvK_yes {x : Inc} (i : Nat) : ∀ k, ∀ y ∈ (lvK x i k).1, i ≤ y.1 ∧ y.1 < i + k ∧ mapN x x (preI i y.1) = some y.2
  | 0, y, h => by cases h
  | k + 1, y, h => by
    rw [lvK_succ] at h
    cases hm : mapN x x (preI i (i + k)) with
    | none => rw [hm] at h; have := lvK_yes i k y h; exact ⟨this.1, by omega, this.2.2⟩
    | some m =>
      rw [hm] at h
      rcases List.mem_append.1 h with h | h
      · have := lvK_yes i k y h; exact ⟨this.1, by omega, this.2.2⟩
      · rw [List.mem_singleton.1 h]; exact ⟨by dsimp only; omega, by dsimp only; omega, hm⟩
theorem lvK_no {x : Inc} (i : Nat) : ∀ k, ∀ y ∈ (lvK x i k).2, i ≤ y.1 ∧ y.1 < i + k ∧ mapN x x (preI i y.1) = none ∧ y.2 = prvT x x (preI i y.1)
  | 0, y, h => by cases h
  | k + 1, y, h => by
    rw [lvK_succ] at h
    cases hm : mapN x x (preI i (i + k)) with
    | some m => rw [hm] at h; have := lvK_no i k y h; exact ⟨this.1, by omega, this.2.2⟩
    | none =>
      rw [hm] at h
      rcases List.mem_append.1 h with h | h
      · have := lvK_no i k y h; exact ⟨this.1, by omega, this.2.2⟩
      · rw [List.mem_singleton.1 h]; exact ⟨by dsimp only; omega, by dsimp only; omega, hm, rfl⟩
theorem prf_yes {x : Inc} (hx : x.Fam) {i : Nat} (hi : i < x.V) {j : Int} {m : List Int} (h : (j, m) ∈ (toI (lvK x i (x.V - i))).1) : Pm m x.V ∧ Fx m i ∧ m[i]? = some j ∧ imgI x m = x ∧ isG x m = true := by
  obtain ⟨y, hy, e⟩ := List.mem_map.1 h
  obtain ⟨h1, h2, h3⟩ := lvK_yes i _ y hy
  cases e
  have hd := pre_dif i y.1 x.V h1 (by omega)
  have hl := pre_len i y.1
  unfold mapN at h3
  obtain ⟨h4, h5⟩ := look_aut x hx.v7 _ _ y.2 (by omega) hd h3
  rw [hl] at h5
  have hil : i < y.2.length := by rw [h4.1.1]; exact hi
  obtain ⟨h6, h7⟩ := (take_pre_iff hil).1 h5
  have h8 : y.2[i]? = some y.2[i] := List.getElem?_eq_getElem hil
  refine ⟨h4.1, ?_, by rw [h8]; rw [getD_of h8] at h7; rw [h7], (img_self hx h4.1).2 h4, (isG_iff hx _).2 h4⟩
  show y.2.take i = (oneI y.2.length).take i
  rw [h6, oneT _ _ (by omega)]
theorem prf_no {x : Inc} (hx : x.Fam) {i : Nat} (hi : i < x.V) {j : Int} {t : Tree} (h : (j, t) ∈ (toI (lvK x i (x.V - i))).2) : ∃ q : Nat, j = (q : Int) ∧ i ≤ q ∧ q < x.V ∧ chkM x x (preI i q) t = true := by
  obtain ⟨y, hy, e⟩ := List.mem_map.1 h
  obtain ⟨h1, h2, h3, h4⟩ := lvK_no i _ y hy
  cases e
  exact ⟨y.1, rfl, h1, by omega, by rw [h4]; exact prv_chk hx.v7 h1 (by omega) h3⟩
theorem ord_pos {x : Inc} (hx : x.Fam) : 1 ≤ ordK x x.V := by
  rw [← autos_len hx]
  exact List.length_pos_of_mem ((autos_mem hx _).2 (aut_one hx))
theorem fact_le : ∀ n, n ≤ 7 → factL n ≤ 5040 := by decide
theorem vProves (lx : List Nat) (hlx : ∀ x ∈ lx, x < 256) : Val Tryd.prog 3 [.agg [bytesD lx]] (fun r => r = .bool true) := by
  have hmx := vLimited lx 6 hlx (by omega) (by omega)
  have hfx := limX_fam lx (most := 6) (by omega) (by omega)
  generalize limX lx 6 = X at hmx hfx
  have hpx := vProved X hfx
  have hox := vLawOrder X hfx.ok hfx.v7
  rw [show ((List.range X.V).map fun i => toI (lvK X i (X.V - i))) = prfX X from rfl] at hpx
  have hxl := prfX_len X
  have hv1 := hfx.ok.v1
  have hv7 := hfx.v7
  have hbx := prfX_b hfx.v7
  have hk1 := vChecked X hfx (prfX X) (fun l hl => by have := hbx l hl; omega)
  have hcn : chkN X (prfX X) = ordK X X.V := chkN_prf hfx
  have hop := ord_pos hfx
  rw [hcn, if_neg (by omega)] at hk1
  have hall := cntA_all hfx
  have hfl := fact_le X.V hv7
  have hbk := hfx.ok.b
  have hnk := hfx.ok.n
  refine Val.ofV ?_
  refine hc_ofS (okc Tryd.f3.ntmps 0) (fn := Tryd.f3) (cd := _) rfl rfl rfl rfl rfl rfl (fun hbd => ?_)
  repeat' (
   conv => whnf
   first
   | ((with_reducible refine hcI ?_); refine Val.call vExamples (.refl _) (ler _ _) rfl ?_; rintro r rfl))
  all_goals (conv => whnf)
  refine hcNorm [.var (.agg [bytesD lx])] rfl ?_
  refine Val.call hmx (.refl _) (ler _ _) rfl ?_
  rintro r rfl
  all_goals (conv => whnf)
  refine hcNorm [.var (.agg [bytesD lx]), .var X.D] rfl ?_
  refine Val.call hpx (.refl _) (ler _ _) rfl ?_
  rintro r rfl
  all_goals (conv => whnf)
  all_goals (first | (exfalso; omega) | skip)
  refine lpX (X := Nat) (fun k => [(3, .bool true), (4, .ptr 0 []), (5, .ptr 1 []), (6, iD (cntA X k)), (7, iD k)]) (fun k => [.var X.D, .var (.agg [prfI (prfX X), .int .i64 0])]) (fun k => k ≤ factL X.V) (fun k => factL X.V - k)
    ⟨_, nx (ρ := [1, 2]) 0 (by repeat (first | exact trivial | refine seC rfl rfl ?_ | refine seL (leRow rfl rfl) rfl ?_)) (shC rfl rfl (shC rfl rfl trivial)) rfl rfl (Nat.lt_succ_self _) (Nat.zero_le _)⟩ ?_
  intro k hk
  have hck := cntA_le X k
  have hF := vFact X.V (by omega)
  rcases Nat.lt_or_ge k (factL X.V) with hlt | hge
  · have hP := vPermR X.V k (by omega) (by omega)
    have hI := vImageR X (permL X.V k) (by omega) hbk (by omega)
    have hS := vSameI (imgI X (permL X.V k)) X
    have hcs := cntA_succ X k
    repeat' (
     conv => whnf
     first
     | ((with_reducible refine pcI ?_); refine Val.pure hP (ler _ _) rfl rfl ?_)
     | ((with_reducible refine pcI ?_); refine Val.pure hI (ler _ _) rfl rfl ?_)
     | refine ifd (fun h => ?_) (fun h => ?_)
     | with_reducible refine ivW (by omega) (by omega) ?_
     | ((with_reducible refine hcI ?_); refine Val.call (vFact _ (by omega)) (.refl _) (ler _ _) rfl ?_; rintro r rfl)
     | ((with_reducible refine hcI ?_); refine Val.call (vSameI _ _) (.refl _) (ler _ _) rfl ?_; rintro r rfl)
     | ((with_reducible apply drT 7); rfl))
    all_goals (conv => whnf)
    all_goals (first | (exfalso; omega) | skip)
    · exact nx0 (k + 1) (by repeat (first | exact trivial | refine se0 rfl ?_ | refine se0 (by rw [hcs, if_pos (by assumption)]; rfl) ?_)) rfl (by omega) (by omega)
    · exact nx0 (k + 1) (by repeat (first | exact trivial | refine se0 rfl ?_ | refine se0 (by rw [hcs, if_neg (by assumption)]; rfl) ?_)) rfl (by omega) (by omega)
  · have hke : k = factL X.V := by omega
    subst hke
    rw [hall]
    have hpl := lvlsL_len (prfX X)
    repeat' (
     conv => whnf
     first
     | ((with_reducible refine hcI ?_); refine Val.call hk1 (.refl _) (ler _ _) rfl ?_; rintro r rfl)
     | ((with_reducible refine hcI ?_); refine Val.call hox (.refl _) (ler _ _) rfl ?_; rintro r rfl)
     | refine ifd (fun h => ?_) (fun h => ?_)
     | refine ifn (fun h => ?_) (fun h => ?_)
     | refine ifb (fun h => ?_) (fun h => ?_)
     | with_reducible refine ivW (by omega) (by omega) ?_
     | ((with_reducible refine hcI ?_); refine Val.call (vFact _ (by omega)) (.refl _) (ler _ _) rfl ?_; rintro r rfl)
     | ((with_reducible refine pcI ?_); refine Val.pure (vPermR _ _ (by omega) (by omega)) (ler _ _) rfl rfl ?_)
     | ((with_reducible refine pcI ?_); refine Val.pure (vImageR _ _ (by omega) (by assumption) (by omega)) (ler _ _) rfl rfl ?_)
     | ((with_reducible refine hcI ?_); refine Val.call (vSameI _ _) (.refl _) (ler _ _) rfl ?_; rintro r rfl)
     | ((with_reducible apply drT 7); rfl))
    all_goals (conv => whnf)
    all_goals (first | (exfalso; omega) | skip)
    · exfalso; simp at h
    · exfalso; simp at h
    refine lpX (X := Nat) (fun i => [(3, .bool true), (4, .ptr 0 []), (5, .ptr 1 []), (8, iD i)]) (fun i => [.var X.D, .var (.agg [prfI (prfX X), .int .i64 0])]) (fun i => i ≤ X.V) (fun i => X.V - i)
      ⟨_, nx0 0 (by repeat (first | exact trivial | refine se0 rfl ?_)) rfl (Nat.lt_succ_self _) (Nat.zero_le _)⟩ ?_
    intro i hi
    rcases Nat.lt_or_ge i X.V with hlt | hge
    · obtain ⟨⟨ys, ns⟩, hlv⟩ : ∃ l, toI (lvK X i (X.V - i)) = l := ⟨_, rfl⟩
      have hl : (prfX X)[i]? = some (ys, ns) := by rw [← hlv]; unfold prfX; rw [List.getElem?_map, List.getElem?_range hlt]; rfl
      have hl2 := toN hl
      have hyf : ∀ j m, (j, m) ∈ ys → Pm m X.V ∧ Fx m i ∧ m[i]? = some j ∧ imgI X m = X ∧ isG X m = true := fun j m h => prf_yes hfx hlt (by rw [hlv]; exact h)
      have hnf : ∀ j t, (j, t) ∈ ns → ∃ q : Nat, j = (q : Int) ∧ i ≤ q ∧ q < X.V ∧ chkM X X (preI i q) t = true := fun j t h => prf_no hfx hlt (by rw [hlv]; exact h)
      have hln : ys.length + ns.length = X.V - i := by
        have h1 := lvK_len X i (X.V - i)
        have h2 : ys = (toI (lvK X i (X.V - i))).1 := by rw [hlv]
        have h3 : ns = (toI (lvK X i (X.V - i))).2 := by rw [hlv]
        rw [h2, h3]; simp only [toI, List.length_map]; exact h1
      have hyl := rchL_len ys
      have hnl := unsL_len ns
      have hyl2 : (rchL (ys, ns).1).length = ys.length := rchL_len ys
      have hnl2 : (unsL (ys, ns).2).length = ns.length := unsL_len ns
      repeat' (
       conv => whnf
       first
       | refine ifd (fun h => ?_) (fun h => ?_)
       | refine ifn (fun h => ?_) (fun h => ?_)
       | with_reducible refine ivW (by omega) (by omega) ?_
       | ((with_reducible refine exLv hl2 ?_))
       | ((with_reducible apply ob); ((first | rfl | assumption | omega | (unfold maxLen2; omega) | (dsimp only; omega) | (simp only [LN]; omega) | (simp; done) | (simp; omega)))))
      all_goals (conv => whnf)
      all_goals (first | (exfalso; omega) | skip)
      refine lpX (X := Nat) (fun k => [(3, .bool true), (4, .ptr 0 []), (5, .ptr 1 []), (8, iD i), (9, .ptr 2 []), (10, iD k)]) (fun k => [.var X.D, .var (.agg [prfI (prfX X), .int .i64 0]), .var (lvlI (ys, ns))]) (fun k => k ≤ ys.length) (fun k => ys.length - k)
        ⟨_, nx0 0 (by repeat (first | exact trivial | refine se0 rfl ?_)) rfl (Nat.lt_succ_self _) (Nat.zero_le _)⟩ ?_
      intro k hk
      rcases Nat.lt_or_ge k ys.length with hkl | hkg
      · obtain ⟨⟨j, m⟩, hjm⟩ : ∃ y, ys[k]? = some y := ⟨_, List.getElem?_eq_getElem hkl⟩
        obtain ⟨f1, f2, f3, f4, f5⟩ := hyf j m (List.mem_of_getElem? hjm)
        have hjm2 := toN hjm
        have f32 := toN f3
        have g1 := vPerm m X.V
        rw [decide_eq_true f1] at g1
        have g2 := vFixes m i
        rw [decide_eq_true f2] at g2
        have g3 := vImageR X m (by omega) hbk (by omega)
        rw [f4] at g3
        have g4 := vSameI X X
        rw [decide_eq_true rfl] at g4
        have g5 := vIs X m (by omega) hbk hnk hfx.bits
        rw [f5] at g5
        repeat' (
         conv => whnf
         first
         | ((with_reducible refine exCk hjm2 ?_))
         | ((with_reducible refine exIk f32 ?_))
         | ((with_reducible refine pcI ?_); refine Val.pure g1 (ler _ _) rfl rfl ?_)
         | ((with_reducible refine pcI ?_); refine Val.pure g2 (ler _ _) rfl rfl ?_)
         | ((with_reducible refine pcI ?_); refine Val.pure g3 (ler _ _) rfl rfl ?_)
         | ((with_reducible refine pcI ?_); refine Val.pure g4 (ler _ _) rfl rfl ?_)
         | ((with_reducible refine hcI ?_); refine Val.call g5 (.refl _) (ler _ _) rfl ?_; rintro r rfl)
         | refine ifd (fun h => ?_) (fun h => ?_)
         | refine ifn (fun h => ?_) (fun h => ?_)
         | with_reducible refine ivW (by omega) (by omega) ?_
         | ((with_reducible apply drT 35); rfl)
         | ((with_reducible apply ob); ((first | rfl | assumption | omega | (unfold maxLen2; omega) | (dsimp only; omega) | (simp only [LN]; omega) | (simp; done) | (simp; omega)))))
        all_goals (conv => whnf)
        all_goals (first | (exfalso; omega) | skip)
        exact nx0 (k + 1) (by repeat (first | exact trivial | refine se0 rfl ?_)) rfl (by omega) (by omega)
      · repeat' (
         conv => whnf
         first
         | refine ifd (fun h => ?_) (fun h => ?_)
         | ((with_reducible apply ob); ((first | rfl | assumption | omega | (unfold maxLen2; omega) | (dsimp only; omega) | (simp only [LN]; omega) | (simp; done) | (simp; omega)))))
        all_goals (conv => whnf)
        all_goals (first | (exfalso; omega) | skip)
        refine lpX (X := Nat) (fun k => [(3, .bool true), (4, .ptr 0 []), (5, .ptr 1 []), (8, iD i), (9, .ptr 2 []), (12, iD k)]) (fun k => [.var X.D, .var (.agg [prfI (prfX X), .int .i64 0]), .var (lvlI (ys, ns))]) (fun k => k ≤ ns.length) (fun k => ns.length - k)
          ⟨_, nx0 0 (by repeat (first | exact trivial | refine se0 rfl ?_)) rfl (Nat.lt_succ_self _) (Nat.zero_le _)⟩ ?_
        intro p hp
        rcases Nat.lt_or_ge p ns.length with hpl | hpg
        · obtain ⟨⟨j, ⟨t⟩⟩, hjt⟩ : ∃ y, ns[p]? = some y := ⟨_, List.getElem?_eq_getElem hpl⟩
          obtain ⟨q, rfl, g1, g2, g3⟩ := hnf j (.node t) (List.mem_of_getElem? hjt)
          have hjt2 := toN hjt
          have hone : (intsL (oneI i)).length = i := by simp [oneI, natsI, intsL]
          have hpi : List.take i (intsL (oneI i)) ++ [iD q] = intsL (preI i q) := by rw [List.take_of_length_le (by omega)]; simp [intsL, preI, oneI, iD]
          have hpn : (intsL (preI i q)).length = i + 1 := by simp [intsL, pre_len]
          have hch : Val Tryd.prog 19 [X.D, X.D, intsD (preI i q), treeD (.node t)] (fun r => r = .int .i64 0) := by
            have := vCheckT X X (preI i q) (.node t) hfx.ok hfx.ok hv7 hv7 (pre_dif i q X.V g1 g2) (by rw [pre_len]; omega)
            rw [g3] at this
            exact this
          repeat' (
           conv => whnf
           first
           | ((with_reducible refine exWk hjt2 ?_))
           | ((with_reducible apply drG [0, 1, 2, 4, 5, 6, 7, 8, 9, 12, 13, 14, 15, 16, 17, 3, 10, 11, 18, 19] 15 _); (rfl); (rfl); (rfl))
           | ((with_reducible refine hcI ?_); refine oneAt (by omega) ?_)
           | ((with_reducible refine hcI ?_); refine Val.call hch (.step 5 .leaf (intsL (preI i q)) (congrArg (Ob.row .leaf) hpi) (cl_ints _) (.refl _)) (.cons _ _ _ _ (.refl _) (.cons _ _ _ _ (.refl _) (.cons _ _ _ _ (leRow rfl hpn) (.cons _ _ _ _ (.refl _) .nil)))) rfl ?_; rintro r rfl)
           | refine ifd (fun h => ?_) (fun h => ?_)
           | with_reducible refine ivW (by omega) (by omega) ?_
           | with_reducible refine rcI ?_ ?_
           | with_reducible refine alI ?_ ?_
           | with_reducible refine rpI ?_ ?_
           | ((with_reducible apply ob); ((first | rfl | assumption | omega | (unfold maxLen2; omega) | (dsimp only; omega) | (simp only [LN]; omega) | (simp; done) | (simp; omega))))
           | exact trivial)
          all_goals (conv => whnf)
          all_goals (first | (exfalso; omega) | skip)
          all_goals exact nx (p + 1) [0, 1, 2] (by repeat (first | exact trivial | refine seC rfl rfl ?_ | refine seL (leRow rfl rfl) rfl ?_)) (by repeat (first | exact trivial | refine shC rfl rfl ?_)) rfl rfl (by omega) (by omega)
        · repeat' (
           conv => whnf
           first
           | refine ifd (fun h => ?_) (fun h => ?_)
           | with_reducible refine ivW (by omega) (by omega) ?_
           | ((with_reducible refine pcI ?_); refine Val.pure (vOne _ (by omega)) (ler _ _) rfl rfl ?_)
           | ((with_reducible apply drP [0, 1, 2, 3, 4, 5, 6, 7, 8, 9, 10, 12, 13, 14, 15, 16, 17, 11, 18, 19] 17 _); (rfl); (rfl); (rfl))
           | ((with_reducible apply ob); ((first | rfl | assumption | omega | (unfold maxLen2; omega) | (dsimp only; omega) | (simp only [LN]; omega) | (simp; done) | (simp; omega)))))
          all_goals (conv => whnf)
          all_goals (first | (exfalso; omega) | skip)
          exact nx (i + 1) [0, 1] (by repeat (first | exact trivial | refine seC rfl rfl ?_ | refine seL (leRow rfl rfl) rfl ?_)) (by repeat (first | exact trivial | refine shC rfl rfl ?_)) rfl rfl (by omega) (by omega)
    · repeat' (
       conv => whnf
       first
       | refine ifd (fun h => ?_) (fun h => ?_)
       | ((with_reducible apply ob); ((first | rfl | assumption | omega | (unfold maxLen2; omega) | (dsimp only; omega) | (simp only [LN]; omega) | (simp; done) | (simp; omega)))))
      all_goals (conv => whnf)
      all_goals (first | (exfalso; omega) | skip)
      exact fC rfl rfl
theorem vProves0 (d0 : D) (h0 : TyD (cx 0 0) 6 24 d0) : Val Tryd.prog 3 [d0] (fun r => r = .bool true) := by
  obtain ⟨lx, rfl, hlx⟩ := tyRaw h0
  exact vProves lx hlx
end Go.Proofs.YthfcfdlbnfcboaaDoor.Pw



set_option linter.unusedVariables false
set_option linter.unusedSimpArgs false
set_option maxHeartbeats 1000000
set_option maxRecDepth 10000
namespace Go.Proofs.YthfcfdlbnfcboaaDoor.Pw
open Go
theorem vFull (v : Nat) (hv : v ≤ 63) : Val Tryd.prog 57 [iD v] (fun r => r = sD (2 ^ v - 1)) := by
  refine Val.ofV ?_
  refine hc_ofS (okc Tryd.f57.ntmps 0) (fn := Tryd.f57) (cd := _) rfl rfl rfl rfl rfl rfl (fun hbd => ?_)
  repeat' (
   conv => whnf
   first
   | ((with_reducible apply ivShl); (rfl); (rfl); (omega); (focus ((repeat' (first | assumption | (exact hW _) | (unfold W64; first | omega | decide) | (exact Ws.get (by assumption) (by assumption)) | (exact wOne (by omega)) | (exact bit1_w (by omega)) | (exact wXorAnd (by assumption)) | (exact wSub (by assumption)) | apply wOr | (apply wAnd; assumption) | (apply wAnd2; assumption) | apply wShr)) <;> fail)))
   | ((with_reducible apply ivSub); (rfl); (rfl); (first | exact one_pos _ | omega); (focus ((repeat' (first | assumption | (exact hW _) | (unfold W64; first | omega | decide) | (exact Ws.get (by assumption) (by assumption)) | (exact wOne (by omega)) | (exact bit1_w (by omega)) | (exact wXorAnd (by assumption)) | (exact wSub (by assumption)) | apply wOr | (apply wAnd; assumption) | (apply wAnd2; assumption) | apply wShr)) <;> fail)))
   | ((with_reducible apply ob); ((first | rfl | assumption | omega | (unfold maxLen2; omega) | (dsimp only; omega) | (simp only [LN]; omega) | (simp; done) | (simp; omega)))))
  all_goals (conv => whnf)
  exact fC rfl (by rw [Nat.shiftLeft_eq, Nat.one_mul]; rfl)
def wthN (a b : Nat) : Nat := a ^^^ (a &&& b)
theorem vWth (a b : Nat) (ha : W64 a) (hb : W64 b) : Val Tryd.prog 58 [sD a, sD b] (fun r => r = sD (wthN a b)) := by
  refine Val.ofV ?_
  refine hc_ofS (okc Tryd.f58.ntmps 0) (fn := Tryd.f58) (cd := _) rfl rfl rfl rfl rfl rfl (fun hbd => ?_)
  repeat' (
   conv => whnf
   first
   | ((with_reducible apply ivAndNot); (rfl); (rfl); (focus ((repeat' (first | assumption | (exact hW _) | (unfold W64; first | omega | decide) | (exact Ws.get (by assumption) (by assumption)) | (exact wOne (by omega)) | (exact bit1_w (by omega)) | (exact wXorAnd (by assumption)) | (exact wSub (by assumption)) | apply wOr | (apply wAnd; assumption) | (apply wAnd2; assumption) | apply wShr)) <;> fail)); (focus ((repeat' (first | assumption | (exact hW _) | (unfold W64; first | omega | decide) | (exact Ws.get (by assumption) (by assumption)) | (exact wOne (by omega)) | (exact bit1_w (by omega)) | (exact wXorAnd (by assumption)) | (exact wSub (by assumption)) | apply wOr | (apply wAnd; assumption) | (apply wAnd2; assumption) | apply wShr)) <;> fail))))
  all_goals (conv => whnf)
  exact fC rfl rfl
theorem wth_w {a b : Nat} (ha : W64 a) : W64 (wthN a b) := by
  unfold W64 wthN at *
  exact Nat.xor_lt_two_pow (n := 64) ha (Nat.lt_of_le_of_lt Nat.and_le_left ha)
def wthB (f : Nat) (l : List Nat) : List Nat := l.map (wthN f)
theorem vMadeS (v f : Nat) (l : List Nat) (hl : Ws l) (hll : l.length ≤ 12) (hf : W64 f) :
    Val Tryd.prog 56 [iD v, setsD l, .func (1000000 + 58) [sD f]] (fun r => r = (Inc.mk v (sortL (wthB f l))).D) := by
  have hl0 := setsL_len l
  refine Val.ofV ?_
  refine hc_ofS (okc Tryd.f56.ntmps 0) (fn := Tryd.f56) (cd := _) rfl rfl rfl rfl rfl rfl (fun hbd => ?_)
  all_goals (conv => whnf)
  refine lpX (X := Nat) (fun k => [(2, .func (1000000 + 58) [sD f]), (6, .ptr 0 []), (7, .ptr 1 []), (12, setsD l), (13, iD (setsL l).length), (14, iD k)]) (fun k => [.var (.agg [.int .i64 0, .nils]), .var (.agg [iD v, accD 2 k])] ++ accO .leaf (fun k => setsL (wthB f (l.take k))) k) (fun k => k ≤ l.length) (fun k => l.length - k) ⟨_, nx (ρ := [0, 1]) 0 (by repeat (first | exact trivial | refine seC rfl rfl ?_ | refine seL (leRow rfl rfl) rfl ?_)) (by repeat (first | exact trivial | refine shC rfl rfl ?_)) rfl rfl (Nat.lt_succ_self _) (Nat.zero_le _)⟩ ?_
  intro k hk
  have hW : ∀ y, W64 (wthN f y) := fun y => wth_w hf
  cases k with
  | zero =>
    repeat' (
     conv => whnf
     first
     | refine ifd (fun h => ?_) (fun h => ?_)
     | with_reducible refine ivW (by omega) (by omega) ?_
     | ((with_reducible refine exU (by omega) ?_); intro y hy; (try simp only [Int.toNat_natCast, Nat.zero_add] at hy); (try have hyr := hR _ (List.mem_of_getElem? hy)))
     | ((with_reducible refine pcI ?_); refine Val.pure (vWth f _ hf (Ws.get (by assumption) hl)) (ler _ _) rfl rfl ?_)
     | ((with_reducible apply drT 6); rfl)
     | ((with_reducible apply ob); ((first | rfl | assumption | omega | (unfold maxLen2; omega) | (dsimp only; omega) | (simp only [LN]; omega) | (simp; done) | (simp; omega)))))
    all_goals (conv => whnf)
    · exact nx 1 [0, 1, 3] (by repeat (first | exact trivial | refine seC rfl rfl ?_ | refine seL (leRow rfl rfl) rfl ?_)) (shC rfl rfl (shC rfl rfl (shR rfl (by simp [setsL, sD, wthB, List.take_add_one, hy]) (cl_sets _) trivial))) rfl rfl (by omega) (by omega)
    · refine HC.val hcSort0 (.refl _) (ler _ _) rfl ?_
      intro r H' hq
      obtain ⟨rfl, rfl⟩ := fin_out hq
      refine ⟨rfl, rfl, ?_⟩
      conv => whnf
      have hB1 : l = [] := List.length_eq_zero_iff.1 (by omega)
      exact fin_in ⟨_, .agg [iD v, setsD []], .refl _, .agg _ _ (.cons _ _ _ _ (.refl _) (.cons _ _ _ _ (.nils _) .nil)) rfl, rfl, by rw [hB1]; rfl⟩
  | succ k =>
    have hmk : (setsL (wthB f (l.take (k + 1)))).length = k + 1 := by simp [wthB]; omega
    repeat' (
     conv => whnf
     first
     | refine ifd (fun h => ?_) (fun h => ?_)
     | with_reducible refine ivW (by omega) (by omega) ?_
     | ((with_reducible refine exU (by omega) ?_); intro y hy; (try simp only [Int.toNat_natCast, Nat.zero_add] at hy); (try have hyr := hR _ (List.mem_of_getElem? hy)))
     | ((with_reducible refine pcI ?_); refine Val.pure (vWth f _ hf (Ws.get (by assumption) hl)) (ler _ _) rfl rfl ?_)
     | ((with_reducible apply drT 6); rfl)
     | ((with_reducible apply ob); ((first | rfl | assumption | omega | (unfold maxLen2; omega) | (dsimp only; omega) | (simp only [LN]; omega) | (simp; done) | (simp; omega)))))
    all_goals (conv => whnf)
    · exact nx (k + 1 + 1) [0, 1, 4] (by repeat (first | exact trivial | refine seC rfl rfl ?_ | refine seL (leRow rfl rfl) rfl ?_)) (shC rfl rfl (shC rfl rfl (shR rfl (by show _ = setsL (wthB f (l.take (k + 1 + 1))); rw [List.take_add_one (i := k + 1) (l := l), hy, List.take_of_length_le (by rw [List.drop_zero, hmk]; omega)]; simp [setsL, sD, wthB]) (cl_sets _) trivial))) rfl rfl (by omega) (by omega)
    · have hmk2 : (wthB f (l.take (k + 1))).length = k + 1 := by rw [← setsL_len]; exact hmk
      have hs := hcSort (wthB f (l.take (k + 1))) (by omega)
      rw [hmk2] at hs
      refine rowCall 2 hs rfl (cl_sets _) (cl_sets _) rfl rfl ?_
      conv => whnf
      have hB1 : k + 1 = l.length := by omega
      have hs2 : sortL (wthB f (l.take (k + 1))) = sortL (wthB f l) := by rw [hB1, List.take_length]
      refine fin_in ⟨_, .agg [iD v, setsD (sortL (wthB f (l.take (k + 1))))], .step 2 .leaf _ rfl (cl_sets _) (.refl _), .agg _ _ (.cons _ _ _ _ (.refl _) (.cons _ _ _ _ (leRow rfl ?_) .nil)) rfl, ?_, ?_⟩
      · rw [setsL_len, (sortL_perm _).length_eq, hmk2]
      · simp [clD, clDs, setsD, cl_sets]; rfl
      · rw [hs2]; rfl
def comI (x : Inc) : Inc := ⟨x.V, sortL (wthB (2 ^ x.V - 1) x.B)⟩
theorem vCompl (x : Inc) (hV : x.V ≤ 63) (hB : Ws x.B) (hBl : x.B.length ≤ 12) : Val Tryd.prog 27 [x.D] (fun r => r = (comI x).D) := by
  have hF := vFull x.V hV
  have hf : W64 (2 ^ x.V - 1) := by
    unfold W64
    have := Nat.pow_le_pow_right (n := 2) (by omega) (show x.V ≤ 63 by omega)
    omega
  have hM := vMadeS x.V (2 ^ x.V - 1) x.B hB hBl hf
  refine Val.ofV ?_
  refine hc_ofS (okc Tryd.f27.ntmps 0) (fn := Tryd.f27) (cd := _) rfl rfl rfl rfl rfl rfl (fun hbd => ?_)
  repeat' (
   conv => whnf
   first
   | ((with_reducible refine pcI ?_); refine Val.pure hF (ler _ _) rfl rfl ?_)
   | ((with_reducible refine hcI ?_); refine Val.call hM (.refl _) (ler _ _) rfl ?_; rintro r rfl)
   | ((with_reducible apply drT 8); rfl))
  all_goals (conv => whnf)
  exact fC rfl rfl
theorem vPick (l : List Nat) (hR : ∀ x ∈ l, x < 256) : Val Tryd.prog 24 [.agg [bytesD l]] (fun r => r = (limX l 5).D) := by
  have hm := vLimited l 5 hR (by omega) (by omega)
  refine Val.ofV ?_
  refine hc_ofS (okc Tryd.f24.ntmps 0) (fn := Tryd.f24) (cd := _) rfl rfl rfl rfl rfl rfl (fun hbd => ?_)
  repeat' (
   conv => whnf
   first
   | ((with_reducible refine hcI ?_); refine Val.call hm (.refl _) (ler _ _) rfl ?_; rintro r rfl))
  all_goals (conv => whnf)
  exact fC rfl rfl
end Go.Proofs.YthfcfdlbnfcboaaDoor.Pw



set_option linter.unusedVariables false
set_option linter.unusedSimpArgs false
set_option maxHeartbeats 1000000
set_option maxRecDepth 10000
namespace Go.Proofs.YthfcfdlbnfcboaaDoor.Pw
open Go
def mvN (g : List Int) (s : Nat) : Nat := movL g (bitsL s)
theorem mv_lt {g : List Int} {V s : Nat} (hg : Pm g V) (hs : s < 2 ^ V) : mvN g s < 2 ^ V := mov_lt hg _ fun p hp => bits_lt hs ((bitsL_mem s p).1 hp).2
theorem mul_assoc {a b c : List Int} {n : Nat} (ha : Pm a n) (hb : Pm b n) (hc : Pm c n) : mulI (mulI a b) c = mulI a (mulI b c) := by
  refine ext_get (n := n) (by rw [mul_len, mul_len]; exact ha.1) (by rw [mul_len]; exact ha.1) fun k hk => ?_
  have ea := ha.1
  have eb := hb.1
  have h1 := pm_get ha hk
  rw [mul_get (by rw [mul_len]; omega), mul_get (by omega), mul_get (by omega), mul_get (by omega)]
theorem mul_one {a : List Int} {n : Nat} (ha : Pm a n) : mulI a (oneI n) = a := by
  refine ext_get (n := n) (by rw [mul_len]; exact ha.1) ha.1 fun k hk => ?_
  have ea := ha.1
  have h1 := pm_get ha hk
  rw [mul_get (by omega), one_getD _ _ (by omega)]
  omega
theorem one_mul {a : List Int} {n : Nat} (ha : Pm a n) : mulI (oneI n) a = a := by
  refine ext_get (n := n) (by rw [mul_len, one_len]) ha.1 fun k hk => ?_
  rw [mul_get (by rw [one_len]; omega), one_getD _ _ hk]
  rfl
theorem inv_left {g h : List Int} {n : Nat} (hg : Pm g n) (hh : Pm h n) (e : mulI g h = oneI n) : mulI h g = oneI n := by
  refine mul_cancel (mul_pm hh hg) (one_pm n) hh ?_
  rw [mul_assoc hh hg hh, e, mul_one hh, one_mul hh]
theorem mv_mul {a b : List Int} {V s : Nat} (hV : V ≤ 64) (ha : Pm a V) (hb : Pm b V) (hs : s < 2 ^ V) : mvN b (mvN a s) = mvN (mulI a b) s := by
  have hab := mul_pm ha hb
  refine trace_inj hab hV (mv_lt hb (mv_lt ha hs)) (mv_lt hab hs) ?_
  rw [trace_mul ha hb]
  have h1 : traceB b (mvN b (mvN a s)) = mvN a s := trace_mov hV hb (mv_lt ha hs)
  have h2 : traceB a (mvN a s) = s := trace_mov hV ha hs
  have h3 : traceB (mulI a b) (mvN (mulI a b) s) = s := trace_mov hV hab hs
  rw [h1, h2, h3]
theorem img_V {x : Inc} {g : List Int} : (imgI x g).V = x.V := by unfold imgI; split <;> rfl
theorem img_fam {x : Inc} (hx : x.Fam) {g : List Int} (hg : Pm g x.V) : (imgI x g).Fam := by
  rw [imgI_eq hx hg]
  have hlt : ∀ b ∈ sortL (movB g x.B), b < 2 ^ x.V := by
    intro b hb
    obtain ⟨s, hs, rfl⟩ := List.mem_map.1 ((sortL_perm _).mem_iff.1 hb)
    exact mv_lt hg (hx.lt s hs)
  have h2 : 2 ^ x.V ≤ 2 ^ 7 := Nat.pow_le_pow_right (by decide) hx.v7
  refine ⟨⟨hx.ok.v1, hx.ok.v, fun b hb => ?_, ?_⟩, hx.v7, sortL_srt _, hlt⟩
  · have := hlt b hb; unfold W64; omega
  · show (sortL _).length ≤ 12
    rw [(sortL_perm _).length_eq]
    have := hx.ok.n
    simpa [movB] using this
theorem img_mul {x : Inc} (hx : x.Fam) {a b : List Int} (ha : Pm a x.V) (hb : Pm b x.V) : imgI (imgI x a) b = imgI x (mulI a b) := by
  have hf := img_fam hx ha
  have hv := hx.v7
  rw [imgI_eq hf (g := b) (by rw [img_V]; exact hb), imgI_eq hx (mul_pm ha hb), imgI_eq hx ha]
  have e : sortL (movB b (sortL (movB a x.B))) = sortL (movB (mulI a b) x.B) := by
    refine (sortL_iff _ _).2 ?_
    have h1 : (movB b (sortL (movB a x.B))).Perm (movB b (movB a x.B)) := (sortL_perm _).map _
    refine h1.trans (List.Perm.of_eq ?_)
    unfold movB
    rw [List.map_map]
    exact List.map_congr_left fun s hs => mv_mul (by omega) ha hb (hx.lt s hs)
  show (⟨x.V, _⟩ : Inc) = _
  rw [e]
theorem img_one {x : Inc} (hx : x.Fam) : imgI x (oneI x.V) = x := (img_self hx (one_pm _)).2 (aut_one hx)
theorem img_inj {x y : Inc} (hx : x.Fam) (hy : y.Fam) (hv : x.V = y.V) {g : List Int} (hg : Pm g x.V) (h : imgI x g = imgI y g) : x = y := by
  obtain ⟨h', hh, e⟩ := inv_ex hg
  have h1 : imgI (imgI x g) h' = imgI (imgI y g) h' := by rw [h]
  rw [img_mul hx hg hh, img_mul hy (by rw [← hv]; exact hg) (by rw [← hv]; exact hh), e, img_one hx, hv, img_one hy] at h1
  exact h1
def fibL (x y : Inc) : List (List Int) := (permsA x.V).filter fun g => decide (imgI x g = y)
theorem fib_mem (x y : Inc) (g : List Int) : g ∈ fibL x y ↔ Pm g x.V ∧ imgI x g = y := by
  unfold fibL; rw [List.mem_filter, permsA_mem, decide_eq_true_eq]
theorem fib_nd (x y : Inc) : (fibL x y).Nodup := (permsA_nodup x.V).filter _
theorem autos_fib {x : Inc} (hx : x.Fam) : autos x = fibL x x := by
  unfold autos fibL
  refine List.filter_congr fun g hg => ?_
  have hp := (permsA_mem _ _).1 hg
  rw [Bool.eq_iff_iff, isG_iff hx, decide_eq_true_eq, img_self hx hp]
theorem fib_le {x y z : Inc} (hx : x.Fam) {c : List Int} (hc : Pm c x.V) (h : imgI y c = z) (hy : y.Fam) (hyx : y.V = x.V) : (fibL x y).length ≤ (fibL x z).length := by
  have h1 := nd_le ((fibL x y).map (mulI · c)) (fibL x z) ((nd_map (fun u hu v hv e => mul_cancel ((fib_mem x y u).1 hu).1 ((fib_mem x y v).1 hv).1 hc e)).2 (fib_nd x y)) (by
    intro u hu
    obtain ⟨v, hv, rfl⟩ := List.mem_map.1 hu
    obtain ⟨h2, h3⟩ := (fib_mem x y v).1 hv
    refine (fib_mem x z _).2 ⟨mul_pm h2 hc, ?_⟩
    rw [← img_mul hx h2 hc, h3, h])
  rwa [List.length_map] at h1
theorem fib_img {x : Inc} (hx : x.Fam) {g : List Int} (hg : Pm g x.V) : (fibL x (imgI x g)).length = (fibL x x).length := by
  obtain ⟨h, hh, e⟩ := inv_ex hg
  refine Nat.le_antisymm (fib_le hx hh ?_ (img_fam hx hg) img_V) (fib_le hx hg rfl hx rfl)
  rw [img_mul hx hg hh, e, img_one hx]
theorem fib_ord {x : Inc} (hx : x.Fam) {g : List Int} (hg : Pm g x.V) : (fibL x (imgI x g)).length = ordK x x.V := by
  rw [fib_img hx hg, ← autos_fib hx, autos_len hx]
theorem split_gen {α β : Type} [DecidableEq β] (f : α → β) (c : Nat) : ∀ (J : List β) (L : List α), J.Nodup → (∀ a ∈ L, f a ∈ J) → (∀ j ∈ J, (L.filter fun a => decide (f a = j)).length = c) → L.length = c * J.length
  | [], L, _, h, _ => by
    cases L with
    | nil => rfl
    | cons a L => have := h a List.mem_cons_self; cases this
  | j :: J, L, hJ, h, hc => by
    obtain ⟨hj, hJ2⟩ := List.nodup_cons.1 hJ
    have e : ∀ j' ∈ J, ((L.filter fun a => !decide (f a = j)).filter fun a => decide (f a = j')).length = (L.filter fun a => decide (f a = j')).length := by
      intro j' hj'
      rw [List.filter_filter]
      congr 1
      refine List.filter_congr fun a _ => ?_
      by_cases h4 : f a = j'
      · have : ¬ j' = j := fun e => hj (e ▸ hj')
        simp [h4, this]
      · simp [h4]
    have ih := split_gen f c J (L.filter fun a => !decide (f a = j)) hJ2 (by
      intro a ha
      obtain ⟨h1, h2⟩ := List.mem_filter.1 ha
      rcases List.mem_cons.1 (h a h1) with h3 | h3
      · simp [h3] at h2
      · exact h3) (fun j' hj' => by rw [e j' hj']; exact hc j' (List.mem_cons_of_mem _ hj'))
    have h0 := hc j List.mem_cons_self
    have h5 := List.length_eq_countP_add_countP (fun a => decide (f a = j)) (l := L)
    rw [List.countP_eq_length_filter, List.countP_eq_length_filter, h0] at h5
    have h6 : (L.filter fun a => decide ¬(decide (f a = j)) = true) = L.filter fun a => !decide (f a = j) := List.filter_congr fun a _ => by simp
    rw [h6, ih] at h5
    rw [h5, List.length_cons, Nat.mul_add, Nat.mul_one]
    omega
def imsK (x : Inc) : Nat → List Inc
  | 0 => []
  | k + 1 => if imgI x (permL x.V k) ∈ imsK x k then imsK x k else imsK x k ++ [imgI x (permL x.V k)]
theorem imsK_nd (x : Inc) : ∀ k, (imsK x k).Nodup
  | 0 => List.nodup_nil
  | k + 1 => by
    have ih := imsK_nd x k
    unfold imsK
    split
    · exact ih
    · rename_i h
      exact List.nodup_append.2 ⟨ih, by simp, by rintro a ha b hb rfl; rw [List.mem_singleton.1 hb] at ha; exact h ha⟩
theorem imsK_mem (x : Inc) (y : Inc) : ∀ k, y ∈ imsK x k ↔ ∃ r, r < k ∧ imgI x (permL x.V r) = y
  | 0 => by simp [imsK]
  | k + 1 => by
    have ih := imsK_mem x y k
    have hs : y ∈ imsK x (k + 1) ↔ y ∈ imsK x k ∨ imgI x (permL x.V k) = y := by
      rw [imsK]
      split
      · rename_i h
        constructor
        · exact Or.inl
        · rintro (h1 | h1)
          · exact h1
          · rw [← h1]; exact h
      · rw [List.mem_append, List.mem_singleton]
        constructor
        · rintro (h1 | h1)
          · exact .inl h1
          · exact .inr h1.symm
        · rintro (h1 | h1)
          · exact .inl h1
          · exact .inr h1.symm
    rw [hs, ih]
    constructor
    · rintro (⟨r, h1, h2⟩ | h1)
      · exact ⟨r, by omega, h2⟩
      · exact ⟨k, by omega, h1⟩
    · rintro ⟨r, h1, h2⟩
      rcases Nat.lt_or_ge r k with h3 | h3
      · exact .inl ⟨r, h3, h2⟩
      · have : r = k := by omega
        subst this
        exact .inr h2
theorem imsK_len (x : Inc) : ∀ k, (imsK x k).length ≤ k
  | 0 => Nat.le_refl _
  | k + 1 => by
    have := imsK_len x k
    unfold imsK
    split
    · omega
    · rw [List.length_append]; simp; omega
theorem ims_all {x : Inc} (hx : x.Fam) : ordK x x.V * (imsK x (factL x.V)).length = factL x.V := by
  have hl : (permsA x.V).length = factL x.V := by rw [← permL_all, List.length_map, List.length_range]
  rw [← hl]
  refine (split_gen (imgI x) (ordK x x.V) (imsK x (permsA x.V).length) (permsA x.V) (imsK_nd _ _) ?_ ?_).symm
  · intro g hg
    rw [← permL_all] at hg
    obtain ⟨r, hr, rfl⟩ := List.mem_map.1 hg
    rw [hl]
    exact (imsK_mem x _ _).2 ⟨r, List.mem_range.1 hr, rfl⟩
  · intro y hy
    rw [hl] at hy
    obtain ⟨r, hr, rfl⟩ := (imsK_mem x _ _).1 hy
    exact fib_ord hx (permL_pm hr)
theorem ord_img {x : Inc} (hx : x.Fam) {g : List Int} (hg : Pm g x.V) : ordK (imgI x g) (imgI x g).V = ordK x x.V := by
  have hy := img_fam hx hg
  rw [← autos_len hy, autos_fib hy, ← fib_ord hx hg]
  obtain ⟨h, hh, e⟩ := inv_ex hg
  have mem : ∀ b, b ∈ fibL (imgI x g) (imgI x g) ↔ Pm b x.V ∧ imgI x (mulI g b) = imgI x g := by
    intro b
    rw [fib_mem, img_V]
    constructor
    · rintro ⟨h1, h2⟩; exact ⟨h1, by rw [← img_mul hx hg h1]; exact h2⟩
    · rintro ⟨h1, h2⟩; exact ⟨h1, by rw [img_mul hx hg h1]; exact h2⟩
  refine Nat.le_antisymm ?_ ?_
  · have h1 := nd_le ((fibL (imgI x g) (imgI x g)).map (mulI g ·)) (fibL x (imgI x g)) ((nd_map (fun u hu v hv e => mul_cancelL ((mem u).1 hu).1 ((mem v).1 hv).1 hg e)).2 (fib_nd _ _)) (by
      intro u hu
      obtain ⟨v, hv, rfl⟩ := List.mem_map.1 hu
      obtain ⟨h2, h3⟩ := (mem v).1 hv
      exact (fib_mem _ _ _).2 ⟨mul_pm hg h2, h3⟩)
    rwa [List.length_map] at h1
  · have h1 := nd_le ((fibL x (imgI x g)).map (mulI h ·)) (fibL (imgI x g) (imgI x g)) ((nd_map (fun u hu v hv e => mul_cancelL ((fib_mem _ _ u).1 hu).1 ((fib_mem _ _ v).1 hv).1 hh e)).2 (fib_nd _ _)) (by
      intro u hu
      obtain ⟨v, hv, rfl⟩ := List.mem_map.1 hu
      obtain ⟨h2, h3⟩ := (fib_mem _ _ v).1 hv
      refine (mem _).2 ⟨mul_pm hh h2, ?_⟩
      rw [← mul_assoc hg hh h2, e, one_mul h2, h3])
    rwa [List.length_map] at h1
theorem isG_conj {x : Inc} (hx : x.Fam) {g h k : List Int} (hg : Pm g x.V) (hh : Pm h x.V) (hk : Pm k x.V) (e : mulI g k = oneI x.V) : isG (imgI x g) (mulI k (mulI h g)) = isG x h := by
  have hy := img_fam hx hg
  have hhg := mul_pm hh hg
  have hc := mul_pm hk hhg
  rw [Bool.eq_iff_iff, isG_iff hy, isG_iff hx, ← img_self hy (by rw [img_V]; exact hc), ← img_self hx hh, img_mul hx hg hc, ← mul_assoc hg hk hhg, e, one_mul hhg, ← img_mul hx hh hg]
  constructor
  · intro h1
    exact img_inj (img_fam hx hh) hx img_V (by rw [img_V]; exact hg) h1
  · intro h1; rw [h1]
theorem wth_bit (V s q : Nat) : (wthN (2 ^ V - 1) s).testBit q = (decide (q < V) && !s.testBit q) := by
  unfold wthN
  rw [Nat.testBit_xor, Nat.testBit_and, Nat.testBit_two_pow_sub_one]
  cases decide (q < V) <;> cases s.testBit q <;> rfl
theorem wth_lt (V s : Nat) : wthN (2 ^ V - 1) s < 2 ^ V := by
  have h2 : 2 ^ V - 1 < 2 ^ V := by have := Nat.two_pow_pos V; omega
  exact Nat.xor_lt_two_pow h2 (Nat.lt_of_le_of_lt Nat.and_le_left h2)
theorem wth_wth {V s : Nat} (hs : s < 2 ^ V) : wthN (2 ^ V - 1) (wthN (2 ^ V - 1) s) = s := by
  refine Nat.eq_of_testBit_eq fun q => ?_
  rw [wth_bit, wth_bit]
  by_cases h : q < V
  · simp [h]
  · simp [h]
    have := bits_lt hs (q := q)
    cases hb : s.testBit q
    · rfl
    · exact absurd (this hb) h
theorem wth_trace {V s : Nat} {g : List Int} (hg : Pm g V) : traceB g (wthN (2 ^ V - 1) s) = wthN (2 ^ V - 1) (traceB g s) := by
  refine Nat.eq_of_testBit_eq fun q => ?_
  rw [wth_bit, traceB_bit, traceB_bit, wth_bit, hg.1]
  by_cases h : q < V
  · have := pm_get hg h
    rw [decide_eq_true h, decide_eq_true (show (g.getD q 0).toNat < V by omega)]
    rfl
  · simp [h]
theorem com_fam {x : Inc} (hx : x.Fam) : (comI x).Fam := by
  have hlt : ∀ b ∈ sortL (wthB (2 ^ x.V - 1) x.B), b < 2 ^ x.V := by
    intro b hb
    obtain ⟨s, hs, rfl⟩ := List.mem_map.1 ((sortL_perm _).mem_iff.1 hb)
    exact wth_lt _ _
  have h2 : 2 ^ x.V ≤ 2 ^ 7 := Nat.pow_le_pow_right (by decide) hx.v7
  refine ⟨⟨hx.ok.v1, hx.ok.v, fun b hb => ?_, ?_⟩, hx.v7, sortL_srt _, hlt⟩
  · have := hlt b hb; unfold W64; omega
  · show (sortL _).length ≤ 12
    rw [(sortL_perm _).length_eq]
    have := hx.ok.n
    simpa [wthB] using this
theorem com_aut {x : Inc} (hx : x.Fam) (g : List Int) : Aut (comI x) g ↔ Aut x g := by
  rw [aut_iff (com_fam hx), aut_iff hx]
  show Pm g x.V ∧ (sortL (wthB (2 ^ x.V - 1) x.B)).Perm ((sortL (wthB (2 ^ x.V - 1) x.B)).map (traceB g)) ↔ _
  refine and_congr_right fun hg => ?_
  have e1 : ((sortL (wthB (2 ^ x.V - 1) x.B)).map (traceB g)).Perm (wthB (2 ^ x.V - 1) (x.B.map (traceB g))) := by
    refine ((sortL_perm _).map _).trans (List.Perm.of_eq ?_)
    unfold wthB
    rw [List.map_map, List.map_map]
    exact List.map_congr_left fun s hs => wth_trace hg
  have e2 := sortL_perm (wthB (2 ^ x.V - 1) x.B)
  have inv : ∀ l : List Nat, (∀ s ∈ l, s < 2 ^ x.V) → wthB (2 ^ x.V - 1) (wthB (2 ^ x.V - 1) l) = l := fun l hl => by
    unfold wthB
    rw [List.map_map]
    conv => rhs; rw [← List.map_id l]
    exact List.map_congr_left fun s hs => wth_wth (hl s hs)
  have hlt2 : ∀ s ∈ x.B.map (traceB g), s < 2 ^ x.V := by
    intro s hs
    obtain ⟨t, _, rfl⟩ := List.mem_map.1 hs
    have := trace_lt g t
    rwa [hg.1] at this
  constructor
  · intro h
    have h1 : (wthB (2 ^ x.V - 1) x.B).Perm (wthB (2 ^ x.V - 1) (x.B.map (traceB g))) := (e2.symm.trans h).trans e1
    have h3 := h1.map (wthN (2 ^ x.V - 1))
    change (wthB (2 ^ x.V - 1) (wthB (2 ^ x.V - 1) x.B)).Perm (wthB (2 ^ x.V - 1) (wthB (2 ^ x.V - 1) (x.B.map (traceB g)))) at h3
    rwa [inv _ hx.lt, inv _ hlt2] at h3
  · intro h
    exact (e2.trans (h.map _)).trans e1.symm
theorem com_isG {x : Inc} (hx : x.Fam) (g : List Int) : isG (comI x) g = isG x g := by
  rw [Bool.eq_iff_iff, isG_iff (com_fam hx), isG_iff hx, com_aut hx]
theorem com_ord {x : Inc} (hx : x.Fam) : ordK (comI x) (comI x).V = ordK x x.V := by
  rw [← autos_len (com_fam hx), ← autos_len hx]
  unfold autos
  show ((permsA x.V).filter _).length = _
  congr 1
  exact List.filter_congr fun g _ => com_isG hx g
end Go.Proofs.YthfcfdlbnfcboaaDoor.Pw



set_option linter.unusedVariables false
set_option linter.unusedSimpArgs false
set_option maxHeartbeats 4000000
set_option maxRecDepth 10000
namespace Go.Proofs.YthfcfdlbnfcboaaDoor.Pw
open Go
theorem shuf_pm (l : List Nat) : ∀ n, Pm (shufK l n) n
  | 0 => ⟨rfl, (fun x hx => by cases hx), List.Pairwise.nil⟩
  | n + 1 => by
    rw [pm_perm]
    have ih := pm_perm.1 (shuf_pm l n)
    rw [← one_snoc n]
    refine List.perm_middle.trans ?_
    rw [List.take_append_drop]
    exact (ih.cons _).trans (List.perm_append_singleton _ _).symm
theorem invK_get {g : List Int} {n : Nat} (hg : Pm g n) : ∀ k, k ≤ n → ∀ p, p < k → (invK g k).getD (g.getD p 0).toNat 0 = (p : Int)
  | 0, _, p, hp => by omega
  | k + 1, hk, p, hp => by
    have ih := invK_get hg k (by omega)
    have hkg := pm_get hg (k := k) (by omega)
    have hpg := pm_get hg (k := p) (by omega)
    have hl := invK_len g k
    have hgl := hg.1
    unfold invK
    by_cases e : (g.getD k 0).toNat = (g.getD p 0).toNat
    · have := pm_inj hg (p := k) (q := p) (by omega) (by omega) e
      subst this
      simp only [List.getD]
      rw [List.getElem?_set_self (by rw [hl]; simp only [List.getD] at hkg; omega)]
      rfl
    · have hpk : p < k := by
        rcases Nat.lt_or_ge p k with h | h
        · exact h
        · have : p = k := by omega
          subst this
          exact absurd rfl e
      have := ih p hpk
      simp only [List.getD] at this e ⊢
      rw [List.getElem?_set_ne e]
      exact this
theorem invI_eq {g h : List Int} {n : Nat} (hg : Pm g n) (hh : Pm h n) (e : mulI g h = oneI n) : invI g = h := by
  have hgl := hg.1
  refine ext_get (n := n) (by unfold invI; rw [invK_len]; exact hgl) hh.1 fun q hq => ?_
  have e2 := inv_left hg hh e
  have hhl := hh.1
  have hq2 := pm_get hh hq
  have e3 : (mulI h g).getD q 0 = (q : Int) := by rw [e2, one_getD _ _ hq]
  rw [mul_get (by omega)] at e3
  have e4 := invK_get hg n (Nat.le_refl _) (h.getD q 0).toNat (by omega)
  rw [e3] at e4
  unfold invI
  rw [hgl]
  have : (invK g n).getD q 0 = (((h.getD q 0).toNat : Nat) : Int) := by simpa using e4
  rw [this]
  omega
theorem inv_mul {g : List Int} {n : Nat} (hg : Pm g n) : Pm (invI g) n ∧ mulI g (invI g) = oneI n := by
  obtain ⟨h, hh, e⟩ := inv_ex hg
  rw [invI_eq hg hh e]
  exact ⟨hh, e⟩
def incL (l : List Inc) : List D := l.map Inc.D
theorem incL_len (l : List Inc) : (incL l).length = l.length := by simp [incL]
theorem cl_inc : ∀ l : List Inc, clDs (incL l) = true
  | [] => rfl
  | x :: l => by
    have ih := cl_inc l
    have h1 : clDs (setsL x.B) = true := cl_sets _
    show (clD x.D && clDs (incL l)) = true
    rw [ih, Bool.and_true]
    simp [Inc.D, clD, clDs, setsD, iD, cl_sets]
theorem exIc {l : List Inc} {n : Nat} {a : Inc} {k : D → Prop} (h : l[n]? = some a) (hk : k a.D) : ∃ d, (incL l)[n]? = some d ∧ k d := ⟨_, by unfold incL; rw [List.getElem?_map, h]; rfl, hk⟩
theorem vImages (lx ll : List Nat) (z : Nat) (hlx : ∀ x ∈ lx, x < 256) (hll : ∀ x ∈ ll, x < 256) (hz : z < 256) : Val Tryd.prog 5 [.agg [bytesD lx], bytesD ll, .int .u8 (z : Int)] (fun r => r = .bool true) := by
  have hmx := vPick lx hlx
  have hfx := limX_fam lx (most := 5) (by omega) (by omega)
  have hv5 := limX_v lx (most := 5) (by omega)
  generalize limX lx 5 = X at hmx hfx hv5
  have hox := vLawOrder X hfx.ok hfx.v7
  have hv1 := hfx.ok.v1
  have hv7 := hfx.v7
  have hbk := hfx.ok.b
  have hnk := hfx.ok.n
  have hfl := fact_le X.V hv7
  have hF := vFact X.V (by omega)
  have hall := ims_all hfx
  have hol : ordK X X.V ≤ factL X.V := by rw [← cntA_all hfx]; exact cntA_le _ _
  refine Val.ofV ?_
  refine hc_ofS (okc Tryd.f5.ntmps 0) (fn := Tryd.f5) (cd := _) rfl rfl rfl rfl rfl rfl (fun hbd => ?_)
  repeat' (
   conv => whnf
   first
   | ((with_reducible refine hcI ?_); refine Val.call vExamples (.refl _) (ler _ _) rfl ?_; rintro r rfl))
  all_goals (conv => whnf)
  refine hcNorm [.var (.agg [bytesD lx])] rfl ?_
  refine Val.call hmx (.refl _) (ler _ _) rfl ?_
  rintro r rfl
  all_goals (conv => whnf)
  refine hcNorm [.var (.agg [bytesD lx]), .var X.D] rfl ?_
  refine Val.call hox (.refl _) (ler _ _) rfl ?_
  rintro r rfl
  all_goals (conv => whnf)
  refine lpX (X := Nat) (fun k => [(1, bytesD ll), (2, .int .u8 (z : Int)), (7, .bool true), (8, .ptr 0 []), (9, .ptr 1 []), (10, .sl 2 0 (imsK X k).length), (11, iD k)]) (fun k => [.var X.D, .var (.agg [iD (ordK X X.V), .int .i64 0]), .row (.agg [.leaf, .leaf]) (incL (imsK X k))]) (fun k => k ≤ factL X.V) (fun k => factL X.V - k)
    ⟨_, nx (ρ := [1, 2, 3]) 0 (by repeat (first | exact trivial | refine seC rfl rfl ?_ | refine seL (leRow rfl rfl) rfl ?_)) (by repeat (first | exact trivial | refine shC rfl rfl ?_)) rfl rfl (Nat.lt_succ_self _) (Nat.zero_le _)⟩ ?_
  intro k hk
  have hil := imsK_len X k
  have hil2 := incL_len (imsK X k)
  rcases Nat.lt_or_ge k (factL X.V) with hlt | hge
  · have hP := vPermR X.V k (by omega) (by omega)
    have hI := vImageR X (permL X.V k) (by omega) hbk (by omega)
    repeat' (
     conv => whnf
     first
     | ((with_reducible refine pcI ?_); refine Val.pure hP (ler _ _) rfl rfl ?_)
     | ((with_reducible refine pcI ?_); refine Val.pure hI (ler _ _) rfl rfl ?_)
     | refine ifd (fun h => ?_) (fun h => ?_)
     | refine ifn (fun h => ?_) (fun h => ?_)
     | with_reducible refine ivW (by omega) (by omega) ?_
     | ((with_reducible refine hcI ?_); refine Val.call (vFact _ (by omega)) (.refl _) (ler _ _) rfl ?_; rintro r rfl)
     | ((with_reducible refine pcI ?_); refine Val.pure (vFact _ (by omega)) (ler _ _) rfl rfl ?_)
     | ((with_reducible refine hcI ?_); refine Val.call (vImageR _ _ (by omega) (by assumption) (by omega)) (.refl _) (ler _ _) rfl ?_; rintro r rfl)
     | ((with_reducible refine hcI ?_); refine Val.call (vShuffled _ _ (by assumption) (by omega)) (.refl _) (ler _ _) rfl ?_; rintro r rfl)
     | ((with_reducible apply drT 7); rfl)
     | ((with_reducible apply drT 8); rfl)
     | ((with_reducible apply drT 12); rfl)
     | ((with_reducible apply ob); ((first | rfl | assumption | omega | (unfold maxLen2; omega) | (dsimp only; omega) | (simp only [LN]; omega) | (simp; done) | (simp; omega)))))
    all_goals (conv => whnf)
    all_goals (first | (exfalso; omega) | skip)
    generalize hy : imgI X (permL X.V k) = y at *
    refine lpX (X := Nat × Bool) (fun s => [(1, bytesD ll), (2, .int .u8 (z : Int)), (7, .bool true), (8, .ptr 0 []), (9, .ptr 1 []), (10, .sl 2 0 (imsK X k).length), (11, iD k), (12, .ptr 3 []), (13, .bool s.2), (14, iD s.1)]) (fun _ => [.var X.D, .var (.agg [iD (ordK X X.V), .int .i64 0]), .row (.agg [.leaf, .leaf]) (incL (imsK X k)), .var y.D]) (fun s => s.1 ≤ (imsK X k).length ∧ s.2 = decide (y ∉ (imsK X k).take s.1)) (fun s => (imsK X k).length - s.1)
      ⟨_, nx0 (X := Nat × Bool) (0, true) (by repeat (first | exact trivial | refine se0 rfl ?_)) rfl (Nat.lt_succ_self _) ⟨Nat.zero_le _, by simp⟩⟩ ?_
    rintro ⟨j, b⟩ ⟨hj, hb⟩
    dsimp only at hj hb ⊢
    have hks : imsK X (k + 1) = if y ∈ imsK X k then imsK X k else imsK X k ++ [y] := by rw [imsK, hy]
    cases b with
    | false =>
      have hym : y ∈ imsK X k := List.mem_of_mem_take (by simpa using hb)
      rw [if_pos hym] at hks
      repeat' (
       conv => whnf
       first
       | refine ifd (fun h => ?_) (fun h => ?_)
       | with_reducible refine ivW (by omega) (by omega) ?_)
      all_goals (conv => whnf)
      all_goals (first | (exfalso; omega) | skip)
      all_goals exact nx (k + 1) [0, 1, 2] (by rw [hks]; exact (by repeat (first | exact trivial | refine seC rfl rfl ?_ | refine seL (leRow rfl rfl) rfl ?_))) (by rw [hks]; exact (shC rfl rfl (shC rfl rfl (shR rfl rfl (cl_inc _) trivial)))) rfl rfl (by omega) (by omega)
    | true =>
      rcases Nat.lt_or_ge j (imsK X k).length with hjl | hjg
      · obtain ⟨w, hw⟩ : ∃ w, (imsK X k)[j]? = some w := ⟨_, List.getElem?_eq_getElem hjl⟩
        have hS := vSameI w y
        have hw2 : (imsK X k)[0 + ((j : Nat) : Int).toNat]? = some w := by simpa using hw
        repeat' (
         conv => whnf
         first
         | ((with_reducible refine exIc hw2 ?_))
         | ((with_reducible refine hcI ?_); refine Val.call hS (.refl _) (ler _ _) rfl ?_; rintro r rfl)
         | refine ifd (fun h => ?_) (fun h => ?_)
         | with_reducible refine ivW (by omega) (by omega) ?_
         | ((with_reducible apply drT 5); rfl)
         | ((with_reducible apply ob); ((first | rfl | assumption | omega | (unfold maxLen2; omega) | (dsimp only; omega) | (simp only [LN]; omega) | (simp; done) | (simp; omega)))))
        all_goals (conv => whnf)
        all_goals (first | (exfalso; omega) | skip)
        have hst : (!decide (w = y)) = decide (y ∉ (imsK X k).take (j + 1)) := by
          have hb2 : y ∉ (imsK X k).take j := by simpa using hb
          rw [List.take_add_one, hw, Bool.eq_iff_iff]
          simp only [Bool.not_eq_true', decide_eq_false_iff_not, decide_eq_true_eq, List.mem_append, Option.toList_some, List.mem_singleton, not_or]
          exact ⟨fun h1 => ⟨hb2, fun h2 => h1 h2.symm⟩, fun h1 h2 => h1.2 h2.symm⟩
        exact nx0 (X := Nat × Bool) (j + 1, !decide (w = y)) (by repeat (first | exact trivial | refine se0 rfl ?_)) rfl (by dsimp only; omega) ⟨by dsimp only; omega, hst⟩
      · have hym : y ∉ imsK X k := by rw [List.take_of_length_le hjg] at hb; simpa using hb
        rw [if_neg hym] at hks
        repeat' (
         conv => whnf
         first
         | refine ifd (fun h => ?_) (fun h => ?_)
         | with_reducible refine ivW (by omega) (by omega) ?_
         | ((with_reducible apply drT 5); rfl)
         | ((with_reducible apply ob); ((first | rfl | assumption | omega | (unfold maxLen2; omega) | (dsimp only; omega) | (simp only [LN]; omega) | (simp; done) | (simp; omega)))))
        all_goals (conv => whnf)
        all_goals (first | (exfalso; omega) | skip)
        have hrow : List.take (imsK X k).length (incL (imsK X k)) ++ [y.D] = incL (imsK X (k + 1)) := by
          rw [List.take_of_length_le (by omega), hks]; simp [incL]
        have hks2 : (imsK X (k + 1)).length = (imsK X k).length + 1 := by rw [hks]; simp
        exact nx (k + 1) [0, 1, 5] (by rw [hks2]; exact (by repeat (first | exact trivial | refine seC rfl rfl ?_ | refine seL (leRow rfl rfl) rfl ?_))) (shC rfl rfl (shC rfl rfl (shR rfl hrow (cl_inc _) trivial))) rfl rfl (by omega) (by omega)
  · have hke : k = factL X.V := by omega
    subst hke
    have hfp : 1 ≤ factL X.V := fact_pos _
    have hzm : z % factL X.V < factL X.V := Nat.mod_lt _ (by omega)
    have hg := shuf_pm ll X.V
    have hgL := hg.1
    have hh := permL_pm hzm
    have hhL := hh.1
    obtain ⟨hk1, hk2⟩ := inv_mul hg
    have hmh := mul_pm hh hg
    have hfi := img_fam hfx hg
    have hfc := com_fam hfx
    have hI := vImageR X (shufK ll X.V) (by omega) hbk (by omega)
    have hP := vPermR X.V (z % factL X.V) (by omega) (by omega)
    have hIn := vInvR (shufK ll X.V) (by rw [hgL]; exact hg.2.1) (by omega)
    have hM1 := vMulR (permL X.V (z % factL X.V)) (shufK ll X.V) (by rw [hgL]; exact hh.2.1) (by omega)
    have hM2 := vMulR (invI (shufK ll X.V)) (mulI (permL X.V (z % factL X.V)) (shufK ll X.V)) (by rw [hmh.1]; exact hk1.2.1) (by rw [hk1.1]; omega)
    have hO1 := vLawOrder _ hfi.ok hfi.v7
    rw [ord_img hfx hg] at hO1
    have hG1 := vIs X (permL X.V (z % factL X.V)) (by omega) hbk hnk hfx.bits
    have hG2 := vIs (imgI X (shufK ll X.V)) (mulI (invI (shufK ll X.V)) (mulI (permL X.V (z % factL X.V)) (shufK ll X.V))) (by rw [img_V]; omega) hfi.ok.b hfi.ok.n hfi.bits
    rw [isG_conj hfx hg hh hk1 hk2] at hG2
    have hC := vCompl X (by omega) hbk hnk
    have hO2 := vLawOrder _ hfc.ok hfc.v7
    rw [com_ord hfx] at hO2
    have hG3 := vIs (comI X) (permL X.V (z % factL X.V)) (show X.V ≤ 64 by omega) hfc.ok.b hfc.ok.n hfc.bits
    rw [com_isG hfx] at hG3
    generalize isG X (permL X.V (z % factL X.V)) = t at *
    repeat' (
     conv => whnf
     first
     | ((with_reducible refine ivMod ?_))
     | ((with_reducible refine hcI ?_); refine Val.call hI (.refl _) (ler _ _) rfl ?_; rintro r rfl)
     | ((with_reducible refine hcI ?_); refine Val.call hP (.refl _) (ler _ _) rfl ?_; rintro r rfl)
     | ((with_reducible refine hcI ?_); refine Val.call hIn (.refl _) (ler _ _) rfl ?_; rintro r rfl)
     | ((with_reducible refine hcI ?_); refine Val.call hM1 (.refl _) (ler _ _) rfl ?_; rintro r rfl)
     | ((with_reducible refine hcI ?_); refine Val.call hM2 (.refl _) (ler _ _) rfl ?_; rintro r rfl)
     | ((with_reducible refine pcI ?_); refine Val.pure hO1 (ler _ _) rfl rfl ?_)
     | ((with_reducible refine pcI ?_); refine Val.pure hG1 (ler _ _) rfl rfl ?_)
     | ((with_reducible refine pcI ?_); refine Val.pure hG2 (ler _ _) rfl rfl ?_)
     | ((with_reducible refine pcI ?_); refine Val.pure hC (ler _ _) rfl rfl ?_)
     | ((with_reducible refine pcI ?_); refine Val.pure hO2 (ler _ _) rfl rfl ?_)
     | ((with_reducible refine hcI ?_); refine Val.call hG3 (.refl _) (ler _ _) rfl ?_; rintro r rfl)
     | refine ifd (fun h => ?_) (fun h => ?_)
     | refine ifn (fun h => ?_) (fun h => ?_)
     | refine ifb (fun h => ?_) (fun h => ?_)
     | with_reducible refine ivW (by omega) (by omega) ?_
     | ((with_reducible refine hcI ?_); refine Val.call (vFact _ (by omega)) (.refl _) (ler _ _) rfl ?_; rintro r rfl)
     | ((with_reducible refine pcI ?_); refine Val.pure (vFact _ (by omega)) (ler _ _) rfl rfl ?_)
     | ((with_reducible refine pcI ?_); refine Val.pure (vPermR _ _ (by omega) (by omega)) (ler _ _) rfl rfl ?_)
     | ((with_reducible refine pcI ?_); refine Val.pure (vImageR _ _ (by omega) (by assumption) (by omega)) (ler _ _) rfl rfl ?_)
     | ((with_reducible refine hcI ?_); refine Val.call (vShuffled _ _ (by assumption) (by omega)) (.refl _) (ler _ _) rfl ?_; rintro r rfl)
     | ((with_reducible apply drT 7); rfl)
     | ((with_reducible apply drT 8); rfl)
     | ((with_reducible apply drT 12); rfl)
     | ((with_reducible apply drT 30); rfl)
     | ((with_reducible apply ob); ((first | rfl | assumption | omega | (unfold maxLen2; omega) | (dsimp only; omega) | (simp only [LN]; omega) | (simp; done) | (simp; omega)))))
    all_goals (conv => whnf)
    all_goals (first | (exfalso; omega) | skip)
    all_goals (first | exact fC rfl rfl | (exfalso; simp at h; done) | (exfalso; simp_all; done) | (cases t <;> exact fC rfl rfl))
theorem vImages0 (g0 g1 g2 : D) (h0 : TyD (cx 0 0) 6 24 g0) (h1 : TyD (cx 0 0) 6 22 g1) (h2 : TyD (cx 0 0) 6 5 g2) : Val Tryd.prog 5 [g0, g1, g2] (fun r => r = .bool true) := by
  obtain ⟨lx, rfl, hlx⟩ := tyRaw h0
  obtain ⟨ll, rfl, hll⟩ := tyU8s h1
  obtain ⟨z, rfl, hz⟩ := tyU8 h2
  exact vImages lx ll z hlx hll hz
end Go.Proofs.YthfcfdlbnfcboaaDoor.Pw

