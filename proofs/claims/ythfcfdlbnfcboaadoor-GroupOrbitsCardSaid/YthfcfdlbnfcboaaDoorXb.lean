/- Parts of the proof, merged: XQ XR XS XT XU XV XW XY XZ YA YB YC YD YE YF ZA YG. -/
import Derived.Test.YthfcfdlbnfcboaaDoorXa

set_option linter.unusedVariables false
set_option linter.unusedSimpArgs false
set_option maxHeartbeats 1000000
set_option maxRecDepth 10000
namespace Go.Proofs.YthfcfdlbnfcboaaDoor.Pw
open Go
theorem exl2 {α : Type} {l : List α} (h : l.length = 2) : ∃ o0 o1, l = [o0, o1] := by
  match l, h with
  | [a, b], _ => exact ⟨a, b, rfl⟩
theorem itPts2 (s : Nat) (hs : W64 s) (g : Nat) (hg : g < 2) (J : Nat → List Ob → Prop) (Q : D → List Ob → Prop)
    (hJ : ∀ k H, J k H → ∃ o0 o1, H = [o0, o1] ∧ ∀ o ∈ H, inO 2 o = true)
    (hyl : ∀ k p H, J k H → (bitsL s)[k]? = some p → YC Tryd.prog g [iD p] H (fun r H' => Fin (H'.length = 2 ∧ (∀ o ∈ H', inO 2 o = true) ∧ ((r = .bool true ∧ J (k + 1) H') ∨ (r = .bool false ∧ Q (.tuple []) H')))))
    (hend : ∀ H, J (bitsL s).length H → Q (.tuple []) H) (H0 : List Ob) (h0 : J 0 H0) :
    HC Tryd.prog 61 [sD s, .yld g] H0 Q := by
  obtain ⟨o0, o1, rfl, hin⟩ := hJ 0 H0 h0
  refine HC.view (Q0 := fun r H' => Fin (∃ Hc Y, H' = Hc ++ Y ∧ Hc.length = 2 ∧ (∀ o ∈ Hc, inO 2 o = true) ∧ r = .tuple [] ∧ Q r Hc)) ?_ ?_
  · refine hc_ofS (okc Tryd.f61.ntmps 2) (fn := Tryd.f61) (cd := _) rfl rfl rfl rfl rfl rfl (fun hbd => ?_)
    all_goals (conv => whnf)
    refine lpX (X := Nat × Nat × List Ob) (fun x => [(1, .yld g), (4, sD x.2.1)]) (fun x => x.2.2) (fun x => W64 x.2.1 ∧ bitsL x.2.1 = (bitsL s).drop x.1 ∧ J x.1 x.2.2 ∧ x.1 ≤ (bitsL s).length) (fun x => (bitsL x.2.1).length) ⟨_, nx0 (0, s, [o0, o1]) (by repeat (first | exact trivial | refine se0 rfl ?_)) rfl (Nat.lt_succ_self _) ⟨hs, rfl, h0, Nat.zero_le _⟩⟩ ?_
    rintro ⟨j, x, Hc⟩ ⟨hx, hb, hj, hjle⟩
    dsimp only at hx hb hj hjle ⊢
    clear hin h0
    obtain ⟨o0, o1, rfl, hin⟩ := hJ _ _ hj
    cases hbx : bitsL x with
    | nil =>
      have hx0 := bitsL_nil hx hbx
      subst hx0
      conv => whnf
      rw [hbx] at hb
      have hjl : j = (bitsL s).length := by
        have := congrArg List.length hb
        rw [List.length_drop] at this
        simp only [List.length_nil] at this
        omega
      exact fin_in ⟨[o0, o1], [], rfl, rfl, hin, rfl, hend _ (hjl ▸ hj)⟩
    | cons i t =>
      obtain ⟨hi, hlow, hpred, hi64⟩ := bitsL_cons hbx
      have hx1 : 1 ≤ x := by
        rcases Nat.eq_zero_or_pos x with e | e
        · rw [e] at hi; simp at hi
        · exact e
      have hjl : j < (bitsL s).length := by
        have := congrArg List.length hb
        rw [hbx, List.length_drop] at this
        simp only [List.length_cons] at this
        omega
      rw [hbx] at hb
      have hji : (bitsL s)[j]? = some i := by
        have := congrArg (fun l => l[0]?) hb
        simpa [List.getElem?_drop] using this.symm
      have hjt : t = (bitsL s).drop (j + 1) := by
        have := congrArg List.tail hb
        simpa using this
      repeat' (
       conv => whnf
       first
       | refine ifn (fun h => ?_) (fun h => ?_)
       | ((with_reducible refine hcI ?_); refine Val.call (vTz x i hx hi hlow) (.refl _) (ler _ _) rfl ?_; rintro r rfl)
       | refine nfI ?_)
      all_goals (conv => whnf)
      · refine yldCall (Hc := [o0, o1]) (Y := []) (Y1 := []) (hyl j i _ hj hji) hg (.refl _) hin (ler _ _) rfl ?_
        intro r H' hq
        obtain ⟨hl', hin', hcase⟩ := fin_out hq
        refine ⟨hl', hin', by rcases hcase with ⟨rfl, _⟩ | ⟨rfl, _⟩ <;> rfl, ?_⟩
        rcases hcase with ⟨rfl, hJ'⟩ | ⟨rfl, hQ'⟩
        · clear hin hj
          obtain ⟨o0, o1, rfl, hin⟩ := hJ _ _ hJ'
          repeat' (
           conv => whnf
           first
           | ((with_reducible apply ivAnd); (rfl); (rfl); (focus ((repeat' (first | assumption | (exact hW _) | (unfold W64; first | omega | decide) | (exact Ws.get (by assumption) (by assumption)) | (exact wOne (by omega)) | (exact bit1_w (by omega)) | (exact wXorAnd (by assumption)) | (exact wSub (by assumption)) | apply wOr | (apply wAnd; assumption) | (apply wAnd2; assumption) | apply wShr)) <;> fail)); (focus ((repeat' (first | assumption | (exact hW _) | (unfold W64; first | omega | decide) | (exact Ws.get (by assumption) (by assumption)) | (exact wOne (by omega)) | (exact bit1_w (by omega)) | (exact wXorAnd (by assumption)) | (exact wSub (by assumption)) | apply wOr | (apply wAnd; assumption) | (apply wAnd2; assumption) | apply wShr)) <;> fail)))
           | ((with_reducible apply ivSub); (rfl); (rfl); (first | exact one_pos _ | omega); (focus ((repeat' (first | assumption | (exact hW _) | (unfold W64; first | omega | decide) | (exact Ws.get (by assumption) (by assumption)) | (exact wOne (by omega)) | (exact bit1_w (by omega)) | (exact wXorAnd (by assumption)) | (exact wSub (by assumption)) | apply wOr | (apply wAnd; assumption) | (apply wAnd2; assumption) | apply wShr)) <;> fail))))
          all_goals (conv => whnf)
          refine nx0 (j + 1, x &&& (x - 1), [o0, o1]) (by repeat (first | exact trivial | refine se0 rfl ?_)) rfl ?_ ⟨wAnd hx, hpred.trans hjt, hJ', hjl⟩
          show (bitsL (x &&& (x - 1))).length < (i :: t).length
          rw [hpred]; simp
        · all_goals (conv => whnf)
          exact fin_in ⟨H', _, rfl, hl', hin', rfl, hQ'⟩
      · exact absurd h (by omega)
  · intro r H' hq
    obtain ⟨Hc, Y, rfl, hl, hino, rfl, hq⟩ := fin_out hq
    refine ⟨Hc ++ Y, .tuple [], 2, .refl _, .refl _, Nat.le_refl _, by simp; omega, rfl, ?_, ?_⟩
    · rw [← hl, List.take_left]; rw [hl]; exact hino
    · rw [← hl, List.take_left]; exact hq
theorem itPtsF2 (s : Nat) (hs : W64 s) (g : Nat) (hg : g < 2) {H0 : List Ob} (lp : Ob) (pre0 : List Ob) (hH : H0 = pre0 ++ [lp]) (J : Nat → List Ob → Prop) (Q : D → List Ob → Prop)
    (hJ : ∀ k X, J k X → X.length + 1 = 2 ∧ ∀ o ∈ X, inO 2 o = true) (hlp : inO 2 lp = true)
    (hyl : ∀ k p X, J k X → (bitsL s)[k]? = some p → YC Tryd.prog g [iD p] (X ++ [lp]) (fun r H' => Fin ((r = .bool true ∧ ∃ X', H' = X' ++ [lp] ∧ J (k + 1) X') ∨ (r = .bool false ∧ H'.length = 2 ∧ (∀ o ∈ H', inO 2 o = true) ∧ Q (.tuple []) H'))))
    (hend : ∀ X, J (bitsL s).length X → Q (.tuple []) (X ++ [lp])) (h0 : J 0 pre0) :
    HC Tryd.prog 61 [sD s, .yld g] H0 Q := by
  have hin : ∀ k X, J k X → (X ++ [lp]).length = 2 ∧ ∀ o ∈ X ++ [lp], inO 2 o = true := by
    intro k X h
    obtain ⟨h1, h2⟩ := hJ k X h
    refine ⟨by simp; omega, fun o ho => ?_⟩
    rcases List.mem_append.1 ho with ho | ho
    · exact h2 o ho
    · simp at ho; subst ho; exact hlp
  refine itPts2 s hs g hg (fun k H => ∃ X, H = X ++ [lp] ∧ J k X) Q (fun k H h => ?_) (fun k p H h hp => ?_) (fun H h => ?_) H0 ⟨pre0, hH, h0⟩
  · obtain ⟨X, rfl, hj⟩ := h
    obtain ⟨h1, h2⟩ := hin k X hj
    obtain ⟨o0, o1, h3⟩ := exl2 h1
    exact ⟨o0, o1, h3, h2⟩
  · obtain ⟨X, rfl, hj⟩ := h
    refine YC.mono (hyl k p X hj hp) fun r H' hq => ?_
    rcases fin_out hq with ⟨h1, X', rfl, h3⟩ | ⟨h1, h2, h3, h4⟩
    · obtain ⟨h4, h5⟩ := hin _ _ h3
      exact fin_in ⟨h4, h5, .inl ⟨h1, X', rfl, h3⟩⟩
    · exact fin_in ⟨h2, h3, .inr ⟨h1, h4⟩⟩
  · obtain ⟨X, rfl, hj⟩ := h
    exact hend X hj
def movL (g : List Int) (l : List Nat) : Nat := l.foldl (fun o p => o ||| 1 <<< (g.getD p 0).toNat) 0
theorem movL_snoc (g : List Int) (l : List Nat) (p : Nat) : movL g (l ++ [p]) = movL g l ||| 1 <<< (g.getD p 0).toNat := by simp [movL]
theorem getD_mem {g : List Int} (hR : ∀ x ∈ g, 0 ≤ x ∧ x < 64) (p : Nat) : 0 ≤ g.getD p 0 ∧ g.getD p 0 < 64 := by
  rw [List.getD]
  cases h : g[p]? with
  | none => simp
  | some y => exact hR y (List.mem_of_getElem? h)
theorem movK_w {g : List Int} (hR : ∀ x ∈ g, 0 ≤ x ∧ x < 64) : ∀ (l : List Nat) (o : Nat), W64 o → W64 (l.foldl (fun o p => o ||| 1 <<< (g.getD p 0).toNat) o)
  | [], o, h => h
  | p :: l, o, h => movK_w hR l _ (wOr h (wOne (by have := getD_mem hR p; omega)))
theorem movL_w {g : List Int} (hR : ∀ x ∈ g, 0 ≤ x ∧ x < 64) (l : List Nat) : W64 (movL g l) := movK_w hR l 0 (by unfold W64; omega)
theorem vImg1 (s : Nat) (g : List Int) (hs : W64 s) (hR : ∀ x ∈ g, 0 ≤ x ∧ x < 64) (hb : ∀ p ∈ bitsL s, p < g.length) (hgl : g.length ≤ 1000) :
    Val Tryd.prog 73 [sD s, .ref .leaf (intsD g)] (fun r => r = sD (movL g (bitsL s))) := by
  have hg0 := intsL_len g
  refine Val.ofV ?_
  refine hc_ofS (okc Tryd.f73.ntmps 0) (fn := Tryd.f73) (cd := _) rfl rfl rfl rfl rfl rfl (fun hbd => ?_)
  all_goals (conv => whnf)
  refine itPtsF2 s hs 1 (by omega) _ [.var (sD 0)] rfl (fun k X => X = [.var (sD (movL g ((bitsL s).take k)))]) _ (fun k X h => by subst h; exact ⟨rfl, inAll rfl⟩) rfl ?_ ?_ rfl
  · rintro k p X rfl hp
    have hpl := hb p (List.mem_of_getElem? hp)
    have hw := movL_w hR ((bitsL s).take k)
    have hW : ∀ y, W64 (movL g y) := movL_w hR
    refine yc_intro (okc Tryd.f73.ntmps 2) rfl rfl rfl rfl rfl ?_
    repeat' (
     conv => whnf
     first
     | ((with_reducible apply ivOr); (rfl); (rfl); (focus ((repeat' (first | assumption | (exact hW _) | (unfold W64; first | omega | decide) | (exact Ws.get (by assumption) (by assumption)) | (exact wOne (by omega)) | (exact bit1_w (by omega)) | (exact wXorAnd (by assumption)) | (exact wSub (by assumption)) | apply wOr | (apply wAnd; assumption) | (apply wAnd2; assumption) | apply wShr)) <;> fail)); (focus ((repeat' (first | assumption | (exact hW _) | (unfold W64; first | omega | decide) | (exact Ws.get (by assumption) (by assumption)) | (exact wOne (by omega)) | (exact bit1_w (by omega)) | (exact wXorAnd (by assumption)) | (exact wSub (by assumption)) | apply wOr | (apply wAnd; assumption) | (apply wAnd2; assumption) | apply wShr)) <;> fail)))
     | ((with_reducible apply ivShlI); (rfl); (omega); (omega); (focus ((repeat' (first | assumption | (exact hW _) | (unfold W64; first | omega | decide) | (exact Ws.get (by assumption) (by assumption)) | (exact wOne (by omega)) | (exact bit1_w (by omega)) | (exact wXorAnd (by assumption)) | (exact wSub (by assumption)) | apply wOr | (apply wAnd; assumption) | (apply wAnd2; assumption) | apply wShr)) <;> fail)))
     | ((with_reducible refine exI' (by omega) ?_); intro y hy; (try simp only [Int.toNat_natCast, Nat.zero_add] at hy); (try have hyr := hR _ (List.mem_of_getElem? hy)))
     | ((with_reducible apply drT 6); rfl)
     | ((with_reducible apply ob); ((first | rfl | assumption | omega | (unfold maxLen2; omega) | (dsimp only; omega) | (simp only [LN]; omega) | (simp; done) | (simp; omega)))))
    all_goals (conv => whnf)
    have et : (bitsL s).take (k + 1) = (bitsL s).take k ++ [p] := by rw [List.take_add_one, hp]; rfl
    have e : movL g ((bitsL s).take (k + 1)) = movL g ((bitsL s).take k) ||| 1 <<< y.toNat := by rw [et, movL_snoc, getD_of hy]
    refine fin_in (.inl ⟨rfl, [.var (sD (movL g ((bitsL s).take (k + 1))))], ?_, rfl⟩)
    rw [e]
    rfl
  · rintro X rfl
    conv => whnf
    rw [List.take_length]
    refine fC rfl rfl
end Go.Proofs.YthfcfdlbnfcboaaDoor.Pw



set_option linter.unusedVariables false
set_option linter.unusedSimpArgs false
set_option maxHeartbeats 1000000
set_option maxRecDepth 10000
namespace Go.Proofs.YthfcfdlbnfcboaaDoor.Pw
open Go
def movB (g : List Int) (l : List Nat) : List Nat := l.map fun s => movL g (bitsL s)
theorem vMade (v : Nat) (l : List Nat) (g : List Int) (hl : Ws l) (hll : l.length ≤ 12) (hR : ∀ x ∈ g, 0 ≤ x ∧ x < 64) (hb : ∀ s ∈ l, ∀ p ∈ bitsL s, p < g.length) (hgl : g.length ≤ 1000) :
    Val Tryd.prog 56 [iD v, setsD l, .func 73 [.ref .leaf (intsD g)]] (fun r => r = (Inc.mk v (sortL (movB g l))).D) := by
  have hl0 := setsL_len l
  refine Val.ofV ?_
  refine hc_ofS (okc Tryd.f56.ntmps 0) (fn := Tryd.f56) (cd := _) rfl rfl rfl rfl rfl rfl (fun hbd => ?_)
  all_goals (conv => whnf)
  refine lpX (X := Nat) (fun k => [(2, .func 73 [.ref .leaf (intsD g)]), (6, .ptr 0 []), (7, .ptr 1 []), (12, setsD l), (13, iD (setsL l).length), (14, iD k)]) (fun k => [.var (.agg [.int .i64 0, .nils]), .var (.agg [iD v, accD 2 k])] ++ accO .leaf (fun k => setsL (movB g (l.take k))) k) (fun k => k ≤ l.length) (fun k => l.length - k) ⟨_, nx (ρ := [0, 1]) 0 (by repeat (first | exact trivial | refine seC rfl rfl ?_ | refine seL (leRow rfl rfl) rfl ?_)) (by repeat (first | exact trivial | refine shC rfl rfl ?_)) rfl rfl (Nat.lt_succ_self _) (Nat.zero_le _)⟩ ?_
  intro k hk
  have hW : ∀ y, W64 (movL g y) := movL_w hR
  cases k with
  | zero =>
    repeat' (
     conv => whnf
     first
     | refine ifd (fun h => ?_) (fun h => ?_)
     | with_reducible refine ivW (by omega) (by omega) ?_
     | ((with_reducible refine exU (by omega) ?_); intro y hy; (try simp only [Int.toNat_natCast, Nat.zero_add] at hy); (try have hyr := hR _ (List.mem_of_getElem? hy)))
     | ((with_reducible refine pcI ?_); refine Val.pure (vImg1 _ g (Ws.get (by assumption) hl) hR (hb _ (List.mem_of_getElem? (by assumption))) hgl) (ler _ _) rfl rfl ?_)
     | ((with_reducible apply drT 6); rfl)
     | ((with_reducible apply ob); ((first | rfl | assumption | omega | (unfold maxLen2; omega) | (dsimp only; omega) | (simp only [LN]; omega) | (simp; done) | (simp; omega)))))
    all_goals (conv => whnf)
    · exact nx 1 [0, 1, 3] (by repeat (first | exact trivial | refine seC rfl rfl ?_ | refine seL (leRow rfl rfl) rfl ?_)) (shC rfl rfl (shC rfl rfl (shR rfl (by simp [setsL, sD, movB, List.take_add_one, hy]) (cl_sets _) trivial))) rfl rfl (by omega) (by omega)
    · refine HC.val hcSort0 (.refl _) (ler _ _) rfl ?_
      intro r H' hq
      obtain ⟨rfl, rfl⟩ := fin_out hq
      refine ⟨rfl, rfl, ?_⟩
      conv => whnf
      have hB1 : l = [] := List.length_eq_zero_iff.1 (by omega)
      exact fin_in ⟨_, .agg [iD v, setsD []], .refl _, .agg _ _ (.cons _ _ _ _ (.refl _) (.cons _ _ _ _ (.nils _) .nil)) rfl, rfl, by rw [hB1]; rfl⟩
  | succ k =>
    have hmk : (setsL (movB g (l.take (k + 1)))).length = k + 1 := by simp [movB]; omega
    repeat' (
     conv => whnf
     first
     | refine ifd (fun h => ?_) (fun h => ?_)
     | with_reducible refine ivW (by omega) (by omega) ?_
     | ((with_reducible refine exU (by omega) ?_); intro y hy; (try simp only [Int.toNat_natCast, Nat.zero_add] at hy); (try have hyr := hR _ (List.mem_of_getElem? hy)))
     | ((with_reducible refine pcI ?_); refine Val.pure (vImg1 _ g (Ws.get (by assumption) hl) hR (hb _ (List.mem_of_getElem? (by assumption))) hgl) (ler _ _) rfl rfl ?_)
     | ((with_reducible apply drT 6); rfl)
     | ((with_reducible apply ob); ((first | rfl | assumption | omega | (unfold maxLen2; omega) | (dsimp only; omega) | (simp only [LN]; omega) | (simp; done) | (simp; omega)))))
    all_goals (conv => whnf)
    · exact nx (k + 1 + 1) [0, 1, 4] (by repeat (first | exact trivial | refine seC rfl rfl ?_ | refine seL (leRow rfl rfl) rfl ?_)) (shC rfl rfl (shC rfl rfl (shR rfl (by show _ = setsL (movB g (l.take (k + 1 + 1))); rw [List.take_add_one (i := k + 1) (l := l), hy, List.take_of_length_le (by rw [List.drop_zero, hmk]; omega)]; simp [setsL, sD, movB]) (cl_sets _) trivial))) rfl rfl (by omega) (by omega)
    · have hmk2 : (movB g (l.take (k + 1))).length = k + 1 := by rw [← setsL_len]; exact hmk
      have hs := hcSort (movB g (l.take (k + 1))) (by omega)
      rw [hmk2] at hs
      refine rowCall 2 hs rfl (cl_sets _) (cl_sets _) rfl rfl ?_
      conv => whnf
      have hB1 : k + 1 = l.length := by omega
      have hs2 : sortL (movB g (l.take (k + 1))) = sortL (movB g l) := by rw [hB1, List.take_length]
      refine fin_in ⟨_, .agg [iD v, setsD (sortL (movB g (l.take (k + 1))))], .step 2 .leaf _ rfl (cl_sets _) (.refl _), .agg _ _ (.cons _ _ _ _ (.refl _) (.cons _ _ _ _ (leRow rfl ?_) .nil)) rfl, ?_, ?_⟩
      · rw [setsL_len, (sortL_perm _).length_eq, hmk2]
      · simp [clD, clDs, setsD, cl_sets]; rfl
      · rw [hs2]; rfl
def imageI (x : Inc) (g : List Int) : Inc := if g.length = x.V ∧ Dif g x.V then ⟨x.V, sortL (movB g x.B)⟩ else x
theorem vImage (x : Inc) (g : List Int) (hV : x.V ≤ 64) (hB : Ws x.B) (hBl : x.B.length ≤ 12) (hb : ∀ s ∈ x.B, ∀ p ∈ bitsL s, p < x.V) : Val Tryd.prog 49 [x.D, intsD g] (fun r => r = (imageI x g).D) := by
  have hg0 := intsL_len g
  refine Val.ofV ?_
  refine hc_ofS (okc Tryd.f49.ntmps 0) (fn := Tryd.f49) (cd := _) rfl rfl rfl rfl rfl rfl (fun hbd => ?_)
  repeat' (
   conv => whnf
   first
   | refine ifn (fun h => ?_) (fun h => ?_)
   | ((with_reducible refine hcI ?_); refine Val.call (vDifI _ _ (by omega)) (.refl _) (ler _ _) rfl ?_; rintro r rfl))
  all_goals (conv => whnf)
  · exact fC rfl (by unfold imageI; rw [if_neg (fun hc => by have := hc.1; omega)]; rfl)
  · rename_i h1
    have h2 := h
    refine fC rfl ?_
    unfold imageI
    rw [if_neg (fun hc => by simp_all)]
    rfl
  · rename_i h1
    have h2 := h
    have hd : Dif g x.V := by simpa using h2
    have hgl : g.length = x.V := by omega
    have hR : ∀ y ∈ g, 0 ≤ y ∧ y < 64 := fun y hy => by have := hd.1 y hy; omega
    refine Val.call (vMade x.V x.B g hB hBl hR (fun s hs p hp => by have := hb s hs p hp; omega) (by omega)) (.fvar 1 (intsD g) rfl (by simp [intsD, clD, cl_ints]) (.refl _)) (.cons _ _ _ _ (.refl _) (.cons _ _ _ _ (.refl _) (.cons _ _ _ _ (.func _ _ _ (.cons _ _ _ _ (show LeD _ (.ref (shape (intsD g)) (intsD g)) (.ptr 1 []) from .fvar 1 _ rfl) .nil)) .nil))) rfl ?_
    rintro r rfl
    all_goals (conv => whnf)
    refine fC rfl ?_
    unfold imageI
    rw [if_pos ⟨hgl, hd⟩]
    rfl
end Go.Proofs.YthfcfdlbnfcboaaDoor.Pw



set_option linter.unusedVariables false
set_option linter.unusedSimpArgs false
set_option maxHeartbeats 1000000
set_option maxRecDepth 10000
namespace Go.Proofs.YthfcfdlbnfcboaaDoor.Pw
open Go
def isG (x : Inc) (g : List Int) : Bool := decide (g.length = x.V ∧ (1 ≤ g.length ∧ g.length ≤ 16 ∧ Dif g g.length) ∧ (imageI x g).B = x.B)
theorem vIs (x : Inc) (g : List Int) (hV : x.V ≤ 64) (hB : Ws x.B) (hBl : x.B.length ≤ 12) (hb : ∀ s ∈ x.B, ∀ p ∈ bitsL s, p < x.V) : Val Tryd.prog 18 [x.D, intsD g] (fun r => r = .bool (isG x g)) := by
  have hg0 := intsL_len g
  refine Val.ofV ?_
  refine hc_ofS (okc Tryd.f18.ntmps 0) (fn := Tryd.f18) (cd := _) rfl rfl rfl rfl rfl rfl (fun hbd => ?_)
  repeat' (
   conv => whnf
   first
   | refine ifd (fun h => ?_) (fun h => ?_)
   | ((with_reducible refine pcI ?_); refine Val.pure (vValid _) (ler _ _) rfl rfl ?_)
   | ((with_reducible refine pcI ?_); refine Val.pure (vImage _ _ (by omega) (by assumption) (by omega) (by assumption)) (ler _ _) rfl rfl ?_)
   | ((with_reducible refine hcI ?_); refine Val.call (vEqU _ _) (.refl _) (ler _ _) rfl ?_; rintro r rfl)
   | ((with_reducible apply drT 16); rfl))
  all_goals (conv => whnf)
  · rename_i h1
    have h2 : g.length = x.V := by omega
    refine fC rfl (congrArg D.bool ?_)
    show decide _ = _
    unfold isG
    simp only [h2, true_and]
    rw [h2] at h
    exact decide_eq_decide.2 ⟨fun e => ⟨h, e⟩, fun e => e.2⟩
  · refine fC rfl (congrArg D.bool ?_)
    unfold isG
    exact (decide_eq_false (fun e => h e.2.1)).symm
  · refine fC rfl (congrArg D.bool ?_)
    unfold isG
    exact (decide_eq_false (fun e => by have := e.1; omega)).symm
def prvD (a b : Inc) (m : List Int) : D := match refM a b (a.V - m.length) m with
  | some t => .tuple [treeD t, .int .i64 0]
  | none => .tuple [treeD (.node []), .int .i64 6]
theorem vProve (a b : Inc) (m : List Int) (ha : a.Ok) (hb : b.Ok) (ha7 : a.V ≤ 7) (hb7 : b.V ≤ 7) (hd : Dif m b.V) (hma : m.length ≤ a.V) : Val Tryd.prog 77 [a.D, b.D, intsD m] (fun r => r = prvD a b m) := by
  have hm0 := intsL_len m
  have ha1 := ha.v1
  have hr := vRefute a b ha hb ha7 hb7 (a.V - m.length) m (by omega) hd
  refine Val.ofV ?_
  refine hc_ofS (okc Tryd.f77.ntmps 0) (fn := Tryd.f77) (cd := _) rfl rfl rfl rfl rfl rfl (fun hbd => ?_)
  repeat' (
   conv => whnf
   first
   | ((with_reducible refine hcI ?_); refine Val.call (vOpen _ _ _ (by omega) (by omega) (by omega) (by assumption)) (.refl _) (ler _ _) rfl ?_; rintro r rfl))
  all_goals (conv => whnf)
  cases ht : refM a b (a.V - m.length) m with
  | none =>
    rw [ht] at hr
    repeat' (
     conv => whnf
     first
     | ((with_reducible refine hcI ?_); refine Val.call hr (.refl _) (ler _ _) rfl ?_; rintro r rfl))
    all_goals (conv => whnf)
    refine fin_in ⟨_, prvD a b m, .refl _, ?_, ?_, rfl⟩
    · unfold prvD; rw [ht]
      exact .tuple _ _ (.cons _ _ _ _ (.agg _ _ (.cons _ _ _ _ (.nils _) .nil) rfl) (.cons _ _ _ _ (.refl _) .nil))
    · unfold prvD; rw [ht]; rfl
  | some t =>
    rw [ht] at hr
    obtain ⟨kids⟩ := t
    repeat' (
     conv => whnf
     first
     | ((with_reducible refine hcI ?_); refine Val.call hr (.refl _) (ler _ _) rfl ?_; rintro r rfl))
    all_goals (conv => whnf)
    refine fC ?_ ?_
    · show clDs [treeD (.node kids), .int .i64 0] = true
      simp only [clDs, cl_tree]; rfl
    · unfold prvD; rw [ht]; rfl
end Go.Proofs.YthfcfdlbnfcboaaDoor.Pw



set_option linter.unusedVariables false
set_option linter.unusedSimpArgs false
set_option maxHeartbeats 1000000
set_option maxRecDepth 10000
namespace Go.Proofs.YthfcfdlbnfcboaaDoor.Pw
open Go
mutual
theorem inD_mono {n m : Nat} (h0 : n ≤ m) : ∀ (d : D), inD n d = true → inD m d = true
  | .top, _ | .bool _, _ | .int _ _, _ | .str _, _ | .nilp, _ | .nilf, _ | .nilm, _ | .nils, _ | .list _ _ _, _ | .ref _ _, _ => rfl
  | .sl g o l, h => by have : g < n := blt_lt h; exact Nat.ble_eq_true_of_le (show g + 1 ≤ m by omega)
  | .ptr g p, h => by have : g < n := blt_lt h; exact Nat.ble_eq_true_of_le (show g + 1 ≤ m by omega)
  | .map g, h => by have : g < n := blt_lt h; exact Nat.ble_eq_true_of_le (show g + 1 ≤ m by omega)
  | .yld g, h => by have : g < n := blt_lt h; exact Nat.ble_eq_true_of_le (show g + 1 ≤ m by omega)
  | .func f caps, h => by simp only [inD] at h ⊢; exact inDs_mono h0 caps h
  | .agg ds, h => by simp only [inD] at h ⊢; exact inDs_mono h0 ds h
  | .tuple ds, h => by simp only [inD] at h ⊢; exact inDs_mono h0 ds h
theorem inDs_mono {n m : Nat} (h0 : n ≤ m) : ∀ (ds : List D), inDs n ds = true → inDs m ds = true
  | [], _ => rfl
  | d :: ds, h => by
    cases hd : inD n d <;> simp [inDs, hd] at h
    simp only [inDs, inD_mono h0 d hd, inDs_mono h0 ds h, cond_true]
end
theorem inM_mono {n m : Nat} (h0 : n ≤ m) : ∀ (es : List (D × D)), inM n es = true → inM m es = true
  | [], _ => rfl
  | (a, v) :: es, h => by
    cases h1 : inD n a <;> simp [inM, h1] at h
    simp only [inM, inD_mono h0 a h1, inD_mono h0 v h.1, inM_mono h0 es h.2, cond_true]
theorem inE_mono {n m : Nat} (h0 : n ≤ m) : ∀ (es : Env), inE n es = true → inE m es = true
  | [], _ => rfl
  | (a, v) :: es, h => by
    cases h1 : inD n v <;> simp [inE, h1] at h
    simp only [inE, inD_mono h0 v h1, inE_mono h0 es h, cond_true]
theorem inO_mono {n m : Nat} (h0 : n ≤ m) (o : Ob) (h : inO n o = true) : inO m o = true := by
  cases o with
  | dead => rfl
  | frz => rfl
  | fvar => rfl
  | var d => exact inD_mono h0 d h
  | row sh ds => exact inDs_mono h0 ds h
  | map es => exact inM_mono h0 es h
  | lp N e ps asg body jump => exact inE_mono h0 e h
theorem ren_preO {ρ : List Nat} {n : Nat} (ht : ρ.take n = List.range n) {o : Ob} (h : inO n o = true) : renO ρ o = o := by
  have h1 := ren_compO ρ (List.range n) o (by simpa using h)
  rw [ren_rangeO n o h] at h1
  have hln : n ≤ ρ.length := by have := congrArg List.length ht; simp at this; omega
  have h2 : (List.range n).map (ρ.getD · 0) = List.range n := by
    apply List.ext_getElem?
    intro i
    rw [List.getElem?_map]
    by_cases hi : i < n
    · have h3 : (ρ.take n)[i]? = (List.range n)[i]? := by rw [ht]
      rw [List.getElem?_take, if_pos hi] at h3
      rw [List.getElem?_range hi] at h3 ⊢
      simp [List.getD, h3]
    · rw [List.getElem?_eq_none (by simp; omega)]; rfl
  rw [h2, ren_rangeO n o h] at h1
  exact h1
theorem shI {ρ : List Nat} {n n0 g : Nat} {H H2 : List Ob} {r : List Nat} {o : Ob} (hi : inO n0 o = true) (ht : ρ.take n0 = List.range n0) (hn : n0 ≤ n) (h : H.getD g .dead = o) (h2 : SubH ρ n H H2 r) : SubH ρ n H (o :: H2) (g :: r) :=
  ⟨by rw [ren_preO ht hi]; exact h, inO_mono hn o hi, h2⟩
theorem pre_len (i j : Nat) : (preI i j).length = i + 1 := by simp [preI, one_len]
theorem pre_ne (i j : Nat) : preI i j ≠ [] := by simp [preI]
def reachD (y : Nat × List Int) : D := .agg [iD y.1, intsD y.2]
def unrD (y : Nat × Tree) : D := .agg [iD y.1, treeD y.2]
def prvT (a b : Inc) (m : List Int) : Tree := (refM a b (a.V - m.length) m).getD (.node [])
theorem prv_eq (a b : Inc) (m : List Int) : ∃ c, prvD a b m = .tuple [treeD (prvT a b m), .int .i64 c] := by
  unfold prvD prvT
  cases refM a b (a.V - m.length) m <;> exact ⟨_, rfl⟩
theorem cl_reach (l : List (Nat × List Int)) : clDs (l.map reachD) = true := cl_map (fun y => rfl) l
theorem cl_unr (l : List (Nat × Tree)) : clDs (l.map unrD) = true := cl_map (fun y => by show clDs [iD y.1, treeD y.2] = true; simp only [clDs, cl_tree]; rfl) l
def lvK (x : Inc) (i : Nat) : Nat → List (Nat × List Int) × List (Nat × Tree)
  | 0 => ([], [])
  | k + 1 => match mapN x x (preI i (i + k)) with
    | some m => ((lvK x i k).1 ++ [(i + k, m)], (lvK x i k).2)
    | none => ((lvK x i k).1, (lvK x i k).2 ++ [(i + k, prvT x x (preI i (i + k)))])
theorem lvK_len (x : Inc) (i : Nat) : ∀ k, (lvK x i k).1.length + (lvK x i k).2.length = k
  | 0 => rfl
  | k + 1 => by
    have ih := lvK_len x i k
    unfold lvK
    cases mapN x x (preI i (i + k)) <;> simp <;> omega
def lvlD (l : List (Nat × List Int) × List (Nat × Tree)) : D := .agg [.list false (.agg [.leaf, .leaf]) (l.1.map reachD), .list false (.agg [.leaf, .agg [.leaf]]) (l.2.map unrD)]
def levelsF (x : Inc) : D := .func 76 [.ref (.agg [.leaf, .leaf]) x.D]
theorem vLevels (x : Inc) : Val Tryd.prog 60 [x.D] (fun r => r = levelsF x) := by
  refine Val.ofV ?_
  refine hc_ofS (okc Tryd.f60.ntmps 0) (fn := Tryd.f60) (cd := _) rfl rfl rfl rfl rfl rfl (fun hbd => ?_)
  all_goals (conv => whnf)
  refine fin_in ⟨_, levelsF x, .fvar 0 _ rfl rfl (.refl _), .func _ _ _ (.cons _ _ _ _ (.fvar 0 x.D rfl) .nil), rfl, rfl⟩
theorem tkm {α β : Type} (f : α → β) (a : α) (l : List α) : List.take (l.length + 1) (List.drop 0 (List.map f (a :: l))) = List.map f (a :: l) := by
  rw [List.drop_zero]; exact List.take_of_length_le (by simp)
def lvO (n : Nat) (ys : List (Nat × List Int)) (ns : List (Nat × Tree)) : List Ob :=
  [.var (.agg [accD (n + 1) ys.length, accD (n + 1 + min 1 ys.length) ns.length])] ++ accO (.agg [.leaf, .leaf]) (fun _ => ys.map reachD) ys.length ++ accO (.agg [.leaf, .agg [.leaf]]) (fun _ => ns.map unrD) ns.length
end Go.Proofs.YthfcfdlbnfcboaaDoor.Pw



set_option linter.unusedVariables false
set_option linter.unusedSimpArgs false
set_option maxHeartbeats 4000000
set_option maxRecDepth 10000
namespace Go.Proofs.YthfcfdlbnfcboaaDoor.Pw
open Go
theorem seY {ρ : List Nat} {n n0 g s : Nat} {H : List Ob} {e e2 : Env} (h : get e s = .yld g) (ht : ρ.take n0 = List.range n0) (hg : g < n0) (hn : n0 ≤ n) (h2 : SubE ρ n H e e2) : SubE ρ n H e ((s, .yld g) :: e2) :=
  seC (by rw [h]; show D.yld g = D.yld _; rw [take_get ht hg]) (by show Nat.blt g n = true; exact Nat.ble_eq_true_of_le (by omega)) h2
theorem itLevS3 (x : Inc) (hx : x.Ok) (hx7 : x.V ≤ 7) (g : Nat) (hg : g < 3) (J : Nat → List Ob → Prop) (Q : D → List Ob → Prop)
    (hdp : ∀ i j, i ≤ j → j < x.V → Dif (preI i j) x.V)
    (hJ : ∀ k H, J k H → ((∃ o0 o1 o2, H = [o0, o1, o2]) ∨ (∃ o0 o1 o2 o3, H = [o0, o1, o2, o3])) ∧ ∀ o ∈ H, inO H.length o = true)
    (hyl : ∀ k H, J k H → k < x.V → YC Tryd.prog g [iD k, lvlD (lvK x k (x.V - k))] H (fun r H' => Fin (clD r = true ∧ ∃ σ O2, Sits H' σ O2 ∧ σ.take 3 = List.range 3 ∧ ((r = .bool true ∧ J (k + 1) O2) ∨ (r = .bool false ∧ Q (.tuple []) O2)))))
    (hend : ∀ H, J x.V H → Q (.tuple []) H) (H0 : List Ob) (hH0 : ∃ o0 o1 o2, H0 = [o0, o1, o2]) (h0 : J 0 H0) :
    HC Tryd.prog 76 [.yld g, .ref (.agg [.leaf, .leaf]) x.D] H0 Q := by
  obtain ⟨o0, o1, o2, rfl⟩ := hH0
  have hv := hx.v
  refine HC.move (Q0 := fun r H' => Fin (∃ σ O2, Sits H' σ O2 ∧ σ.take 3 = List.range 3 ∧ r = .tuple [] ∧ Q r O2)) ?_ ?_
  · refine hc_ofS (okc Tryd.f76.ntmps 3) (fn := Tryd.f76) (cd := _) rfl rfl rfl rfl rfl rfl (fun hbd => ?_)
    all_goals (conv => whnf)
    refine lpX (X := Nat × List Ob) (fun y => [(0, .yld g), (1, .ref (.agg [.leaf, .leaf]) x.D), (11, iD x.V), (12, iD y.1)]) (fun y => y.2) (fun y => J y.1 y.2 ∧ y.1 ≤ x.V) (fun y => x.V - y.1) ⟨_, nx0 (0, [o0, o1, o2]) (by repeat (first | exact trivial | refine se0 rfl ?_)) rfl (Nat.lt_succ_self _) ⟨h0, Nat.zero_le _⟩⟩ ?_
    rintro ⟨i, Hc⟩ ⟨hj, hi⟩
    dsimp only at hj hi ⊢
    clear h0
    obtain ⟨hcs, hin⟩ := hJ _ _ hj
    rcases hcs with ⟨o0, o1, o2, rfl⟩ | ⟨o0, o1, o2, o3, rfl⟩
    · have hi0 : inO 3 o0 = true := hin _ (by simp)
      have hi1 : inO 3 o1 = true := hin _ (by simp)
      have hi2 : inO 3 o2 = true := hin _ (by simp)
      repeat' (
       conv => whnf
       first
       | refine ifd (fun h => ?_) (fun h => ?_))
      all_goals (conv => whnf)
      · refine lpX (X := Nat × List (Nat × List Int) × List (Nat × Tree)) (fun y => [(0, .yld g), (1, .ref (.agg [.leaf, .leaf]) x.D), (3, iD i), (4, .ptr 3 []), (5, iD (i + y.1)), (11, iD x.V), (12, iD i)]) (fun y => [o0, o1, o2] ++ lvO 3 y.2.1 y.2.2) (fun y => i + y.1 ≤ x.V ∧ lvK x i y.1 = (y.2.1, y.2.2)) (fun y => x.V - i - y.1) ⟨_, nx0 (0, [], []) (by repeat (first | exact trivial | refine se0 rfl ?_)) rfl (Nat.lt_succ_self _) ⟨by dsimp only; omega, rfl⟩⟩ ?_
        rintro ⟨k, ys, ns⟩ ⟨hk, hlv⟩
        dsimp only at hk hlv ⊢
        have hlen := lvK_len x i k
        rw [hlv] at hlen
        dsimp only at hlen
        rcases Nat.lt_or_ge (i + k) x.V with hlt | hge
        · have hd := hdp i (i + k) (by omega) hlt
          have hpl := pre_len i (i + k)
          have hmp := vMap x x (preI i (i + k)) hx hx hx7 hx7 (pre_ne _ _) hd (by omega)
          have hpr := vProve x x (preI i (i + k)) hx hx hx7 hx7 hd (by omega)
          obtain ⟨ec, hec⟩ := prv_eq x x (preI i (i + k))
          rw [hec] at hpr
          cases hm : mapN x x (preI i (i + k)) with
          | some m =>
            rw [hm] at hmp
            have hstep : lvK x i (k + 1) = (ys ++ [(i + k, m)], ns) := by rw [lvK, hm, hlv]
            cases ys with
            | nil =>
              cases ns with
              | nil =>
                simp only [List.length_cons, List.length_nil] at hlen
                repeat' (
                 conv => whnf
                 first
                 | refine ifd (fun h => ?_) (fun h => ?_)
                 | with_reducible refine ivW (by omega) (by omega) ?_
                 | ((with_reducible refine pcI ?_); refine Val.pure hmp (ler _ _) rfl rfl ?_)
                 | ((with_reducible refine pcI ?_); refine Val.pure (vPrefix _ _ (by omega)) (ler _ _) rfl rfl ?_)
                 | ((with_reducible apply drT 9); rfl)
                 | ((with_reducible apply ob); ((first | rfl | assumption | omega | (unfold maxLen2; omega) | (dsimp only; omega) | (simp only [LN]; omega) | (simp; done) | (simp; omega))))
                 | refine nfI ?_)
                all_goals (conv => whnf)
                all_goals (first | exact side_out (by unfold maxLen2; simp; omega) | exact absurd (by assumption : ¬ _) (by omega) | skip)
                · refine nx (k + 1, [] ++ [(i + k, m)], []) [0, 1, 2, 3, 5] (by (repeat (first | exact trivial | refine seC rfl rfl ?_ | refine seY (n0 := 3) rfl rfl hg (by simp only [List.length_append, List.length_cons, List.length_nil]; omega) ?_))) ?_ rfl rfl (by dsimp only; omega) ⟨by dsimp only; omega, hstep⟩
                  dsimp only [lvO]
                  simp only [List.length_append, List.length_cons, List.length_nil, Nat.zero_add]
                  (repeat (first | exact trivial | refine shI (n0 := 3) (by assumption) rfl (by omega) rfl ?_ | refine shC rfl rfl ?_ | refine shR rfl (by first | rfl | (dsimp only; rw [tkm, List.map_append]; rfl)) (by first | exact cl_reach _ | exact cl_unr _) ?_))
              | cons n0 ns =>
                simp only [List.length_cons, List.length_nil] at hlen
                repeat' (
                 conv => whnf
                 first
                 | refine ifd (fun h => ?_) (fun h => ?_)
                 | with_reducible refine ivW (by omega) (by omega) ?_
                 | ((with_reducible refine pcI ?_); refine Val.pure hmp (ler _ _) rfl rfl ?_)
                 | ((with_reducible refine pcI ?_); refine Val.pure (vPrefix _ _ (by omega)) (ler _ _) rfl rfl ?_)
                 | ((with_reducible apply drT 9); rfl)
                 | ((with_reducible apply ob); ((first | rfl | assumption | omega | (unfold maxLen2; omega) | (dsimp only; omega) | (simp only [LN]; omega) | (simp; done) | (simp; omega))))
                 | refine nfI ?_)
                all_goals (conv => whnf)
                all_goals (first | exact side_out (by unfold maxLen2; simp; omega) | exact absurd (by assumption : ¬ _) (by omega) | skip)
                · refine nx (k + 1, [] ++ [(i + k, m)], (n0 :: ns)) [0, 1, 2, 3, 6, 4] (by (repeat (first | exact trivial | refine seC rfl rfl ?_ | refine seY (n0 := 3) rfl rfl hg (by simp only [List.length_append, List.length_cons, List.length_nil]; omega) ?_))) ?_ rfl rfl (by dsimp only; omega) ⟨by dsimp only; omega, hstep⟩
                  dsimp only [lvO]
                  simp only [List.length_append, List.length_cons, List.length_nil, Nat.zero_add]
                  (repeat (first | exact trivial | refine shI (n0 := 3) (by assumption) rfl (by omega) rfl ?_ | refine shC rfl rfl ?_ | refine shR rfl (by first | rfl | (dsimp only; rw [tkm, List.map_append]; rfl)) (by first | exact cl_reach _ | exact cl_unr _) ?_))
            | cons y0 ys =>
              cases ns with
              | nil =>
                simp only [List.length_cons, List.length_nil] at hlen
                repeat' (
                 conv => whnf
                 first
                 | refine ifd (fun h => ?_) (fun h => ?_)
                 | with_reducible refine ivW (by omega) (by omega) ?_
                 | ((with_reducible refine pcI ?_); refine Val.pure hmp (ler _ _) rfl rfl ?_)
                 | ((with_reducible refine pcI ?_); refine Val.pure (vPrefix _ _ (by omega)) (ler _ _) rfl rfl ?_)
                 | ((with_reducible apply drT 9); rfl)
                 | ((with_reducible apply ob); ((first | rfl | assumption | omega | (unfold maxLen2; omega) | (dsimp only; omega) | (simp only [LN]; omega) | (simp; done) | (simp; omega))))
                 | refine nfI ?_)
                all_goals (conv => whnf)
                all_goals (first | exact side_out (by unfold maxLen2; simp; omega) | exact absurd (by assumption : ¬ _) (by omega) | skip)
                · refine nx (k + 1, (y0 :: ys) ++ [(i + k, m)], []) [0, 1, 2, 3, 6] (by (repeat (first | exact trivial | refine seC rfl rfl ?_ | refine seY (n0 := 3) rfl rfl hg (by simp only [List.length_append, List.length_cons, List.length_nil]; omega) ?_))) ?_ rfl rfl (by dsimp only; omega) ⟨by dsimp only; omega, hstep⟩
                  dsimp only [lvO]
                  simp only [List.length_append, List.length_cons, List.length_nil, Nat.zero_add]
                  (repeat (first | exact trivial | refine shI (n0 := 3) (by assumption) rfl (by omega) rfl ?_ | refine shC rfl rfl ?_ | refine shR rfl (by first | rfl | (dsimp only; rw [tkm, List.map_append]; rfl)) (by first | exact cl_reach _ | exact cl_unr _) ?_))
              | cons n0 ns =>
                simp only [List.length_cons, List.length_nil] at hlen
                repeat' (
                 conv => whnf
                 first
                 | refine ifd (fun h => ?_) (fun h => ?_)
                 | with_reducible refine ivW (by omega) (by omega) ?_
                 | ((with_reducible refine pcI ?_); refine Val.pure hmp (ler _ _) rfl rfl ?_)
                 | ((with_reducible refine pcI ?_); refine Val.pure (vPrefix _ _ (by omega)) (ler _ _) rfl rfl ?_)
                 | ((with_reducible apply drT 9); rfl)
                 | ((with_reducible apply ob); ((first | rfl | assumption | omega | (unfold maxLen2; omega) | (dsimp only; omega) | (simp only [LN]; omega) | (simp; done) | (simp; omega))))
                 | refine nfI ?_)
                all_goals (conv => whnf)
                all_goals (first | exact side_out (by unfold maxLen2; simp; omega) | exact absurd (by assumption : ¬ _) (by omega) | skip)
                · refine nx (k + 1, (y0 :: ys) ++ [(i + k, m)], (n0 :: ns)) [0, 1, 2, 3, 7, 5] (by (repeat (first | exact trivial | refine seC rfl rfl ?_ | refine seY (n0 := 3) rfl rfl hg (by simp only [List.length_append, List.length_cons, List.length_nil]; omega) ?_))) ?_ rfl rfl (by dsimp only; omega) ⟨by dsimp only; omega, hstep⟩
                  dsimp only [lvO]
                  simp only [List.length_append, List.length_cons, List.length_nil, Nat.zero_add]
                  (repeat (first | exact trivial | refine shI (n0 := 3) (by assumption) rfl (by omega) rfl ?_ | refine shC rfl rfl ?_ | refine shR rfl (by first | rfl | (dsimp only; rw [tkm, List.map_append]; rfl)) (by first | exact cl_reach _ | exact cl_unr _) ?_))
          | none =>
            rw [hm] at hmp
            have hstep : lvK x i (k + 1) = (ys, ns ++ [(i + k, prvT x x (preI i (i + k)))]) := by rw [lvK, hm, hlv]
            cases hT : prvT x x (preI i (i + k)) with
            | node kids =>
            rw [hT] at hpr hstep
            cases ys with
            | nil =>
              cases ns with
              | nil =>
                simp only [List.length_cons, List.length_nil] at hlen
                repeat' (
                 conv => whnf
                 first
                 | refine ifd (fun h => ?_) (fun h => ?_)
                 | with_reducible refine ivW (by omega) (by omega) ?_
                 | ((with_reducible refine pcI ?_); refine Val.pure hmp (ler _ _) rfl rfl ?_)
                 | ((with_reducible refine pcI ?_); refine Val.pure hpr (ler _ _) rfl rfl ?_)
                 | ((with_reducible refine pcI ?_); refine Val.pure (vPrefix _ _ (by omega)) (ler _ _) rfl rfl ?_)
                 | ((with_reducible apply drT 9); rfl)
                 | ((with_reducible apply drT 10); rfl)
                 | ((with_reducible apply ob); ((first | rfl | assumption | omega | (unfold maxLen2; omega) | (dsimp only; omega) | (simp only [LN]; omega) | (simp; done) | (simp; omega))))
                 | refine nfI ?_)
                all_goals (conv => whnf)
                all_goals (first | exact side_out (by unfold maxLen2; simp; omega) | exact absurd (by assumption : ¬ _) (by omega) | skip)
                · refine nx (k + 1, [], [] ++ [(i + k, Tree.node kids)]) [0, 1, 2, 3, 6] (by (repeat (first | exact trivial | refine seC rfl rfl ?_ | refine seY (n0 := 3) rfl rfl hg (by simp only [List.length_append, List.length_cons, List.length_nil]; omega) ?_))) ?_ rfl rfl (by dsimp only; omega) ⟨by dsimp only; omega, hstep⟩
                  dsimp only [lvO]
                  simp only [List.length_append, List.length_cons, List.length_nil, Nat.zero_add]
                  (repeat (first | exact trivial | refine shI (n0 := 3) (by assumption) rfl (by omega) rfl ?_ | refine shC rfl rfl ?_ | refine shR rfl (by first | rfl | (dsimp only; rw [tkm, List.map_append]; rfl)) (by first | exact cl_reach _ | exact cl_unr _) ?_))
              | cons n0 ns =>
                simp only [List.length_cons, List.length_nil] at hlen
                repeat' (
                 conv => whnf
                 first
                 | refine ifd (fun h => ?_) (fun h => ?_)
                 | with_reducible refine ivW (by omega) (by omega) ?_
                 | ((with_reducible refine pcI ?_); refine Val.pure hmp (ler _ _) rfl rfl ?_)
                 | ((with_reducible refine pcI ?_); refine Val.pure hpr (ler _ _) rfl rfl ?_)
                 | ((with_reducible refine pcI ?_); refine Val.pure (vPrefix _ _ (by omega)) (ler _ _) rfl rfl ?_)
                 | ((with_reducible apply drT 9); rfl)
                 | ((with_reducible apply drT 10); rfl)
                 | ((with_reducible apply ob); ((first | rfl | assumption | omega | (unfold maxLen2; omega) | (dsimp only; omega) | (simp only [LN]; omega) | (simp; done) | (simp; omega))))
                 | refine nfI ?_)
                all_goals (conv => whnf)
                all_goals (first | exact side_out (by unfold maxLen2; simp; omega) | exact absurd (by assumption : ¬ _) (by omega) | skip)
                · refine nx (k + 1, [], (n0 :: ns) ++ [(i + k, Tree.node kids)]) [0, 1, 2, 3, 7] (by (repeat (first | exact trivial | refine seC rfl rfl ?_ | refine seY (n0 := 3) rfl rfl hg (by simp only [List.length_append, List.length_cons, List.length_nil]; omega) ?_))) ?_ rfl rfl (by dsimp only; omega) ⟨by dsimp only; omega, hstep⟩
                  dsimp only [lvO]
                  simp only [List.length_append, List.length_cons, List.length_nil, Nat.zero_add]
                  (repeat (first | exact trivial | refine shI (n0 := 3) (by assumption) rfl (by omega) rfl ?_ | refine shC rfl rfl ?_ | refine shR rfl (by first | rfl | (dsimp only; rw [tkm, List.map_append]; rfl)) (by first | exact cl_reach _ | exact cl_unr _) ?_))
            | cons y0 ys =>
              cases ns with
              | nil =>
                simp only [List.length_cons, List.length_nil] at hlen
                repeat' (
                 conv => whnf
                 first
                 | refine ifd (fun h => ?_) (fun h => ?_)
                 | with_reducible refine ivW (by omega) (by omega) ?_
                 | ((with_reducible refine pcI ?_); refine Val.pure hmp (ler _ _) rfl rfl ?_)
                 | ((with_reducible refine pcI ?_); refine Val.pure hpr (ler _ _) rfl rfl ?_)
                 | ((with_reducible refine pcI ?_); refine Val.pure (vPrefix _ _ (by omega)) (ler _ _) rfl rfl ?_)
                 | ((with_reducible apply drT 9); rfl)
                 | ((with_reducible apply drT 10); rfl)
                 | ((with_reducible apply ob); ((first | rfl | assumption | omega | (unfold maxLen2; omega) | (dsimp only; omega) | (simp only [LN]; omega) | (simp; done) | (simp; omega))))
                 | refine nfI ?_)
                all_goals (conv => whnf)
                all_goals (first | exact side_out (by unfold maxLen2; simp; omega) | exact absurd (by assumption : ¬ _) (by omega) | skip)
                · refine nx (k + 1, (y0 :: ys), [] ++ [(i + k, Tree.node kids)]) [0, 1, 2, 3, 4, 7] (by (repeat (first | exact trivial | refine seC rfl rfl ?_ | refine seY (n0 := 3) rfl rfl hg (by simp only [List.length_append, List.length_cons, List.length_nil]; omega) ?_))) ?_ rfl rfl (by dsimp only; omega) ⟨by dsimp only; omega, hstep⟩
                  dsimp only [lvO]
                  simp only [List.length_append, List.length_cons, List.length_nil, Nat.zero_add]
                  (repeat (first | exact trivial | refine shI (n0 := 3) (by assumption) rfl (by omega) rfl ?_ | refine shC rfl rfl ?_ | refine shR rfl (by first | rfl | (dsimp only; rw [tkm, List.map_append]; rfl)) (by first | exact cl_reach _ | exact cl_unr _) ?_))
              | cons n0 ns =>
                simp only [List.length_cons, List.length_nil] at hlen
                repeat' (
                 conv => whnf
                 first
                 | refine ifd (fun h => ?_) (fun h => ?_)
                 | with_reducible refine ivW (by omega) (by omega) ?_
                 | ((with_reducible refine pcI ?_); refine Val.pure hmp (ler _ _) rfl rfl ?_)
                 | ((with_reducible refine pcI ?_); refine Val.pure hpr (ler _ _) rfl rfl ?_)
                 | ((with_reducible refine pcI ?_); refine Val.pure (vPrefix _ _ (by omega)) (ler _ _) rfl rfl ?_)
                 | ((with_reducible apply drT 9); rfl)
                 | ((with_reducible apply drT 10); rfl)
                 | ((with_reducible apply ob); ((first | rfl | assumption | omega | (unfold maxLen2; omega) | (dsimp only; omega) | (simp only [LN]; omega) | (simp; done) | (simp; omega))))
                 | refine nfI ?_)
                all_goals (conv => whnf)
                all_goals (first | exact side_out (by unfold maxLen2; simp; omega) | exact absurd (by assumption : ¬ _) (by omega) | skip)
                · refine nx (k + 1, (y0 :: ys), (n0 :: ns) ++ [(i + k, Tree.node kids)]) [0, 1, 2, 3, 4, 8] (by (repeat (first | exact trivial | refine seC rfl rfl ?_ | refine seY (n0 := 3) rfl rfl hg (by simp only [List.length_append, List.length_cons, List.length_nil]; omega) ?_))) ?_ rfl rfl (by dsimp only; omega) ⟨by dsimp only; omega, hstep⟩
                  dsimp only [lvO]
                  simp only [List.length_append, List.length_cons, List.length_nil, Nat.zero_add]
                  (repeat (first | exact trivial | refine shI (n0 := 3) (by assumption) rfl (by omega) rfl ?_ | refine shC rfl rfl ?_ | refine shR rfl (by first | rfl | (dsimp only; rw [tkm, List.map_append]; rfl)) (by first | exact cl_reach _ | exact cl_unr _) ?_))
        · have hiV : i < x.V := by omega
          have hkV : k = x.V - i := by omega
          have hY := hyl i _ hj hiV
          rw [← hkV, hlv] at hY
          cases ys with
          | nil =>
            cases ns with
            | nil =>
              repeat' (
               conv => whnf
               first
               | refine ifd (fun h => ?_) (fun h => ?_)
               | ((with_reducible refine pcI ?_); refine Val.pure (vPrefix _ _ (by omega)) (ler _ _) rfl rfl ?_)
               | ((with_reducible apply drT 9); rfl)
               | refine nfI ?_)
              all_goals (conv => whnf)
              all_goals (first | exact absurd (by assumption : (_ : Int) < _) (by omega) | skip)
              refine yldCallS 3 (Hc := [o0, o1, o2]) (Y := lvO 3 [] []) (Y1 := [_]) hY (by simp; omega) (by simp) (.refl _) hin (.cons _ _ _ _ (.refl _) (.cons _ _ _ _ (.agg _ _ (.cons _ _ _ _ (.nils _) (.cons _ _ _ _ (.nils _) .nil)) rfl) .nil)) rfl ?_
              intro r H' σ O2 hs hσ hcase
              rcases hcase with ⟨rfl, hJ'⟩ | ⟨rfl, hQ'⟩
              · repeat' (
                 conv => whnf
                 first
                 | with_reducible refine ivW (by omega) (by omega) ?_)
                all_goals (conv => whnf)
                exact nx (i + 1, O2) σ (by have := take_len hσ; have := sits_len hs; (repeat (first | exact trivial | refine seC rfl rfl ?_ | refine seY rfl hσ hg (by dsimp only; omega) ?_))) hs.sub hs.nd hσ (by dsimp only; omega) ⟨hJ', by dsimp only; omega⟩
              · all_goals (conv => whnf)
                exact fin_in ⟨σ, O2, hs, hσ, rfl, hQ'⟩
            | cons n0 ns =>
              repeat' (
               conv => whnf
               first
               | refine ifd (fun h => ?_) (fun h => ?_)
               | ((with_reducible refine pcI ?_); refine Val.pure (vPrefix _ _ (by omega)) (ler _ _) rfl rfl ?_)
               | ((with_reducible apply drT 9); rfl)
               | refine nfI ?_)
              all_goals (conv => whnf)
              all_goals (first | exact absurd (by assumption : (_ : Int) < _) (by omega) | skip)
              refine yldCallS 3 (Hc := [o0, o1, o2]) (Y := lvO 3 [] (n0 :: ns)) (Y1 := [_, .frz (.agg [.leaf, .agg [.leaf]]) ((n0 :: ns).map unrD)]) hY (by simp; omega) (by simp) (.step 4 (.agg [.leaf, .agg [.leaf]]) ((n0 :: ns).map unrD) rfl (cl_unr _) (.refl _)) hin (.cons _ _ _ _ (.refl _) (.cons _ _ _ _ (.agg _ _ (.cons _ _ _ _ (.nils _) (.cons _ _ _ _ (leRow rfl (by simp)) .nil)) rfl) .nil)) rfl ?_
              intro r H' σ O2 hs hσ hcase
              rcases hcase with ⟨rfl, hJ'⟩ | ⟨rfl, hQ'⟩
              · repeat' (
                 conv => whnf
                 first
                 | with_reducible refine ivW (by omega) (by omega) ?_)
                all_goals (conv => whnf)
                exact nx (i + 1, O2) σ (by have := take_len hσ; have := sits_len hs; (repeat (first | exact trivial | refine seC rfl rfl ?_ | refine seY rfl hσ hg (by dsimp only; omega) ?_))) hs.sub hs.nd hσ (by dsimp only; omega) ⟨hJ', by dsimp only; omega⟩
              · all_goals (conv => whnf)
                exact fin_in ⟨σ, O2, hs, hσ, rfl, hQ'⟩
          | cons y0 ys =>
            cases ns with
            | nil =>
              repeat' (
               conv => whnf
               first
               | refine ifd (fun h => ?_) (fun h => ?_)
               | ((with_reducible refine pcI ?_); refine Val.pure (vPrefix _ _ (by omega)) (ler _ _) rfl rfl ?_)
               | ((with_reducible apply drT 9); rfl)
               | refine nfI ?_)
              all_goals (conv => whnf)
              all_goals (first | exact absurd (by assumption : (_ : Int) < _) (by omega) | skip)
              refine yldCallS 3 (Hc := [o0, o1, o2]) (Y := lvO 3 (y0 :: ys) []) (Y1 := [_, .frz (.agg [.leaf, .leaf]) ((y0 :: ys).map reachD)]) hY (by simp; omega) (by simp) (.step 4 (.agg [.leaf, .leaf]) ((y0 :: ys).map reachD) rfl (cl_reach _) (.refl _)) hin (.cons _ _ _ _ (.refl _) (.cons _ _ _ _ (.agg _ _ (.cons _ _ _ _ (leRow rfl (by simp)) (.cons _ _ _ _ (.nils _) .nil)) rfl) .nil)) rfl ?_
              intro r H' σ O2 hs hσ hcase
              rcases hcase with ⟨rfl, hJ'⟩ | ⟨rfl, hQ'⟩
              · repeat' (
                 conv => whnf
                 first
                 | with_reducible refine ivW (by omega) (by omega) ?_)
                all_goals (conv => whnf)
                exact nx (i + 1, O2) σ (by have := take_len hσ; have := sits_len hs; (repeat (first | exact trivial | refine seC rfl rfl ?_ | refine seY rfl hσ hg (by dsimp only; omega) ?_))) hs.sub hs.nd hσ (by dsimp only; omega) ⟨hJ', by dsimp only; omega⟩
              · all_goals (conv => whnf)
                exact fin_in ⟨σ, O2, hs, hσ, rfl, hQ'⟩
            | cons n0 ns =>
              repeat' (
               conv => whnf
               first
               | refine ifd (fun h => ?_) (fun h => ?_)
               | ((with_reducible refine pcI ?_); refine Val.pure (vPrefix _ _ (by omega)) (ler _ _) rfl rfl ?_)
               | ((with_reducible apply drT 9); rfl)
               | refine nfI ?_)
              all_goals (conv => whnf)
              all_goals (first | exact absurd (by assumption : (_ : Int) < _) (by omega) | skip)
              refine yldCallS 3 (Hc := [o0, o1, o2]) (Y := lvO 3 (y0 :: ys) (n0 :: ns)) (Y1 := [_, .frz (.agg [.leaf, .leaf]) ((y0 :: ys).map reachD), .frz (.agg [.leaf, .agg [.leaf]]) ((n0 :: ns).map unrD)]) hY (by simp; omega) (by simp) (.step 4 (.agg [.leaf, .leaf]) ((y0 :: ys).map reachD) rfl (cl_reach _) (.step 5 (.agg [.leaf, .agg [.leaf]]) ((n0 :: ns).map unrD) rfl (cl_unr _) (.refl _))) hin (.cons _ _ _ _ (.refl _) (.cons _ _ _ _ (.agg _ _ (.cons _ _ _ _ (leRow rfl (by simp)) (.cons _ _ _ _ (leRow rfl (by simp)) .nil)) rfl) .nil)) rfl ?_
              intro r H' σ O2 hs hσ hcase
              rcases hcase with ⟨rfl, hJ'⟩ | ⟨rfl, hQ'⟩
              · repeat' (
                 conv => whnf
                 first
                 | with_reducible refine ivW (by omega) (by omega) ?_)
                all_goals (conv => whnf)
                exact nx (i + 1, O2) σ (by have := take_len hσ; have := sits_len hs; (repeat (first | exact trivial | refine seC rfl rfl ?_ | refine seY rfl hσ hg (by dsimp only; omega) ?_))) hs.sub hs.nd hσ (by dsimp only; omega) ⟨hJ', by dsimp only; omega⟩
              · all_goals (conv => whnf)
                exact fin_in ⟨σ, O2, hs, hσ, rfl, hQ'⟩
      · have hiV : i = x.V := by omega
        subst hiV
        exact fin_in ⟨List.range 3, [o0, o1, o2], ⟨by have := subH_pre0 [o0, o1, o2] [] hin; simpa using this, nodupS_range _, by simp⟩, rfl, rfl, hend _ hj⟩
    · have hi0 : inO 4 o0 = true := hin _ (by simp)
      have hi1 : inO 4 o1 = true := hin _ (by simp)
      have hi2 : inO 4 o2 = true := hin _ (by simp)
      have hi3 : inO 4 o3 = true := hin _ (by simp)
      repeat' (
       conv => whnf
       first
       | refine ifd (fun h => ?_) (fun h => ?_))
      all_goals (conv => whnf)
      · refine lpX (X := Nat × List (Nat × List Int) × List (Nat × Tree)) (fun y => [(0, .yld g), (1, .ref (.agg [.leaf, .leaf]) x.D), (3, iD i), (4, .ptr 4 []), (5, iD (i + y.1)), (11, iD x.V), (12, iD i)]) (fun y => [o0, o1, o2, o3] ++ lvO 4 y.2.1 y.2.2) (fun y => i + y.1 ≤ x.V ∧ lvK x i y.1 = (y.2.1, y.2.2)) (fun y => x.V - i - y.1) ⟨_, nx0 (0, [], []) (by repeat (first | exact trivial | refine se0 rfl ?_)) rfl (Nat.lt_succ_self _) ⟨by dsimp only; omega, rfl⟩⟩ ?_
        rintro ⟨k, ys, ns⟩ ⟨hk, hlv⟩
        dsimp only at hk hlv ⊢
        have hlen := lvK_len x i k
        rw [hlv] at hlen
        dsimp only at hlen
        rcases Nat.lt_or_ge (i + k) x.V with hlt | hge
        · have hd := hdp i (i + k) (by omega) hlt
          have hpl := pre_len i (i + k)
          have hmp := vMap x x (preI i (i + k)) hx hx hx7 hx7 (pre_ne _ _) hd (by omega)
          have hpr := vProve x x (preI i (i + k)) hx hx hx7 hx7 hd (by omega)
          obtain ⟨ec, hec⟩ := prv_eq x x (preI i (i + k))
          rw [hec] at hpr
          cases hm : mapN x x (preI i (i + k)) with
          | some m =>
            rw [hm] at hmp
            have hstep : lvK x i (k + 1) = (ys ++ [(i + k, m)], ns) := by rw [lvK, hm, hlv]
            cases ys with
            | nil =>
              cases ns with
              | nil =>
                simp only [List.length_cons, List.length_nil] at hlen
                repeat' (
                 conv => whnf
                 first
                 | refine ifd (fun h => ?_) (fun h => ?_)
                 | with_reducible refine ivW (by omega) (by omega) ?_
                 | ((with_reducible refine pcI ?_); refine Val.pure hmp (ler _ _) rfl rfl ?_)
                 | ((with_reducible refine pcI ?_); refine Val.pure (vPrefix _ _ (by omega)) (ler _ _) rfl rfl ?_)
                 | ((with_reducible apply drT 9); rfl)
                 | ((with_reducible apply ob); ((first | rfl | assumption | omega | (unfold maxLen2; omega) | (dsimp only; omega) | (simp only [LN]; omega) | (simp; done) | (simp; omega))))
                 | refine nfI ?_)
                all_goals (conv => whnf)
                all_goals (first | exact side_out (by unfold maxLen2; simp; omega) | exact absurd (by assumption : ¬ _) (by omega) | skip)
                · refine nx (k + 1, [] ++ [(i + k, m)], []) [0, 1, 2, 3, 4, 6] (by (repeat (first | exact trivial | refine seC rfl rfl ?_ | refine seY (n0 := 3) rfl rfl hg (by simp only [List.length_append, List.length_cons, List.length_nil]; omega) ?_))) ?_ rfl rfl (by dsimp only; omega) ⟨by dsimp only; omega, hstep⟩
                  dsimp only [lvO]
                  simp only [List.length_append, List.length_cons, List.length_nil, Nat.zero_add]
                  (repeat (first | exact trivial | refine shI (n0 := 4) (by assumption) rfl (by omega) rfl ?_ | refine shC rfl rfl ?_ | refine shR rfl (by first | rfl | (dsimp only; rw [tkm, List.map_append]; rfl)) (by first | exact cl_reach _ | exact cl_unr _) ?_))
              | cons n0 ns =>
                simp only [List.length_cons, List.length_nil] at hlen
                repeat' (
                 conv => whnf
                 first
                 | refine ifd (fun h => ?_) (fun h => ?_)
                 | with_reducible refine ivW (by omega) (by omega) ?_
                 | ((with_reducible refine pcI ?_); refine Val.pure hmp (ler _ _) rfl rfl ?_)
                 | ((with_reducible refine pcI ?_); refine Val.pure (vPrefix _ _ (by omega)) (ler _ _) rfl rfl ?_)
                 | ((with_reducible apply drT 9); rfl)
                 | ((with_reducible apply ob); ((first | rfl | assumption | omega | (unfold maxLen2; omega) | (dsimp only; omega) | (simp only [LN]; omega) | (simp; done) | (simp; omega))))
                 | refine nfI ?_)
                all_goals (conv => whnf)
                all_goals (first | exact side_out (by unfold maxLen2; simp; omega) | exact absurd (by assumption : ¬ _) (by omega) | skip)
                · refine nx (k + 1, [] ++ [(i + k, m)], (n0 :: ns)) [0, 1, 2, 3, 4, 7, 5] (by (repeat (first | exact trivial | refine seC rfl rfl ?_ | refine seY (n0 := 3) rfl rfl hg (by simp only [List.length_append, List.length_cons, List.length_nil]; omega) ?_))) ?_ rfl rfl (by dsimp only; omega) ⟨by dsimp only; omega, hstep⟩
                  dsimp only [lvO]
                  simp only [List.length_append, List.length_cons, List.length_nil, Nat.zero_add]
                  (repeat (first | exact trivial | refine shI (n0 := 4) (by assumption) rfl (by omega) rfl ?_ | refine shC rfl rfl ?_ | refine shR rfl (by first | rfl | (dsimp only; rw [tkm, List.map_append]; rfl)) (by first | exact cl_reach _ | exact cl_unr _) ?_))
            | cons y0 ys =>
              cases ns with
              | nil =>
                simp only [List.length_cons, List.length_nil] at hlen
                repeat' (
                 conv => whnf
                 first
                 | refine ifd (fun h => ?_) (fun h => ?_)
                 | with_reducible refine ivW (by omega) (by omega) ?_
                 | ((with_reducible refine pcI ?_); refine Val.pure hmp (ler _ _) rfl rfl ?_)
                 | ((with_reducible refine pcI ?_); refine Val.pure (vPrefix _ _ (by omega)) (ler _ _) rfl rfl ?_)
                 | ((with_reducible apply drT 9); rfl)
                 | ((with_reducible apply ob); ((first | rfl | assumption | omega | (unfold maxLen2; omega) | (dsimp only; omega) | (simp only [LN]; omega) | (simp; done) | (simp; omega))))
                 | refine nfI ?_)
                all_goals (conv => whnf)
                all_goals (first | exact side_out (by unfold maxLen2; simp; omega) | exact absurd (by assumption : ¬ _) (by omega) | skip)
                · refine nx (k + 1, (y0 :: ys) ++ [(i + k, m)], []) [0, 1, 2, 3, 4, 7] (by (repeat (first | exact trivial | refine seC rfl rfl ?_ | refine seY (n0 := 3) rfl rfl hg (by simp only [List.length_append, List.length_cons, List.length_nil]; omega) ?_))) ?_ rfl rfl (by dsimp only; omega) ⟨by dsimp only; omega, hstep⟩
                  dsimp only [lvO]
                  simp only [List.length_append, List.length_cons, List.length_nil, Nat.zero_add]
                  (repeat (first | exact trivial | refine shI (n0 := 4) (by assumption) rfl (by omega) rfl ?_ | refine shC rfl rfl ?_ | refine shR rfl (by first | rfl | (dsimp only; rw [tkm, List.map_append]; rfl)) (by first | exact cl_reach _ | exact cl_unr _) ?_))
              | cons n0 ns =>
                simp only [List.length_cons, List.length_nil] at hlen
                repeat' (
                 conv => whnf
                 first
                 | refine ifd (fun h => ?_) (fun h => ?_)
                 | with_reducible refine ivW (by omega) (by omega) ?_
                 | ((with_reducible refine pcI ?_); refine Val.pure hmp (ler _ _) rfl rfl ?_)
                 | ((with_reducible refine pcI ?_); refine Val.pure (vPrefix _ _ (by omega)) (ler _ _) rfl rfl ?_)
                 | ((with_reducible apply drT 9); rfl)
                 | ((with_reducible apply ob); ((first | rfl | assumption | omega | (unfold maxLen2; omega) | (dsimp only; omega) | (simp only [LN]; omega) | (simp; done) | (simp; omega))))
                 | refine nfI ?_)
                all_goals (conv => whnf)
                all_goals (first | exact side_out (by unfold maxLen2; simp; omega) | exact absurd (by assumption : ¬ _) (by omega) | skip)
                · refine nx (k + 1, (y0 :: ys) ++ [(i + k, m)], (n0 :: ns)) [0, 1, 2, 3, 4, 8, 6] (by (repeat (first | exact trivial | refine seC rfl rfl ?_ | refine seY (n0 := 3) rfl rfl hg (by simp only [List.length_append, List.length_cons, List.length_nil]; omega) ?_))) ?_ rfl rfl (by dsimp only; omega) ⟨by dsimp only; omega, hstep⟩
                  dsimp only [lvO]
                  simp only [List.length_append, List.length_cons, List.length_nil, Nat.zero_add]
                  (repeat (first | exact trivial | refine shI (n0 := 4) (by assumption) rfl (by omega) rfl ?_ | refine shC rfl rfl ?_ | refine shR rfl (by first | rfl | (dsimp only; rw [tkm, List.map_append]; rfl)) (by first | exact cl_reach _ | exact cl_unr _) ?_))
          | none =>
            rw [hm] at hmp
            have hstep : lvK x i (k + 1) = (ys, ns ++ [(i + k, prvT x x (preI i (i + k)))]) := by rw [lvK, hm, hlv]
            cases hT : prvT x x (preI i (i + k)) with
            | node kids =>
            rw [hT] at hpr hstep
            cases ys with
            | nil =>
              cases ns with
              | nil =>
                simp only [List.length_cons, List.length_nil] at hlen
                repeat' (
                 conv => whnf
                 first
                 | refine ifd (fun h => ?_) (fun h => ?_)
                 | with_reducible refine ivW (by omega) (by omega) ?_
                 | ((with_reducible refine pcI ?_); refine Val.pure hmp (ler _ _) rfl rfl ?_)
                 | ((with_reducible refine pcI ?_); refine Val.pure hpr (ler _ _) rfl rfl ?_)
                 | ((with_reducible refine pcI ?_); refine Val.pure (vPrefix _ _ (by omega)) (ler _ _) rfl rfl ?_)
                 | ((with_reducible apply drT 9); rfl)
                 | ((with_reducible apply drT 10); rfl)
                 | ((with_reducible apply ob); ((first | rfl | assumption | omega | (unfold maxLen2; omega) | (dsimp only; omega) | (simp only [LN]; omega) | (simp; done) | (simp; omega))))
                 | refine nfI ?_)
                all_goals (conv => whnf)
                all_goals (first | exact side_out (by unfold maxLen2; simp; omega) | exact absurd (by assumption : ¬ _) (by omega) | skip)
                · refine nx (k + 1, [], [] ++ [(i + k, Tree.node kids)]) [0, 1, 2, 3, 4, 7] (by (repeat (first | exact trivial | refine seC rfl rfl ?_ | refine seY (n0 := 3) rfl rfl hg (by simp only [List.length_append, List.length_cons, List.length_nil]; omega) ?_))) ?_ rfl rfl (by dsimp only; omega) ⟨by dsimp only; omega, hstep⟩
                  dsimp only [lvO]
                  simp only [List.length_append, List.length_cons, List.length_nil, Nat.zero_add]
                  (repeat (first | exact trivial | refine shI (n0 := 4) (by assumption) rfl (by omega) rfl ?_ | refine shC rfl rfl ?_ | refine shR rfl (by first | rfl | (dsimp only; rw [tkm, List.map_append]; rfl)) (by first | exact cl_reach _ | exact cl_unr _) ?_))
              | cons n0 ns =>
                simp only [List.length_cons, List.length_nil] at hlen
                repeat' (
                 conv => whnf
                 first
                 | refine ifd (fun h => ?_) (fun h => ?_)
                 | with_reducible refine ivW (by omega) (by omega) ?_
                 | ((with_reducible refine pcI ?_); refine Val.pure hmp (ler _ _) rfl rfl ?_)
                 | ((with_reducible refine pcI ?_); refine Val.pure hpr (ler _ _) rfl rfl ?_)
                 | ((with_reducible refine pcI ?_); refine Val.pure (vPrefix _ _ (by omega)) (ler _ _) rfl rfl ?_)
                 | ((with_reducible apply drT 9); rfl)
                 | ((with_reducible apply drT 10); rfl)
                 | ((with_reducible apply ob); ((first | rfl | assumption | omega | (unfold maxLen2; omega) | (dsimp only; omega) | (simp only [LN]; omega) | (simp; done) | (simp; omega))))
                 | refine nfI ?_)
                all_goals (conv => whnf)
                all_goals (first | exact side_out (by unfold maxLen2; simp; omega) | exact absurd (by assumption : ¬ _) (by omega) | skip)
                · refine nx (k + 1, [], (n0 :: ns) ++ [(i + k, Tree.node kids)]) [0, 1, 2, 3, 4, 8] (by (repeat (first | exact trivial | refine seC rfl rfl ?_ | refine seY (n0 := 3) rfl rfl hg (by simp only [List.length_append, List.length_cons, List.length_nil]; omega) ?_))) ?_ rfl rfl (by dsimp only; omega) ⟨by dsimp only; omega, hstep⟩
                  dsimp only [lvO]
                  simp only [List.length_append, List.length_cons, List.length_nil, Nat.zero_add]
                  (repeat (first | exact trivial | refine shI (n0 := 4) (by assumption) rfl (by omega) rfl ?_ | refine shC rfl rfl ?_ | refine shR rfl (by first | rfl | (dsimp only; rw [tkm, List.map_append]; rfl)) (by first | exact cl_reach _ | exact cl_unr _) ?_))
            | cons y0 ys =>
              cases ns with
              | nil =>
                simp only [List.length_cons, List.length_nil] at hlen
                repeat' (
                 conv => whnf
                 first
                 | refine ifd (fun h => ?_) (fun h => ?_)
                 | with_reducible refine ivW (by omega) (by omega) ?_
                 | ((with_reducible refine pcI ?_); refine Val.pure hmp (ler _ _) rfl rfl ?_)
                 | ((with_reducible refine pcI ?_); refine Val.pure hpr (ler _ _) rfl rfl ?_)
                 | ((with_reducible refine pcI ?_); refine Val.pure (vPrefix _ _ (by omega)) (ler _ _) rfl rfl ?_)
                 | ((with_reducible apply drT 9); rfl)
                 | ((with_reducible apply drT 10); rfl)
                 | ((with_reducible apply ob); ((first | rfl | assumption | omega | (unfold maxLen2; omega) | (dsimp only; omega) | (simp only [LN]; omega) | (simp; done) | (simp; omega))))
                 | refine nfI ?_)
                all_goals (conv => whnf)
                all_goals (first | exact side_out (by unfold maxLen2; simp; omega) | exact absurd (by assumption : ¬ _) (by omega) | skip)
                · refine nx (k + 1, (y0 :: ys), [] ++ [(i + k, Tree.node kids)]) [0, 1, 2, 3, 4, 5, 8] (by (repeat (first | exact trivial | refine seC rfl rfl ?_ | refine seY (n0 := 3) rfl rfl hg (by simp only [List.length_append, List.length_cons, List.length_nil]; omega) ?_))) ?_ rfl rfl (by dsimp only; omega) ⟨by dsimp only; omega, hstep⟩
                  dsimp only [lvO]
                  simp only [List.length_append, List.length_cons, List.length_nil, Nat.zero_add]
                  (repeat (first | exact trivial | refine shI (n0 := 4) (by assumption) rfl (by omega) rfl ?_ | refine shC rfl rfl ?_ | refine shR rfl (by first | rfl | (dsimp only; rw [tkm, List.map_append]; rfl)) (by first | exact cl_reach _ | exact cl_unr _) ?_))
              | cons n0 ns =>
                simp only [List.length_cons, List.length_nil] at hlen
                repeat' (
                 conv => whnf
                 first
                 | refine ifd (fun h => ?_) (fun h => ?_)
                 | with_reducible refine ivW (by omega) (by omega) ?_
                 | ((with_reducible refine pcI ?_); refine Val.pure hmp (ler _ _) rfl rfl ?_)
                 | ((with_reducible refine pcI ?_); refine Val.pure hpr (ler _ _) rfl rfl ?_)
                 | ((with_reducible refine pcI ?_); refine Val.pure (vPrefix _ _ (by omega)) (ler _ _) rfl rfl ?_)
                 | ((with_reducible apply drT 9); rfl)
                 | ((with_reducible apply drT 10); rfl)
                 | ((with_reducible apply ob); ((first | rfl | assumption | omega | (unfold maxLen2; omega) | (dsimp only; omega) | (simp only [LN]; omega) | (simp; done) | (simp; omega))))
                 | refine nfI ?_)
                all_goals (conv => whnf)
                all_goals (first | exact side_out (by unfold maxLen2; simp; omega) | exact absurd (by assumption : ¬ _) (by omega) | skip)
                · refine nx (k + 1, (y0 :: ys), (n0 :: ns) ++ [(i + k, Tree.node kids)]) [0, 1, 2, 3, 4, 5, 9] (by (repeat (first | exact trivial | refine seC rfl rfl ?_ | refine seY (n0 := 3) rfl rfl hg (by simp only [List.length_append, List.length_cons, List.length_nil]; omega) ?_))) ?_ rfl rfl (by dsimp only; omega) ⟨by dsimp only; omega, hstep⟩
                  dsimp only [lvO]
                  simp only [List.length_append, List.length_cons, List.length_nil, Nat.zero_add]
                  (repeat (first | exact trivial | refine shI (n0 := 4) (by assumption) rfl (by omega) rfl ?_ | refine shC rfl rfl ?_ | refine shR rfl (by first | rfl | (dsimp only; rw [tkm, List.map_append]; rfl)) (by first | exact cl_reach _ | exact cl_unr _) ?_))
        · have hiV : i < x.V := by omega
          have hkV : k = x.V - i := by omega
          have hY := hyl i _ hj hiV
          rw [← hkV, hlv] at hY
          cases ys with
          | nil =>
            cases ns with
            | nil =>
              repeat' (
               conv => whnf
               first
               | refine ifd (fun h => ?_) (fun h => ?_)
               | ((with_reducible refine pcI ?_); refine Val.pure (vPrefix _ _ (by omega)) (ler _ _) rfl rfl ?_)
               | ((with_reducible apply drT 9); rfl)
               | refine nfI ?_)
              all_goals (conv => whnf)
              all_goals (first | exact absurd (by assumption : (_ : Int) < _) (by omega) | skip)
              refine yldCallS 3 (Hc := [o0, o1, o2, o3]) (Y := lvO 4 [] []) (Y1 := [_]) hY (by simp; omega) (by simp) (.refl _) hin (.cons _ _ _ _ (.refl _) (.cons _ _ _ _ (.agg _ _ (.cons _ _ _ _ (.nils _) (.cons _ _ _ _ (.nils _) .nil)) rfl) .nil)) rfl ?_
              intro r H' σ O2 hs hσ hcase
              rcases hcase with ⟨rfl, hJ'⟩ | ⟨rfl, hQ'⟩
              · repeat' (
                 conv => whnf
                 first
                 | with_reducible refine ivW (by omega) (by omega) ?_)
                all_goals (conv => whnf)
                exact nx (i + 1, O2) σ (by have := take_len hσ; have := sits_len hs; (repeat (first | exact trivial | refine seC rfl rfl ?_ | refine seY rfl hσ hg (by dsimp only; omega) ?_))) hs.sub hs.nd hσ (by dsimp only; omega) ⟨hJ', by dsimp only; omega⟩
              · all_goals (conv => whnf)
                exact fin_in ⟨σ, O2, hs, hσ, rfl, hQ'⟩
            | cons n0 ns =>
              repeat' (
               conv => whnf
               first
               | refine ifd (fun h => ?_) (fun h => ?_)
               | ((with_reducible refine pcI ?_); refine Val.pure (vPrefix _ _ (by omega)) (ler _ _) rfl rfl ?_)
               | ((with_reducible apply drT 9); rfl)
               | refine nfI ?_)
              all_goals (conv => whnf)
              all_goals (first | exact absurd (by assumption : (_ : Int) < _) (by omega) | skip)
              refine yldCallS 3 (Hc := [o0, o1, o2, o3]) (Y := lvO 4 [] (n0 :: ns)) (Y1 := [_, .frz (.agg [.leaf, .agg [.leaf]]) ((n0 :: ns).map unrD)]) hY (by simp; omega) (by simp) (.step 5 (.agg [.leaf, .agg [.leaf]]) ((n0 :: ns).map unrD) rfl (cl_unr _) (.refl _)) hin (.cons _ _ _ _ (.refl _) (.cons _ _ _ _ (.agg _ _ (.cons _ _ _ _ (.nils _) (.cons _ _ _ _ (leRow rfl (by simp)) .nil)) rfl) .nil)) rfl ?_
              intro r H' σ O2 hs hσ hcase
              rcases hcase with ⟨rfl, hJ'⟩ | ⟨rfl, hQ'⟩
              · repeat' (
                 conv => whnf
                 first
                 | with_reducible refine ivW (by omega) (by omega) ?_)
                all_goals (conv => whnf)
                exact nx (i + 1, O2) σ (by have := take_len hσ; have := sits_len hs; (repeat (first | exact trivial | refine seC rfl rfl ?_ | refine seY rfl hσ hg (by dsimp only; omega) ?_))) hs.sub hs.nd hσ (by dsimp only; omega) ⟨hJ', by dsimp only; omega⟩
              · all_goals (conv => whnf)
                exact fin_in ⟨σ, O2, hs, hσ, rfl, hQ'⟩
          | cons y0 ys =>
            cases ns with
            | nil =>
              repeat' (
               conv => whnf
               first
               | refine ifd (fun h => ?_) (fun h => ?_)
               | ((with_reducible refine pcI ?_); refine Val.pure (vPrefix _ _ (by omega)) (ler _ _) rfl rfl ?_)
               | ((with_reducible apply drT 9); rfl)
               | refine nfI ?_)
              all_goals (conv => whnf)
              all_goals (first | exact absurd (by assumption : (_ : Int) < _) (by omega) | skip)
              refine yldCallS 3 (Hc := [o0, o1, o2, o3]) (Y := lvO 4 (y0 :: ys) []) (Y1 := [_, .frz (.agg [.leaf, .leaf]) ((y0 :: ys).map reachD)]) hY (by simp; omega) (by simp) (.step 5 (.agg [.leaf, .leaf]) ((y0 :: ys).map reachD) rfl (cl_reach _) (.refl _)) hin (.cons _ _ _ _ (.refl _) (.cons _ _ _ _ (.agg _ _ (.cons _ _ _ _ (leRow rfl (by simp)) (.cons _ _ _ _ (.nils _) .nil)) rfl) .nil)) rfl ?_
              intro r H' σ O2 hs hσ hcase
              rcases hcase with ⟨rfl, hJ'⟩ | ⟨rfl, hQ'⟩
              · repeat' (
                 conv => whnf
                 first
                 | with_reducible refine ivW (by omega) (by omega) ?_)
                all_goals (conv => whnf)
                exact nx (i + 1, O2) σ (by have := take_len hσ; have := sits_len hs; (repeat (first | exact trivial | refine seC rfl rfl ?_ | refine seY rfl hσ hg (by dsimp only; omega) ?_))) hs.sub hs.nd hσ (by dsimp only; omega) ⟨hJ', by dsimp only; omega⟩
              · all_goals (conv => whnf)
                exact fin_in ⟨σ, O2, hs, hσ, rfl, hQ'⟩
            | cons n0 ns =>
              repeat' (
               conv => whnf
               first
               | refine ifd (fun h => ?_) (fun h => ?_)
               | ((with_reducible refine pcI ?_); refine Val.pure (vPrefix _ _ (by omega)) (ler _ _) rfl rfl ?_)
               | ((with_reducible apply drT 9); rfl)
               | refine nfI ?_)
              all_goals (conv => whnf)
              all_goals (first | exact absurd (by assumption : (_ : Int) < _) (by omega) | skip)
              refine yldCallS 3 (Hc := [o0, o1, o2, o3]) (Y := lvO 4 (y0 :: ys) (n0 :: ns)) (Y1 := [_, .frz (.agg [.leaf, .leaf]) ((y0 :: ys).map reachD), .frz (.agg [.leaf, .agg [.leaf]]) ((n0 :: ns).map unrD)]) hY (by simp; omega) (by simp) (.step 5 (.agg [.leaf, .leaf]) ((y0 :: ys).map reachD) rfl (cl_reach _) (.step 6 (.agg [.leaf, .agg [.leaf]]) ((n0 :: ns).map unrD) rfl (cl_unr _) (.refl _))) hin (.cons _ _ _ _ (.refl _) (.cons _ _ _ _ (.agg _ _ (.cons _ _ _ _ (leRow rfl (by simp)) (.cons _ _ _ _ (leRow rfl (by simp)) .nil)) rfl) .nil)) rfl ?_
              intro r H' σ O2 hs hσ hcase
              rcases hcase with ⟨rfl, hJ'⟩ | ⟨rfl, hQ'⟩
              · repeat' (
                 conv => whnf
                 first
                 | with_reducible refine ivW (by omega) (by omega) ?_)
                all_goals (conv => whnf)
                exact nx (i + 1, O2) σ (by have := take_len hσ; have := sits_len hs; (repeat (first | exact trivial | refine seC rfl rfl ?_ | refine seY rfl hσ hg (by dsimp only; omega) ?_))) hs.sub hs.nd hσ (by dsimp only; omega) ⟨hJ', by dsimp only; omega⟩
              · all_goals (conv => whnf)
                exact fin_in ⟨σ, O2, hs, hσ, rfl, hQ'⟩
      · have hiV : i = x.V := by omega
        subst hiV
        exact fin_in ⟨List.range 4, [o0, o1, o2, o3], ⟨by have := subH_pre0 [o0, o1, o2, o3] [] hin; simpa using this, nodupS_range _, by simp⟩, rfl, rfl, hend _ hj⟩
  · intro r H' hq
    obtain ⟨σ, O2, hs, hσ, rfl, hq⟩ := fin_out hq
    refine ⟨H', O2, σ, .tuple [], .refl _, hs.sub, hs.nd, by have := take_len hσ; have := sits_len hs; simp; omega, fun i hi => .inl (take_get hσ hi), rfl, .refl _, hq⟩
theorem itLevS4 (x : Inc) (hx : x.Ok) (hx7 : x.V ≤ 7) (g : Nat) (hg : g < 4) (J : Nat → List Ob → Prop) (Q : D → List Ob → Prop)
    (hdp : ∀ i j, i ≤ j → j < x.V → Dif (preI i j) x.V)
    (hJ : ∀ k H, J k H → ((∃ o0 o1 o2 o3, H = [o0, o1, o2, o3]) ∨ (∃ o0 o1 o2 o3 o4, H = [o0, o1, o2, o3, o4])) ∧ ∀ o ∈ H, inO H.length o = true)
    (hyl : ∀ k H, J k H → k < x.V → YC Tryd.prog g [iD k, lvlD (lvK x k (x.V - k))] H (fun r H' => Fin (clD r = true ∧ ∃ σ O2, Sits H' σ O2 ∧ σ.take 4 = List.range 4 ∧ ((r = .bool true ∧ J (k + 1) O2) ∨ (r = .bool false ∧ Q (.tuple []) O2)))))
    (hend : ∀ H, J x.V H → Q (.tuple []) H) (H0 : List Ob) (hH0 : ∃ o0 o1 o2 o3, H0 = [o0, o1, o2, o3]) (h0 : J 0 H0) :
    HC Tryd.prog 76 [.yld g, .ref (.agg [.leaf, .leaf]) x.D] H0 Q := by
  obtain ⟨o0, o1, o2, o3, rfl⟩ := hH0
  have hv := hx.v
  refine HC.move (Q0 := fun r H' => Fin (∃ σ O2, Sits H' σ O2 ∧ σ.take 4 = List.range 4 ∧ r = .tuple [] ∧ Q r O2)) ?_ ?_
  · refine hc_ofS (okc Tryd.f76.ntmps 4) (fn := Tryd.f76) (cd := _) rfl rfl rfl rfl rfl rfl (fun hbd => ?_)
    all_goals (conv => whnf)
    refine lpX (X := Nat × List Ob) (fun y => [(0, .yld g), (1, .ref (.agg [.leaf, .leaf]) x.D), (11, iD x.V), (12, iD y.1)]) (fun y => y.2) (fun y => J y.1 y.2 ∧ y.1 ≤ x.V) (fun y => x.V - y.1) ⟨_, nx0 (0, [o0, o1, o2, o3]) (by repeat (first | exact trivial | refine se0 rfl ?_)) rfl (Nat.lt_succ_self _) ⟨h0, Nat.zero_le _⟩⟩ ?_
    rintro ⟨i, Hc⟩ ⟨hj, hi⟩
    dsimp only at hj hi ⊢
    clear h0
    obtain ⟨hcs, hin⟩ := hJ _ _ hj
    rcases hcs with ⟨o0, o1, o2, o3, rfl⟩ | ⟨o0, o1, o2, o3, o4, rfl⟩
    · have hi0 : inO 4 o0 = true := hin _ (by simp)
      have hi1 : inO 4 o1 = true := hin _ (by simp)
      have hi2 : inO 4 o2 = true := hin _ (by simp)
      have hi3 : inO 4 o3 = true := hin _ (by simp)
      repeat' (
       conv => whnf
       first
       | refine ifd (fun h => ?_) (fun h => ?_))
      all_goals (conv => whnf)
      · refine lpX (X := Nat × List (Nat × List Int) × List (Nat × Tree)) (fun y => [(0, .yld g), (1, .ref (.agg [.leaf, .leaf]) x.D), (3, iD i), (4, .ptr 4 []), (5, iD (i + y.1)), (11, iD x.V), (12, iD i)]) (fun y => [o0, o1, o2, o3] ++ lvO 4 y.2.1 y.2.2) (fun y => i + y.1 ≤ x.V ∧ lvK x i y.1 = (y.2.1, y.2.2)) (fun y => x.V - i - y.1) ⟨_, nx0 (0, [], []) (by repeat (first | exact trivial | refine se0 rfl ?_)) rfl (Nat.lt_succ_self _) ⟨by dsimp only; omega, rfl⟩⟩ ?_
        rintro ⟨k, ys, ns⟩ ⟨hk, hlv⟩
        dsimp only at hk hlv ⊢
        have hlen := lvK_len x i k
        rw [hlv] at hlen
        dsimp only at hlen
        rcases Nat.lt_or_ge (i + k) x.V with hlt | hge
        · have hd := hdp i (i + k) (by omega) hlt
          have hpl := pre_len i (i + k)
          have hmp := vMap x x (preI i (i + k)) hx hx hx7 hx7 (pre_ne _ _) hd (by omega)
          have hpr := vProve x x (preI i (i + k)) hx hx hx7 hx7 hd (by omega)
          obtain ⟨ec, hec⟩ := prv_eq x x (preI i (i + k))
          rw [hec] at hpr
          cases hm : mapN x x (preI i (i + k)) with
          | some m =>
            rw [hm] at hmp
            have hstep : lvK x i (k + 1) = (ys ++ [(i + k, m)], ns) := by rw [lvK, hm, hlv]
            cases ys with
            | nil =>
              cases ns with
              | nil =>
                simp only [List.length_cons, List.length_nil] at hlen
                repeat' (
                 conv => whnf
                 first
                 | refine ifd (fun h => ?_) (fun h => ?_)
                 | with_reducible refine ivW (by omega) (by omega) ?_
                 | ((with_reducible refine pcI ?_); refine Val.pure hmp (ler _ _) rfl rfl ?_)
                 | ((with_reducible refine pcI ?_); refine Val.pure (vPrefix _ _ (by omega)) (ler _ _) rfl rfl ?_)
                 | ((with_reducible apply drT 9); rfl)
                 | ((with_reducible apply ob); ((first | rfl | assumption | omega | (unfold maxLen2; omega) | (dsimp only; omega) | (simp only [LN]; omega) | (simp; done) | (simp; omega))))
                 | refine nfI ?_)
                all_goals (conv => whnf)
                all_goals (first | exact side_out (by unfold maxLen2; simp; omega) | exact absurd (by assumption : ¬ _) (by omega) | skip)
                · refine nx (k + 1, [] ++ [(i + k, m)], []) [0, 1, 2, 3, 4, 6] (by (repeat (first | exact trivial | refine seC rfl rfl ?_ | refine seY (n0 := 4) rfl rfl hg (by simp only [List.length_append, List.length_cons, List.length_nil]; omega) ?_))) ?_ rfl rfl (by dsimp only; omega) ⟨by dsimp only; omega, hstep⟩
                  dsimp only [lvO]
                  simp only [List.length_append, List.length_cons, List.length_nil, Nat.zero_add]
                  (repeat (first | exact trivial | refine shI (n0 := 4) (by assumption) rfl (by omega) rfl ?_ | refine shC rfl rfl ?_ | refine shR rfl (by first | rfl | (dsimp only; rw [tkm, List.map_append]; rfl)) (by first | exact cl_reach _ | exact cl_unr _) ?_))
              | cons n0 ns =>
                simp only [List.length_cons, List.length_nil] at hlen
                repeat' (
                 conv => whnf
                 first
                 | refine ifd (fun h => ?_) (fun h => ?_)
                 | with_reducible refine ivW (by omega) (by omega) ?_
                 | ((with_reducible refine pcI ?_); refine Val.pure hmp (ler _ _) rfl rfl ?_)
                 | ((with_reducible refine pcI ?_); refine Val.pure (vPrefix _ _ (by omega)) (ler _ _) rfl rfl ?_)
                 | ((with_reducible apply drT 9); rfl)
                 | ((with_reducible apply ob); ((first | rfl | assumption | omega | (unfold maxLen2; omega) | (dsimp only; omega) | (simp only [LN]; omega) | (simp; done) | (simp; omega))))
                 | refine nfI ?_)
                all_goals (conv => whnf)
                all_goals (first | exact side_out (by unfold maxLen2; simp; omega) | exact absurd (by assumption : ¬ _) (by omega) | skip)
                · refine nx (k + 1, [] ++ [(i + k, m)], (n0 :: ns)) [0, 1, 2, 3, 4, 7, 5] (by (repeat (first | exact trivial | refine seC rfl rfl ?_ | refine seY (n0 := 4) rfl rfl hg (by simp only [List.length_append, List.length_cons, List.length_nil]; omega) ?_))) ?_ rfl rfl (by dsimp only; omega) ⟨by dsimp only; omega, hstep⟩
                  dsimp only [lvO]
                  simp only [List.length_append, List.length_cons, List.length_nil, Nat.zero_add]
                  (repeat (first | exact trivial | refine shI (n0 := 4) (by assumption) rfl (by omega) rfl ?_ | refine shC rfl rfl ?_ | refine shR rfl (by first | rfl | (dsimp only; rw [tkm, List.map_append]; rfl)) (by first | exact cl_reach _ | exact cl_unr _) ?_))
            | cons y0 ys =>
              cases ns with
              | nil =>
                simp only [List.length_cons, List.length_nil] at hlen
                repeat' (
                 conv => whnf
                 first
                 | refine ifd (fun h => ?_) (fun h => ?_)
                 | with_reducible refine ivW (by omega) (by omega) ?_
                 | ((with_reducible refine pcI ?_); refine Val.pure hmp (ler _ _) rfl rfl ?_)
                 | ((with_reducible refine pcI ?_); refine Val.pure (vPrefix _ _ (by omega)) (ler _ _) rfl rfl ?_)
                 | ((with_reducible apply drT 9); rfl)
                 | ((with_reducible apply ob); ((first | rfl | assumption | omega | (unfold maxLen2; omega) | (dsimp only; omega) | (simp only [LN]; omega) | (simp; done) | (simp; omega))))
                 | refine nfI ?_)
                all_goals (conv => whnf)
                all_goals (first | exact side_out (by unfold maxLen2; simp; omega) | exact absurd (by assumption : ¬ _) (by omega) | skip)
                · refine nx (k + 1, (y0 :: ys) ++ [(i + k, m)], []) [0, 1, 2, 3, 4, 7] (by (repeat (first | exact trivial | refine seC rfl rfl ?_ | refine seY (n0 := 4) rfl rfl hg (by simp only [List.length_append, List.length_cons, List.length_nil]; omega) ?_))) ?_ rfl rfl (by dsimp only; omega) ⟨by dsimp only; omega, hstep⟩
                  dsimp only [lvO]
                  simp only [List.length_append, List.length_cons, List.length_nil, Nat.zero_add]
                  (repeat (first | exact trivial | refine shI (n0 := 4) (by assumption) rfl (by omega) rfl ?_ | refine shC rfl rfl ?_ | refine shR rfl (by first | rfl | (dsimp only; rw [tkm, List.map_append]; rfl)) (by first | exact cl_reach _ | exact cl_unr _) ?_))
              | cons n0 ns =>
                simp only [List.length_cons, List.length_nil] at hlen
                repeat' (
                 conv => whnf
                 first
                 | refine ifd (fun h => ?_) (fun h => ?_)
                 | with_reducible refine ivW (by omega) (by omega) ?_
                 | ((with_reducible refine pcI ?_); refine Val.pure hmp (ler _ _) rfl rfl ?_)
                 | ((with_reducible refine pcI ?_); refine Val.pure (vPrefix _ _ (by omega)) (ler _ _) rfl rfl ?_)
                 | ((with_reducible apply drT 9); rfl)
                 | ((with_reducible apply ob); ((first | rfl | assumption | omega | (unfold maxLen2; omega) | (dsimp only; omega) | (simp only [LN]; omega) | (simp; done) | (simp; omega))))
                 | refine nfI ?_)
                all_goals (conv => whnf)
                all_goals (first | exact side_out (by unfold maxLen2; simp; omega) | exact absurd (by assumption : ¬ _) (by omega) | skip)
                · refine nx (k + 1, (y0 :: ys) ++ [(i + k, m)], (n0 :: ns)) [0, 1, 2, 3, 4, 8, 6] (by (repeat (first | exact trivial | refine seC rfl rfl ?_ | refine seY (n0 := 4) rfl rfl hg (by simp only [List.length_append, List.length_cons, List.length_nil]; omega) ?_))) ?_ rfl rfl (by dsimp only; omega) ⟨by dsimp only; omega, hstep⟩
                  dsimp only [lvO]
                  simp only [List.length_append, List.length_cons, List.length_nil, Nat.zero_add]
                  (repeat (first | exact trivial | refine shI (n0 := 4) (by assumption) rfl (by omega) rfl ?_ | refine shC rfl rfl ?_ | refine shR rfl (by first | rfl | (dsimp only; rw [tkm, List.map_append]; rfl)) (by first | exact cl_reach _ | exact cl_unr _) ?_))
          | none =>
            rw [hm] at hmp
            have hstep : lvK x i (k + 1) = (ys, ns ++ [(i + k, prvT x x (preI i (i + k)))]) := by rw [lvK, hm, hlv]
            cases hT : prvT x x (preI i (i + k)) with
            | node kids =>
            rw [hT] at hpr hstep
            cases ys with
            | nil =>
              cases ns with
              | nil =>
                simp only [List.length_cons, List.length_nil] at hlen
                repeat' (
                 conv => whnf
                 first
                 | refine ifd (fun h => ?_) (fun h => ?_)
                 | with_reducible refine ivW (by omega) (by omega) ?_
                 | ((with_reducible refine pcI ?_); refine Val.pure hmp (ler _ _) rfl rfl ?_)
                 | ((with_reducible refine pcI ?_); refine Val.pure hpr (ler _ _) rfl rfl ?_)
                 | ((with_reducible refine pcI ?_); refine Val.pure (vPrefix _ _ (by omega)) (ler _ _) rfl rfl ?_)
                 | ((with_reducible apply drT 9); rfl)
                 | ((with_reducible apply drT 10); rfl)
                 | ((with_reducible apply ob); ((first | rfl | assumption | omega | (unfold maxLen2; omega) | (dsimp only; omega) | (simp only [LN]; omega) | (simp; done) | (simp; omega))))
                 | refine nfI ?_)
                all_goals (conv => whnf)
                all_goals (first | exact side_out (by unfold maxLen2; simp; omega) | exact absurd (by assumption : ¬ _) (by omega) | skip)
                · refine nx (k + 1, [], [] ++ [(i + k, Tree.node kids)]) [0, 1, 2, 3, 4, 7] (by (repeat (first | exact trivial | refine seC rfl rfl ?_ | refine seY (n0 := 4) rfl rfl hg (by simp only [List.length_append, List.length_cons, List.length_nil]; omega) ?_))) ?_ rfl rfl (by dsimp only; omega) ⟨by dsimp only; omega, hstep⟩
                  dsimp only [lvO]
                  simp only [List.length_append, List.length_cons, List.length_nil, Nat.zero_add]
                  (repeat (first | exact trivial | refine shI (n0 := 4) (by assumption) rfl (by omega) rfl ?_ | refine shC rfl rfl ?_ | refine shR rfl (by first | rfl | (dsimp only; rw [tkm, List.map_append]; rfl)) (by first | exact cl_reach _ | exact cl_unr _) ?_))
              | cons n0 ns =>
                simp only [List.length_cons, List.length_nil] at hlen
                repeat' (
                 conv => whnf
                 first
                 | refine ifd (fun h => ?_) (fun h => ?_)
                 | with_reducible refine ivW (by omega) (by omega) ?_
                 | ((with_reducible refine pcI ?_); refine Val.pure hmp (ler _ _) rfl rfl ?_)
                 | ((with_reducible refine pcI ?_); refine Val.pure hpr (ler _ _) rfl rfl ?_)
                 | ((with_reducible refine pcI ?_); refine Val.pure (vPrefix _ _ (by omega)) (ler _ _) rfl rfl ?_)
                 | ((with_reducible apply drT 9); rfl)
                 | ((with_reducible apply drT 10); rfl)
                 | ((with_reducible apply ob); ((first | rfl | assumption | omega | (unfold maxLen2; omega) | (dsimp only; omega) | (simp only [LN]; omega) | (simp; done) | (simp; omega))))
                 | refine nfI ?_)
                all_goals (conv => whnf)
                all_goals (first | exact side_out (by unfold maxLen2; simp; omega) | exact absurd (by assumption : ¬ _) (by omega) | skip)
                · refine nx (k + 1, [], (n0 :: ns) ++ [(i + k, Tree.node kids)]) [0, 1, 2, 3, 4, 8] (by (repeat (first | exact trivial | refine seC rfl rfl ?_ | refine seY (n0 := 4) rfl rfl hg (by simp only [List.length_append, List.length_cons, List.length_nil]; omega) ?_))) ?_ rfl rfl (by dsimp only; omega) ⟨by dsimp only; omega, hstep⟩
                  dsimp only [lvO]
                  simp only [List.length_append, List.length_cons, List.length_nil, Nat.zero_add]
                  (repeat (first | exact trivial | refine shI (n0 := 4) (by assumption) rfl (by omega) rfl ?_ | refine shC rfl rfl ?_ | refine shR rfl (by first | rfl | (dsimp only; rw [tkm, List.map_append]; rfl)) (by first | exact cl_reach _ | exact cl_unr _) ?_))
            | cons y0 ys =>
              cases ns with
              | nil =>
                simp only [List.length_cons, List.length_nil] at hlen
                repeat' (
                 conv => whnf
                 first
                 | refine ifd (fun h => ?_) (fun h => ?_)
                 | with_reducible refine ivW (by omega) (by omega) ?_
                 | ((with_reducible refine pcI ?_); refine Val.pure hmp (ler _ _) rfl rfl ?_)
                 | ((with_reducible refine pcI ?_); refine Val.pure hpr (ler _ _) rfl rfl ?_)
                 | ((with_reducible refine pcI ?_); refine Val.pure (vPrefix _ _ (by omega)) (ler _ _) rfl rfl ?_)
                 | ((with_reducible apply drT 9); rfl)
                 | ((with_reducible apply drT 10); rfl)
                 | ((with_reducible apply ob); ((first | rfl | assumption | omega | (unfold maxLen2; omega) | (dsimp only; omega) | (simp only [LN]; omega) | (simp; done) | (simp; omega))))
                 | refine nfI ?_)
                all_goals (conv => whnf)
                all_goals (first | exact side_out (by unfold maxLen2; simp; omega) | exact absurd (by assumption : ¬ _) (by omega) | skip)
                · refine nx (k + 1, (y0 :: ys), [] ++ [(i + k, Tree.node kids)]) [0, 1, 2, 3, 4, 5, 8] (by (repeat (first | exact trivial | refine seC rfl rfl ?_ | refine seY (n0 := 4) rfl rfl hg (by simp only [List.length_append, List.length_cons, List.length_nil]; omega) ?_))) ?_ rfl rfl (by dsimp only; omega) ⟨by dsimp only; omega, hstep⟩
                  dsimp only [lvO]
                  simp only [List.length_append, List.length_cons, List.length_nil, Nat.zero_add]
                  (repeat (first | exact trivial | refine shI (n0 := 4) (by assumption) rfl (by omega) rfl ?_ | refine shC rfl rfl ?_ | refine shR rfl (by first | rfl | (dsimp only; rw [tkm, List.map_append]; rfl)) (by first | exact cl_reach _ | exact cl_unr _) ?_))
              | cons n0 ns =>
                simp only [List.length_cons, List.length_nil] at hlen
                repeat' (
                 conv => whnf
                 first
                 | refine ifd (fun h => ?_) (fun h => ?_)
                 | with_reducible refine ivW (by omega) (by omega) ?_
                 | ((with_reducible refine pcI ?_); refine Val.pure hmp (ler _ _) rfl rfl ?_)
                 | ((with_reducible refine pcI ?_); refine Val.pure hpr (ler _ _) rfl rfl ?_)
                 | ((with_reducible refine pcI ?_); refine Val.pure (vPrefix _ _ (by omega)) (ler _ _) rfl rfl ?_)
                 | ((with_reducible apply drT 9); rfl)
                 | ((with_reducible apply drT 10); rfl)
                 | ((with_reducible apply ob); ((first | rfl | assumption | omega | (unfold maxLen2; omega) | (dsimp only; omega) | (simp only [LN]; omega) | (simp; done) | (simp; omega))))
                 | refine nfI ?_)
                all_goals (conv => whnf)
                all_goals (first | exact side_out (by unfold maxLen2; simp; omega) | exact absurd (by assumption : ¬ _) (by omega) | skip)
                · refine nx (k + 1, (y0 :: ys), (n0 :: ns) ++ [(i + k, Tree.node kids)]) [0, 1, 2, 3, 4, 5, 9] (by (repeat (first | exact trivial | refine seC rfl rfl ?_ | refine seY (n0 := 4) rfl rfl hg (by simp only [List.length_append, List.length_cons, List.length_nil]; omega) ?_))) ?_ rfl rfl (by dsimp only; omega) ⟨by dsimp only; omega, hstep⟩
                  dsimp only [lvO]
                  simp only [List.length_append, List.length_cons, List.length_nil, Nat.zero_add]
                  (repeat (first | exact trivial | refine shI (n0 := 4) (by assumption) rfl (by omega) rfl ?_ | refine shC rfl rfl ?_ | refine shR rfl (by first | rfl | (dsimp only; rw [tkm, List.map_append]; rfl)) (by first | exact cl_reach _ | exact cl_unr _) ?_))
        · have hiV : i < x.V := by omega
          have hkV : k = x.V - i := by omega
          have hY := hyl i _ hj hiV
          rw [← hkV, hlv] at hY
          cases ys with
          | nil =>
            cases ns with
            | nil =>
              repeat' (
               conv => whnf
               first
               | refine ifd (fun h => ?_) (fun h => ?_)
               | ((with_reducible refine pcI ?_); refine Val.pure (vPrefix _ _ (by omega)) (ler _ _) rfl rfl ?_)
               | ((with_reducible apply drT 9); rfl)
               | refine nfI ?_)
              all_goals (conv => whnf)
              all_goals (first | exact absurd (by assumption : (_ : Int) < _) (by omega) | skip)
              refine yldCallS 4 (Hc := [o0, o1, o2, o3]) (Y := lvO 4 [] []) (Y1 := [_]) hY (by simp; omega) (by simp) (.refl _) hin (.cons _ _ _ _ (.refl _) (.cons _ _ _ _ (.agg _ _ (.cons _ _ _ _ (.nils _) (.cons _ _ _ _ (.nils _) .nil)) rfl) .nil)) rfl ?_
              intro r H' σ O2 hs hσ hcase
              rcases hcase with ⟨rfl, hJ'⟩ | ⟨rfl, hQ'⟩
              · repeat' (
                 conv => whnf
                 first
                 | with_reducible refine ivW (by omega) (by omega) ?_)
                all_goals (conv => whnf)
                exact nx (i + 1, O2) σ (by have := take_len hσ; have := sits_len hs; (repeat (first | exact trivial | refine seC rfl rfl ?_ | refine seY rfl hσ hg (by dsimp only; omega) ?_))) hs.sub hs.nd hσ (by dsimp only; omega) ⟨hJ', by dsimp only; omega⟩
              · all_goals (conv => whnf)
                exact fin_in ⟨σ, O2, hs, hσ, rfl, hQ'⟩
            | cons n0 ns =>
              repeat' (
               conv => whnf
               first
               | refine ifd (fun h => ?_) (fun h => ?_)
               | ((with_reducible refine pcI ?_); refine Val.pure (vPrefix _ _ (by omega)) (ler _ _) rfl rfl ?_)
               | ((with_reducible apply drT 9); rfl)
               | refine nfI ?_)
              all_goals (conv => whnf)
              all_goals (first | exact absurd (by assumption : (_ : Int) < _) (by omega) | skip)
              refine yldCallS 4 (Hc := [o0, o1, o2, o3]) (Y := lvO 4 [] (n0 :: ns)) (Y1 := [_, .frz (.agg [.leaf, .agg [.leaf]]) ((n0 :: ns).map unrD)]) hY (by simp; omega) (by simp) (.step 5 (.agg [.leaf, .agg [.leaf]]) ((n0 :: ns).map unrD) rfl (cl_unr _) (.refl _)) hin (.cons _ _ _ _ (.refl _) (.cons _ _ _ _ (.agg _ _ (.cons _ _ _ _ (.nils _) (.cons _ _ _ _ (leRow rfl (by simp)) .nil)) rfl) .nil)) rfl ?_
              intro r H' σ O2 hs hσ hcase
              rcases hcase with ⟨rfl, hJ'⟩ | ⟨rfl, hQ'⟩
              · repeat' (
                 conv => whnf
                 first
                 | with_reducible refine ivW (by omega) (by omega) ?_)
                all_goals (conv => whnf)
                exact nx (i + 1, O2) σ (by have := take_len hσ; have := sits_len hs; (repeat (first | exact trivial | refine seC rfl rfl ?_ | refine seY rfl hσ hg (by dsimp only; omega) ?_))) hs.sub hs.nd hσ (by dsimp only; omega) ⟨hJ', by dsimp only; omega⟩
              · all_goals (conv => whnf)
                exact fin_in ⟨σ, O2, hs, hσ, rfl, hQ'⟩
          | cons y0 ys =>
            cases ns with
            | nil =>
              repeat' (
               conv => whnf
               first
               | refine ifd (fun h => ?_) (fun h => ?_)
               | ((with_reducible refine pcI ?_); refine Val.pure (vPrefix _ _ (by omega)) (ler _ _) rfl rfl ?_)
               | ((with_reducible apply drT 9); rfl)
               | refine nfI ?_)
              all_goals (conv => whnf)
              all_goals (first | exact absurd (by assumption : (_ : Int) < _) (by omega) | skip)
              refine yldCallS 4 (Hc := [o0, o1, o2, o3]) (Y := lvO 4 (y0 :: ys) []) (Y1 := [_, .frz (.agg [.leaf, .leaf]) ((y0 :: ys).map reachD)]) hY (by simp; omega) (by simp) (.step 5 (.agg [.leaf, .leaf]) ((y0 :: ys).map reachD) rfl (cl_reach _) (.refl _)) hin (.cons _ _ _ _ (.refl _) (.cons _ _ _ _ (.agg _ _ (.cons _ _ _ _ (leRow rfl (by simp)) (.cons _ _ _ _ (.nils _) .nil)) rfl) .nil)) rfl ?_
              intro r H' σ O2 hs hσ hcase
              rcases hcase with ⟨rfl, hJ'⟩ | ⟨rfl, hQ'⟩
              · repeat' (
                 conv => whnf
                 first
                 | with_reducible refine ivW (by omega) (by omega) ?_)
                all_goals (conv => whnf)
                exact nx (i + 1, O2) σ (by have := take_len hσ; have := sits_len hs; (repeat (first | exact trivial | refine seC rfl rfl ?_ | refine seY rfl hσ hg (by dsimp only; omega) ?_))) hs.sub hs.nd hσ (by dsimp only; omega) ⟨hJ', by dsimp only; omega⟩
              · all_goals (conv => whnf)
                exact fin_in ⟨σ, O2, hs, hσ, rfl, hQ'⟩
            | cons n0 ns =>
              repeat' (
               conv => whnf
               first
               | refine ifd (fun h => ?_) (fun h => ?_)
               | ((with_reducible refine pcI ?_); refine Val.pure (vPrefix _ _ (by omega)) (ler _ _) rfl rfl ?_)
               | ((with_reducible apply drT 9); rfl)
               | refine nfI ?_)
              all_goals (conv => whnf)
              all_goals (first | exact absurd (by assumption : (_ : Int) < _) (by omega) | skip)
              refine yldCallS 4 (Hc := [o0, o1, o2, o3]) (Y := lvO 4 (y0 :: ys) (n0 :: ns)) (Y1 := [_, .frz (.agg [.leaf, .leaf]) ((y0 :: ys).map reachD), .frz (.agg [.leaf, .agg [.leaf]]) ((n0 :: ns).map unrD)]) hY (by simp; omega) (by simp) (.step 5 (.agg [.leaf, .leaf]) ((y0 :: ys).map reachD) rfl (cl_reach _) (.step 6 (.agg [.leaf, .agg [.leaf]]) ((n0 :: ns).map unrD) rfl (cl_unr _) (.refl _))) hin (.cons _ _ _ _ (.refl _) (.cons _ _ _ _ (.agg _ _ (.cons _ _ _ _ (leRow rfl (by simp)) (.cons _ _ _ _ (leRow rfl (by simp)) .nil)) rfl) .nil)) rfl ?_
              intro r H' σ O2 hs hσ hcase
              rcases hcase with ⟨rfl, hJ'⟩ | ⟨rfl, hQ'⟩
              · repeat' (
                 conv => whnf
                 first
                 | with_reducible refine ivW (by omega) (by omega) ?_)
                all_goals (conv => whnf)
                exact nx (i + 1, O2) σ (by have := take_len hσ; have := sits_len hs; (repeat (first | exact trivial | refine seC rfl rfl ?_ | refine seY rfl hσ hg (by dsimp only; omega) ?_))) hs.sub hs.nd hσ (by dsimp only; omega) ⟨hJ', by dsimp only; omega⟩
              · all_goals (conv => whnf)
                exact fin_in ⟨σ, O2, hs, hσ, rfl, hQ'⟩
      · have hiV : i = x.V := by omega
        subst hiV
        exact fin_in ⟨List.range 4, [o0, o1, o2, o3], ⟨by have := subH_pre0 [o0, o1, o2, o3] [] hin; simpa using this, nodupS_range _, by simp⟩, rfl, rfl, hend _ hj⟩
    · have hi0 : inO 5 o0 = true := hin _ (by simp)
      have hi1 : inO 5 o1 = true := hin _ (by simp)
      have hi2 : inO 5 o2 = true := hin _ (by simp)
      have hi3 : inO 5 o3 = true := hin _ (by simp)
      have hi4 : inO 5 o4 = true := hin _ (by simp)
      repeat' (
       conv => whnf
       first
       | refine ifd (fun h => ?_) (fun h => ?_))
      all_goals (conv => whnf)
      · refine lpX (X := Nat × List (Nat × List Int) × List (Nat × Tree)) (fun y => [(0, .yld g), (1, .ref (.agg [.leaf, .leaf]) x.D), (3, iD i), (4, .ptr 5 []), (5, iD (i + y.1)), (11, iD x.V), (12, iD i)]) (fun y => [o0, o1, o2, o3, o4] ++ lvO 5 y.2.1 y.2.2) (fun y => i + y.1 ≤ x.V ∧ lvK x i y.1 = (y.2.1, y.2.2)) (fun y => x.V - i - y.1) ⟨_, nx0 (0, [], []) (by repeat (first | exact trivial | refine se0 rfl ?_)) rfl (Nat.lt_succ_self _) ⟨by dsimp only; omega, rfl⟩⟩ ?_
        rintro ⟨k, ys, ns⟩ ⟨hk, hlv⟩
        dsimp only at hk hlv ⊢
        have hlen := lvK_len x i k
        rw [hlv] at hlen
        dsimp only at hlen
        rcases Nat.lt_or_ge (i + k) x.V with hlt | hge
        · have hd := hdp i (i + k) (by omega) hlt
          have hpl := pre_len i (i + k)
          have hmp := vMap x x (preI i (i + k)) hx hx hx7 hx7 (pre_ne _ _) hd (by omega)
          have hpr := vProve x x (preI i (i + k)) hx hx hx7 hx7 hd (by omega)
          obtain ⟨ec, hec⟩ := prv_eq x x (preI i (i + k))
          rw [hec] at hpr
          cases hm : mapN x x (preI i (i + k)) with
          | some m =>
            rw [hm] at hmp
            have hstep : lvK x i (k + 1) = (ys ++ [(i + k, m)], ns) := by rw [lvK, hm, hlv]
            cases ys with
            | nil =>
              cases ns with
              | nil =>
                simp only [List.length_cons, List.length_nil] at hlen
                repeat' (
                 conv => whnf
                 first
                 | refine ifd (fun h => ?_) (fun h => ?_)
                 | with_reducible refine ivW (by omega) (by omega) ?_
                 | ((with_reducible refine pcI ?_); refine Val.pure hmp (ler _ _) rfl rfl ?_)
                 | ((with_reducible refine pcI ?_); refine Val.pure (vPrefix _ _ (by omega)) (ler _ _) rfl rfl ?_)
                 | ((with_reducible apply drT 9); rfl)
                 | ((with_reducible apply ob); ((first | rfl | assumption | omega | (unfold maxLen2; omega) | (dsimp only; omega) | (simp only [LN]; omega) | (simp; done) | (simp; omega))))
                 | refine nfI ?_)
                all_goals (conv => whnf)
                all_goals (first | exact side_out (by unfold maxLen2; simp; omega) | exact absurd (by assumption : ¬ _) (by omega) | skip)
                · refine nx (k + 1, [] ++ [(i + k, m)], []) [0, 1, 2, 3, 4, 5, 7] (by (repeat (first | exact trivial | refine seC rfl rfl ?_ | refine seY (n0 := 4) rfl rfl hg (by simp only [List.length_append, List.length_cons, List.length_nil]; omega) ?_))) ?_ rfl rfl (by dsimp only; omega) ⟨by dsimp only; omega, hstep⟩
                  dsimp only [lvO]
                  simp only [List.length_append, List.length_cons, List.length_nil, Nat.zero_add]
                  (repeat (first | exact trivial | refine shI (n0 := 5) (by assumption) rfl (by omega) rfl ?_ | refine shC rfl rfl ?_ | refine shR rfl (by first | rfl | (dsimp only; rw [tkm, List.map_append]; rfl)) (by first | exact cl_reach _ | exact cl_unr _) ?_))
              | cons n0 ns =>
                simp only [List.length_cons, List.length_nil] at hlen
                repeat' (
                 conv => whnf
                 first
                 | refine ifd (fun h => ?_) (fun h => ?_)
                 | with_reducible refine ivW (by omega) (by omega) ?_
                 | ((with_reducible refine pcI ?_); refine Val.pure hmp (ler _ _) rfl rfl ?_)
                 | ((with_reducible refine pcI ?_); refine Val.pure (vPrefix _ _ (by omega)) (ler _ _) rfl rfl ?_)
                 | ((with_reducible apply drT 9); rfl)
                 | ((with_reducible apply ob); ((first | rfl | assumption | omega | (unfold maxLen2; omega) | (dsimp only; omega) | (simp only [LN]; omega) | (simp; done) | (simp; omega))))
                 | refine nfI ?_)
                all_goals (conv => whnf)
                all_goals (first | exact side_out (by unfold maxLen2; simp; omega) | exact absurd (by assumption : ¬ _) (by omega) | skip)
                · refine nx (k + 1, [] ++ [(i + k, m)], (n0 :: ns)) [0, 1, 2, 3, 4, 5, 8, 6] (by (repeat (first | exact trivial | refine seC rfl rfl ?_ | refine seY (n0 := 4) rfl rfl hg (by simp only [List.length_append, List.length_cons, List.length_nil]; omega) ?_))) ?_ rfl rfl (by dsimp only; omega) ⟨by dsimp only; omega, hstep⟩
                  dsimp only [lvO]
                  simp only [List.length_append, List.length_cons, List.length_nil, Nat.zero_add]
                  (repeat (first | exact trivial | refine shI (n0 := 5) (by assumption) rfl (by omega) rfl ?_ | refine shC rfl rfl ?_ | refine shR rfl (by first | rfl | (dsimp only; rw [tkm, List.map_append]; rfl)) (by first | exact cl_reach _ | exact cl_unr _) ?_))
            | cons y0 ys =>
              cases ns with
              | nil =>
                simp only [List.length_cons, List.length_nil] at hlen
                repeat' (
                 conv => whnf
                 first
                 | refine ifd (fun h => ?_) (fun h => ?_)
                 | with_reducible refine ivW (by omega) (by omega) ?_
                 | ((with_reducible refine pcI ?_); refine Val.pure hmp (ler _ _) rfl rfl ?_)
                 | ((with_reducible refine pcI ?_); refine Val.pure (vPrefix _ _ (by omega)) (ler _ _) rfl rfl ?_)
                 | ((with_reducible apply drT 9); rfl)
                 | ((with_reducible apply ob); ((first | rfl | assumption | omega | (unfold maxLen2; omega) | (dsimp only; omega) | (simp only [LN]; omega) | (simp; done) | (simp; omega))))
                 | refine nfI ?_)
                all_goals (conv => whnf)
                all_goals (first | exact side_out (by unfold maxLen2; simp; omega) | exact absurd (by assumption : ¬ _) (by omega) | skip)
                · refine nx (k + 1, (y0 :: ys) ++ [(i + k, m)], []) [0, 1, 2, 3, 4, 5, 8] (by (repeat (first | exact trivial | refine seC rfl rfl ?_ | refine seY (n0 := 4) rfl rfl hg (by simp only [List.length_append, List.length_cons, List.length_nil]; omega) ?_))) ?_ rfl rfl (by dsimp only; omega) ⟨by dsimp only; omega, hstep⟩
                  dsimp only [lvO]
                  simp only [List.length_append, List.length_cons, List.length_nil, Nat.zero_add]
                  (repeat (first | exact trivial | refine shI (n0 := 5) (by assumption) rfl (by omega) rfl ?_ | refine shC rfl rfl ?_ | refine shR rfl (by first | rfl | (dsimp only; rw [tkm, List.map_append]; rfl)) (by first | exact cl_reach _ | exact cl_unr _) ?_))
              | cons n0 ns =>
                simp only [List.length_cons, List.length_nil] at hlen
                repeat' (
                 conv => whnf
                 first
                 | refine ifd (fun h => ?_) (fun h => ?_)
                 | with_reducible refine ivW (by omega) (by omega) ?_
                 | ((with_reducible refine pcI ?_); refine Val.pure hmp (ler _ _) rfl rfl ?_)
                 | ((with_reducible refine pcI ?_); refine Val.pure (vPrefix _ _ (by omega)) (ler _ _) rfl rfl ?_)
                 | ((with_reducible apply drT 9); rfl)
                 | ((with_reducible apply ob); ((first | rfl | assumption | omega | (unfold maxLen2; omega) | (dsimp only; omega) | (simp only [LN]; omega) | (simp; done) | (simp; omega))))
                 | refine nfI ?_)
                all_goals (conv => whnf)
                all_goals (first | exact side_out (by unfold maxLen2; simp; omega) | exact absurd (by assumption : ¬ _) (by omega) | skip)
                · refine nx (k + 1, (y0 :: ys) ++ [(i + k, m)], (n0 :: ns)) [0, 1, 2, 3, 4, 5, 9, 7] (by (repeat (first | exact trivial | refine seC rfl rfl ?_ | refine seY (n0 := 4) rfl rfl hg (by simp only [List.length_append, List.length_cons, List.length_nil]; omega) ?_))) ?_ rfl rfl (by dsimp only; omega) ⟨by dsimp only; omega, hstep⟩
                  dsimp only [lvO]
                  simp only [List.length_append, List.length_cons, List.length_nil, Nat.zero_add]
                  (repeat (first | exact trivial | refine shI (n0 := 5) (by assumption) rfl (by omega) rfl ?_ | refine shC rfl rfl ?_ | refine shR rfl (by first | rfl | (dsimp only; rw [tkm, List.map_append]; rfl)) (by first | exact cl_reach _ | exact cl_unr _) ?_))
          | none =>
            rw [hm] at hmp
            have hstep : lvK x i (k + 1) = (ys, ns ++ [(i + k, prvT x x (preI i (i + k)))]) := by rw [lvK, hm, hlv]
            cases hT : prvT x x (preI i (i + k)) with
            | node kids =>
            rw [hT] at hpr hstep
            cases ys with
            | nil =>
              cases ns with
              | nil =>
                simp only [List.length_cons, List.length_nil] at hlen
                repeat' (
                 conv => whnf
                 first
                 | refine ifd (fun h => ?_) (fun h => ?_)
                 | with_reducible refine ivW (by omega) (by omega) ?_
                 | ((with_reducible refine pcI ?_); refine Val.pure hmp (ler _ _) rfl rfl ?_)
                 | ((with_reducible refine pcI ?_); refine Val.pure hpr (ler _ _) rfl rfl ?_)
                 | ((with_reducible refine pcI ?_); refine Val.pure (vPrefix _ _ (by omega)) (ler _ _) rfl rfl ?_)
                 | ((with_reducible apply drT 9); rfl)
                 | ((with_reducible apply drT 10); rfl)
                 | ((with_reducible apply ob); ((first | rfl | assumption | omega | (unfold maxLen2; omega) | (dsimp only; omega) | (simp only [LN]; omega) | (simp; done) | (simp; omega))))
                 | refine nfI ?_)
                all_goals (conv => whnf)
                all_goals (first | exact side_out (by unfold maxLen2; simp; omega) | exact absurd (by assumption : ¬ _) (by omega) | skip)
                · refine nx (k + 1, [], [] ++ [(i + k, Tree.node kids)]) [0, 1, 2, 3, 4, 5, 8] (by (repeat (first | exact trivial | refine seC rfl rfl ?_ | refine seY (n0 := 4) rfl rfl hg (by simp only [List.length_append, List.length_cons, List.length_nil]; omega) ?_))) ?_ rfl rfl (by dsimp only; omega) ⟨by dsimp only; omega, hstep⟩
                  dsimp only [lvO]
                  simp only [List.length_append, List.length_cons, List.length_nil, Nat.zero_add]
                  (repeat (first | exact trivial | refine shI (n0 := 5) (by assumption) rfl (by omega) rfl ?_ | refine shC rfl rfl ?_ | refine shR rfl (by first | rfl | (dsimp only; rw [tkm, List.map_append]; rfl)) (by first | exact cl_reach _ | exact cl_unr _) ?_))
              | cons n0 ns =>
                simp only [List.length_cons, List.length_nil] at hlen
                repeat' (
                 conv => whnf
                 first
                 | refine ifd (fun h => ?_) (fun h => ?_)
                 | with_reducible refine ivW (by omega) (by omega) ?_
                 | ((with_reducible refine pcI ?_); refine Val.pure hmp (ler _ _) rfl rfl ?_)
                 | ((with_reducible refine pcI ?_); refine Val.pure hpr (ler _ _) rfl rfl ?_)
                 | ((with_reducible refine pcI ?_); refine Val.pure (vPrefix _ _ (by omega)) (ler _ _) rfl rfl ?_)
                 | ((with_reducible apply drT 9); rfl)
                 | ((with_reducible apply drT 10); rfl)
                 | ((with_reducible apply ob); ((first | rfl | assumption | omega | (unfold maxLen2; omega) | (dsimp only; omega) | (simp only [LN]; omega) | (simp; done) | (simp; omega))))
                 | refine nfI ?_)
                all_goals (conv => whnf)
                all_goals (first | exact side_out (by unfold maxLen2; simp; omega) | exact absurd (by assumption : ¬ _) (by omega) | skip)
                · refine nx (k + 1, [], (n0 :: ns) ++ [(i + k, Tree.node kids)]) [0, 1, 2, 3, 4, 5, 9] (by (repeat (first | exact trivial | refine seC rfl rfl ?_ | refine seY (n0 := 4) rfl rfl hg (by simp only [List.length_append, List.length_cons, List.length_nil]; omega) ?_))) ?_ rfl rfl (by dsimp only; omega) ⟨by dsimp only; omega, hstep⟩
                  dsimp only [lvO]
                  simp only [List.length_append, List.length_cons, List.length_nil, Nat.zero_add]
                  (repeat (first | exact trivial | refine shI (n0 := 5) (by assumption) rfl (by omega) rfl ?_ | refine shC rfl rfl ?_ | refine shR rfl (by first | rfl | (dsimp only; rw [tkm, List.map_append]; rfl)) (by first | exact cl_reach _ | exact cl_unr _) ?_))
            | cons y0 ys =>
              cases ns with
              | nil =>
                simp only [List.length_cons, List.length_nil] at hlen
                repeat' (
                 conv => whnf
                 first
                 | refine ifd (fun h => ?_) (fun h => ?_)
                 | with_reducible refine ivW (by omega) (by omega) ?_
                 | ((with_reducible refine pcI ?_); refine Val.pure hmp (ler _ _) rfl rfl ?_)
                 | ((with_reducible refine pcI ?_); refine Val.pure hpr (ler _ _) rfl rfl ?_)
                 | ((with_reducible refine pcI ?_); refine Val.pure (vPrefix _ _ (by omega)) (ler _ _) rfl rfl ?_)
                 | ((with_reducible apply drT 9); rfl)
                 | ((with_reducible apply drT 10); rfl)
                 | ((with_reducible apply ob); ((first | rfl | assumption | omega | (unfold maxLen2; omega) | (dsimp only; omega) | (simp only [LN]; omega) | (simp; done) | (simp; omega))))
                 | refine nfI ?_)
                all_goals (conv => whnf)
                all_goals (first | exact side_out (by unfold maxLen2; simp; omega) | exact absurd (by assumption : ¬ _) (by omega) | skip)
                · refine nx (k + 1, (y0 :: ys), [] ++ [(i + k, Tree.node kids)]) [0, 1, 2, 3, 4, 5, 6, 9] (by (repeat (first | exact trivial | refine seC rfl rfl ?_ | refine seY (n0 := 4) rfl rfl hg (by simp only [List.length_append, List.length_cons, List.length_nil]; omega) ?_))) ?_ rfl rfl (by dsimp only; omega) ⟨by dsimp only; omega, hstep⟩
                  dsimp only [lvO]
                  simp only [List.length_append, List.length_cons, List.length_nil, Nat.zero_add]
                  (repeat (first | exact trivial | refine shI (n0 := 5) (by assumption) rfl (by omega) rfl ?_ | refine shC rfl rfl ?_ | refine shR rfl (by first | rfl | (dsimp only; rw [tkm, List.map_append]; rfl)) (by first | exact cl_reach _ | exact cl_unr _) ?_))
              | cons n0 ns =>
                simp only [List.length_cons, List.length_nil] at hlen
                repeat' (
                 conv => whnf
                 first
                 | refine ifd (fun h => ?_) (fun h => ?_)
                 | with_reducible refine ivW (by omega) (by omega) ?_
                 | ((with_reducible refine pcI ?_); refine Val.pure hmp (ler _ _) rfl rfl ?_)
                 | ((with_reducible refine pcI ?_); refine Val.pure hpr (ler _ _) rfl rfl ?_)
                 | ((with_reducible refine pcI ?_); refine Val.pure (vPrefix _ _ (by omega)) (ler _ _) rfl rfl ?_)
                 | ((with_reducible apply drT 9); rfl)
                 | ((with_reducible apply drT 10); rfl)
                 | ((with_reducible apply ob); ((first | rfl | assumption | omega | (unfold maxLen2; omega) | (dsimp only; omega) | (simp only [LN]; omega) | (simp; done) | (simp; omega))))
                 | refine nfI ?_)
                all_goals (conv => whnf)
                all_goals (first | exact side_out (by unfold maxLen2; simp; omega) | exact absurd (by assumption : ¬ _) (by omega) | skip)
                · refine nx (k + 1, (y0 :: ys), (n0 :: ns) ++ [(i + k, Tree.node kids)]) [0, 1, 2, 3, 4, 5, 6, 10] (by (repeat (first | exact trivial | refine seC rfl rfl ?_ | refine seY (n0 := 4) rfl rfl hg (by simp only [List.length_append, List.length_cons, List.length_nil]; omega) ?_))) ?_ rfl rfl (by dsimp only; omega) ⟨by dsimp only; omega, hstep⟩
                  dsimp only [lvO]
                  simp only [List.length_append, List.length_cons, List.length_nil, Nat.zero_add]
                  (repeat (first | exact trivial | refine shI (n0 := 5) (by assumption) rfl (by omega) rfl ?_ | refine shC rfl rfl ?_ | refine shR rfl (by first | rfl | (dsimp only; rw [tkm, List.map_append]; rfl)) (by first | exact cl_reach _ | exact cl_unr _) ?_))
        · have hiV : i < x.V := by omega
          have hkV : k = x.V - i := by omega
          have hY := hyl i _ hj hiV
          rw [← hkV, hlv] at hY
          cases ys with
          | nil =>
            cases ns with
            | nil =>
              repeat' (
               conv => whnf
               first
               | refine ifd (fun h => ?_) (fun h => ?_)
               | ((with_reducible refine pcI ?_); refine Val.pure (vPrefix _ _ (by omega)) (ler _ _) rfl rfl ?_)
               | ((with_reducible apply drT 9); rfl)
               | refine nfI ?_)
              all_goals (conv => whnf)
              all_goals (first | exact absurd (by assumption : (_ : Int) < _) (by omega) | skip)
              refine yldCallS 4 (Hc := [o0, o1, o2, o3, o4]) (Y := lvO 5 [] []) (Y1 := [_]) hY (by simp; omega) (by simp) (.refl _) hin (.cons _ _ _ _ (.refl _) (.cons _ _ _ _ (.agg _ _ (.cons _ _ _ _ (.nils _) (.cons _ _ _ _ (.nils _) .nil)) rfl) .nil)) rfl ?_
              intro r H' σ O2 hs hσ hcase
              rcases hcase with ⟨rfl, hJ'⟩ | ⟨rfl, hQ'⟩
              · repeat' (
                 conv => whnf
                 first
                 | with_reducible refine ivW (by omega) (by omega) ?_)
                all_goals (conv => whnf)
                exact nx (i + 1, O2) σ (by have := take_len hσ; have := sits_len hs; (repeat (first | exact trivial | refine seC rfl rfl ?_ | refine seY rfl hσ hg (by dsimp only; omega) ?_))) hs.sub hs.nd hσ (by dsimp only; omega) ⟨hJ', by dsimp only; omega⟩
              · all_goals (conv => whnf)
                exact fin_in ⟨σ, O2, hs, hσ, rfl, hQ'⟩
            | cons n0 ns =>
              repeat' (
               conv => whnf
               first
               | refine ifd (fun h => ?_) (fun h => ?_)
               | ((with_reducible refine pcI ?_); refine Val.pure (vPrefix _ _ (by omega)) (ler _ _) rfl rfl ?_)
               | ((with_reducible apply drT 9); rfl)
               | refine nfI ?_)
              all_goals (conv => whnf)
              all_goals (first | exact absurd (by assumption : (_ : Int) < _) (by omega) | skip)
              refine yldCallS 4 (Hc := [o0, o1, o2, o3, o4]) (Y := lvO 5 [] (n0 :: ns)) (Y1 := [_, .frz (.agg [.leaf, .agg [.leaf]]) ((n0 :: ns).map unrD)]) hY (by simp; omega) (by simp) (.step 6 (.agg [.leaf, .agg [.leaf]]) ((n0 :: ns).map unrD) rfl (cl_unr _) (.refl _)) hin (.cons _ _ _ _ (.refl _) (.cons _ _ _ _ (.agg _ _ (.cons _ _ _ _ (.nils _) (.cons _ _ _ _ (leRow rfl (by simp)) .nil)) rfl) .nil)) rfl ?_
              intro r H' σ O2 hs hσ hcase
              rcases hcase with ⟨rfl, hJ'⟩ | ⟨rfl, hQ'⟩
              · repeat' (
                 conv => whnf
                 first
                 | with_reducible refine ivW (by omega) (by omega) ?_)
                all_goals (conv => whnf)
                exact nx (i + 1, O2) σ (by have := take_len hσ; have := sits_len hs; (repeat (first | exact trivial | refine seC rfl rfl ?_ | refine seY rfl hσ hg (by dsimp only; omega) ?_))) hs.sub hs.nd hσ (by dsimp only; omega) ⟨hJ', by dsimp only; omega⟩
              · all_goals (conv => whnf)
                exact fin_in ⟨σ, O2, hs, hσ, rfl, hQ'⟩
          | cons y0 ys =>
            cases ns with
            | nil =>
              repeat' (
               conv => whnf
               first
               | refine ifd (fun h => ?_) (fun h => ?_)
               | ((with_reducible refine pcI ?_); refine Val.pure (vPrefix _ _ (by omega)) (ler _ _) rfl rfl ?_)
               | ((with_reducible apply drT 9); rfl)
               | refine nfI ?_)
              all_goals (conv => whnf)
              all_goals (first | exact absurd (by assumption : (_ : Int) < _) (by omega) | skip)
              refine yldCallS 4 (Hc := [o0, o1, o2, o3, o4]) (Y := lvO 5 (y0 :: ys) []) (Y1 := [_, .frz (.agg [.leaf, .leaf]) ((y0 :: ys).map reachD)]) hY (by simp; omega) (by simp) (.step 6 (.agg [.leaf, .leaf]) ((y0 :: ys).map reachD) rfl (cl_reach _) (.refl _)) hin (.cons _ _ _ _ (.refl _) (.cons _ _ _ _ (.agg _ _ (.cons _ _ _ _ (leRow rfl (by simp)) (.cons _ _ _ _ (.nils _) .nil)) rfl) .nil)) rfl ?_
              intro r H' σ O2 hs hσ hcase
              rcases hcase with ⟨rfl, hJ'⟩ | ⟨rfl, hQ'⟩
              · repeat' (
                 conv => whnf
                 first
                 | with_reducible refine ivW (by omega) (by omega) ?_)
                all_goals (conv => whnf)
                exact nx (i + 1, O2) σ (by have := take_len hσ; have := sits_len hs; (repeat (first | exact trivial | refine seC rfl rfl ?_ | refine seY rfl hσ hg (by dsimp only; omega) ?_))) hs.sub hs.nd hσ (by dsimp only; omega) ⟨hJ', by dsimp only; omega⟩
              · all_goals (conv => whnf)
                exact fin_in ⟨σ, O2, hs, hσ, rfl, hQ'⟩
            | cons n0 ns =>
              repeat' (
               conv => whnf
               first
               | refine ifd (fun h => ?_) (fun h => ?_)
               | ((with_reducible refine pcI ?_); refine Val.pure (vPrefix _ _ (by omega)) (ler _ _) rfl rfl ?_)
               | ((with_reducible apply drT 9); rfl)
               | refine nfI ?_)
              all_goals (conv => whnf)
              all_goals (first | exact absurd (by assumption : (_ : Int) < _) (by omega) | skip)
              refine yldCallS 4 (Hc := [o0, o1, o2, o3, o4]) (Y := lvO 5 (y0 :: ys) (n0 :: ns)) (Y1 := [_, .frz (.agg [.leaf, .leaf]) ((y0 :: ys).map reachD), .frz (.agg [.leaf, .agg [.leaf]]) ((n0 :: ns).map unrD)]) hY (by simp; omega) (by simp) (.step 6 (.agg [.leaf, .leaf]) ((y0 :: ys).map reachD) rfl (cl_reach _) (.step 7 (.agg [.leaf, .agg [.leaf]]) ((n0 :: ns).map unrD) rfl (cl_unr _) (.refl _))) hin (.cons _ _ _ _ (.refl _) (.cons _ _ _ _ (.agg _ _ (.cons _ _ _ _ (leRow rfl (by simp)) (.cons _ _ _ _ (leRow rfl (by simp)) .nil)) rfl) .nil)) rfl ?_
              intro r H' σ O2 hs hσ hcase
              rcases hcase with ⟨rfl, hJ'⟩ | ⟨rfl, hQ'⟩
              · repeat' (
                 conv => whnf
                 first
                 | with_reducible refine ivW (by omega) (by omega) ?_)
                all_goals (conv => whnf)
                exact nx (i + 1, O2) σ (by have := take_len hσ; have := sits_len hs; (repeat (first | exact trivial | refine seC rfl rfl ?_ | refine seY rfl hσ hg (by dsimp only; omega) ?_))) hs.sub hs.nd hσ (by dsimp only; omega) ⟨hJ', by dsimp only; omega⟩
              · all_goals (conv => whnf)
                exact fin_in ⟨σ, O2, hs, hσ, rfl, hQ'⟩
      · have hiV : i = x.V := by omega
        subst hiV
        exact fin_in ⟨List.range 5, [o0, o1, o2, o3, o4], ⟨by have := subH_pre0 [o0, o1, o2, o3, o4] [] hin; simpa using this, nodupS_range _, by simp⟩, rfl, rfl, hend _ hj⟩
  · intro r H' hq
    obtain ⟨σ, O2, hs, hσ, rfl, hq⟩ := fin_out hq
    refine ⟨H', O2, σ, .tuple [], .refl _, hs.sub, hs.nd, by have := take_len hσ; have := sits_len hs; simp; omega, fun i hi => .inl (take_get hσ hi), rfl, .refl _, hq⟩
end Go.Proofs.YthfcfdlbnfcboaaDoor.Pw



set_option linter.unusedVariables false
set_option linter.unusedSimpArgs false
set_option maxHeartbeats 1000000
set_option maxRecDepth 10000
namespace Go.Proofs.YthfcfdlbnfcboaaDoor.Pw
open Go
def ordK (x : Inc) : Nat → Nat
  | 0 => 1
  | k + 1 => ordK x k * (lvK x k (x.V - k)).1.length
theorem ordK_le (x : Inc) (hx7 : x.V ≤ 7) : ∀ k, k ≤ x.V → ordK x k ≤ 7 ^ k
  | 0, _ => Nat.le_refl _
  | k + 1, h => by
    have h1 := ordK_le x hx7 k (by omega)
    have h2 := lvK_len x k (x.V - k)
    have h3 : (lvK x k (x.V - k)).1.length ≤ 7 := by omega
    rw [ordK, Nat.pow_succ]
    exact Nat.mul_le_mul h1 h3
theorem pre_dif (i j V : Nat) (hij : i ≤ j) (hj : j < V) : Dif (preI i j) V := by
  have hm : ∀ x ∈ oneI i, 0 ≤ x ∧ x < (i : Int) := by
    intro x hx
    simp only [oneI, natsI, List.mem_map, List.mem_range] at hx
    obtain ⟨n, hn, rfl⟩ := hx
    omega
  refine ⟨fun x hx => ?_, ?_⟩
  · rcases List.mem_append.1 hx with h | h
    · have := hm x h; omega
    · simp at h; omega
  · refine List.nodup_append.2 ⟨?_, by simp, ?_⟩
    · unfold oneI natsI
      exact List.Pairwise.map _ (fun a b (hab : a ≠ b) => by intro e; exact hab (by omega)) List.nodup_range
    · intro a ha b hb
      have := hm a ha
      simp at hb
      omega
theorem itLevSF3 (x : Inc) (hx : x.Ok) (hx7 : x.V ≤ 7) (g : Nat) (hg : g < 3) {H0 : List Ob} (lp a b : Ob) (hH : H0 = [a, b, lp]) (J : Ob → Nat → List Ob → Prop) (Q : D → List Ob → Prop)
    (hJ : ∀ k H, J lp k H → ((∃ o0 o1 o2, H = [o0, o1, o2]) ∨ (∃ o0 o1 o2 o3, H = [o0, o1, o2, o3])) ∧ ∀ o ∈ H, inO H.length o = true)
    (hyl : ∀ k H, J lp k H → k < x.V → YC Tryd.prog g [iD k, lvlD (lvK x k (x.V - k))] H (fun r H' => Fin (clD r = true ∧ ∃ σ O2, Sits H' σ O2 ∧ σ.take 3 = List.range 3 ∧ ((r = .bool true ∧ J lp (k + 1) O2) ∨ (r = .bool false ∧ Q (.tuple []) O2)))))
    (hend : ∀ H, J lp x.V H → Q (.tuple []) H) (h0 : J lp 0 [a, b, lp]) :
    HC Tryd.prog 76 [.yld g, .ref (.agg [.leaf, .leaf]) x.D] H0 Q :=
  itLevS3 x hx hx7 g hg (J lp) Q (fun i j h1 h2 => pre_dif i j x.V h1 h2) hJ hyl hend H0 ⟨a, b, lp, hH⟩ (by rw [hH]; exact h0)
theorem vOrder (x : Inc) (hx : x.Ok) (hx7 : x.V ≤ 7) : Val Tryd.prog 45 [x.D] (fun r => r = .tuple [iD (ordK x x.V), .int .i64 0]) := by
  have hv := hx.v
  refine Val.ofV ?_
  refine hc_ofS (okc Tryd.f45.ntmps 0) (fn := Tryd.f45) (cd := _) rfl rfl rfl rfl rfl rfl (fun hbd => ?_)
  repeat' (
   conv => whnf
   first
   | refine ifd (fun h => ?_) (fun h => ?_)
   | ((with_reducible refine hcI ?_); refine Val.call (vLevels _) (.refl _) (ler _ _) rfl ?_; rintro r rfl))
  all_goals (conv => whnf)
  · exact absurd h (by omega)
  refine itLevSF3 x hx hx7 2 (by omega) _ (.var x.D) (.var (iD 1)) rfl (fun lp k H => H = [.var x.D, .var (iD (ordK x k)), lp]) _ ?_ ?_ ?_ rfl
  · rintro k H rfl
    exact ⟨.inl ⟨_, _, _, rfl⟩, inAll rfl⟩
  · rintro k H rfl hk
    have hb : ordK x (k + 1) < 9223372036854775808 := by
      have h1 := ordK_le x hx7 (k + 1) (by omega)
      have h2 : 7 ^ (k + 1) ≤ 7 ^ 7 := Nat.pow_le_pow_right (by omega) (by omega)
      have h3 : 7 ^ 7 = 823543 := by decide
      omega
    have he : ordK x k * ((lvK x k (x.V - k)).1.map reachD).length = ordK x (k + 1) := by rw [List.length_map, ordK]
    have hi : iD (ordK x (k + 1)) = .int .i64 ((ordK x k : Int) * (((lvK x k (x.V - k)).1.map reachD).length : Int)) := by
      rw [← he]; show D.int _ _ = _; rw [Int.natCast_mul]
    refine yc_intro (okc Tryd.f45.ntmps 3) rfl rfl rfl rfl rfl ?_
    repeat' (
     conv => whnf
     first
     | with_reducible refine ivW (by omega) (by omega) ?_)
    all_goals (conv => whnf)
    exact fin_in ⟨rfl, [0, 1, 2], [.var x.D, .var (iD (ordK x (k + 1))), _], ⟨shC rfl rfl (shC (by rw [hi]; rfl) rfl (shC rfl rfl trivial)), rfl, by simp⟩, rfl, .inl ⟨rfl, rfl⟩⟩
  · rintro H rfl
    conv => whnf
    exact fC rfl rfl
end Go.Proofs.YthfcfdlbnfcboaaDoor.Pw



set_option linter.unusedVariables false
set_option linter.unusedSimpArgs false
set_option maxHeartbeats 1000000
set_option maxRecDepth 10000
namespace Go.Proofs.YthfcfdlbnfcboaaDoor.Pw
open Go
theorem itLevSF4 (x : Inc) (hx : x.Ok) (hx7 : x.V ≤ 7) (g : Nat) (hg : g < 4) {H0 : List Ob} (lp a b c : Ob) (hH : H0 = [a, b, c, lp]) (J : Ob → Nat → List Ob → Prop) (Q : D → List Ob → Prop)
    (hJ : ∀ k H, J lp k H → ((∃ o0 o1 o2 o3, H = [o0, o1, o2, o3]) ∨ (∃ o0 o1 o2 o3 o4, H = [o0, o1, o2, o3, o4])) ∧ ∀ o ∈ H, inO H.length o = true)
    (hyl : ∀ k H, J lp k H → k < x.V → YC Tryd.prog g [iD k, lvlD (lvK x k (x.V - k))] H (fun r H' => Fin (clD r = true ∧ ∃ σ O2, Sits H' σ O2 ∧ σ.take 4 = List.range 4 ∧ ((r = .bool true ∧ J lp (k + 1) O2) ∨ (r = .bool false ∧ Q (.tuple []) O2)))))
    (hend : ∀ H, J lp x.V H → Q (.tuple []) H) (h0 : J lp 0 [a, b, c, lp]) :
    HC Tryd.prog 76 [.yld g, .ref (.agg [.leaf, .leaf]) x.D] H0 Q :=
  itLevS4 x hx hx7 g hg (J lp) Q (fun i j h1 h2 => pre_dif i j x.V h1 h2) hJ hyl hend H0 ⟨a, b, c, lp, hH⟩ (by rw [hH]; exact h0)
def proofL (x : Inc) (k : Nat) : List D := (List.range k).map fun i => lvlD (lvK x i (x.V - i))
theorem proofL_len (x : Inc) (k : Nat) : (proofL x k).length = k := by simp [proofL]
theorem proofL_cl (x : Inc) (k : Nat) : clDs (proofL x k) = true := cl_map (fun i => rfl) _
theorem proofL_snoc (x : Inc) (k : Nat) : proofL x (k + 1) = proofL x k ++ [lvlD (lvK x k (x.V - k))] := by simp [proofL, List.range_succ]
def prfD (x : Inc) : D := .agg [.list false (.agg [.leaf, .leaf]) (proofL x x.V)]
theorem vGProve (x : Inc) (hx : x.Ok) (hx7 : x.V ≤ 7) : Val Tryd.prog 39 [x.D] (fun r => r = .tuple [prfD x, .int .i64 0]) := by
  have hv := hx.v
  have hv1 := hx.v1
  refine Val.ofV ?_
  refine hc_ofS (okc Tryd.f39.ntmps 0) (fn := Tryd.f39) (cd := _) rfl rfl rfl rfl rfl rfl (fun hbd => ?_)
  repeat' (
   conv => whnf
   first
   | refine ifd (fun h => ?_) (fun h => ?_)
   | ((with_reducible refine hcI ?_); refine Val.call (vLevels _) (.refl _) (ler _ _) rfl ?_; rintro r rfl))
  all_goals (conv => whnf)
  · exact absurd h (by omega)
  refine itLevSF4 x hx hx7 3 (by omega) _ (.var x.D) (.var (.agg [.nils])) (.var (.agg [.nils])) rfl
    (fun lp k H => (k = 0 ∧ H = [.var x.D, .var (.agg [.nils]), .var (.agg [.nils]), lp]) ∨ (0 < k ∧ H = [.var x.D, .var (.agg [.nils]), .var (.agg [.sl 4 0 k]), lp, .row (.agg [.leaf, .leaf]) (proofL x k)])) _ ?_ ?_ ?_ (.inl ⟨rfl, rfl⟩)
  · rintro k H (⟨rfl, rfl⟩ | ⟨hk0, rfl⟩)
    · exact ⟨.inl ⟨_, _, _, _, rfl⟩, inAll rfl⟩
    · refine ⟨.inr ⟨_, _, _, _, _, rfl⟩, ?_⟩
      intro o ho
      simp only [List.mem_cons, List.not_mem_nil, or_false] at ho
      rcases ho with rfl | rfl | rfl | rfl | rfl <;> first | rfl | exact in_cls _ _ (proofL_cl x k)
  · rintro k H (⟨rfl, rfl⟩ | ⟨hk0, rfl⟩) hk
    · refine yc_intro (okc Tryd.f39.ntmps 4) rfl rfl rfl rfl rfl ?_
      repeat' (
       conv => whnf
       first
       | ((with_reducible apply ob); ((first | rfl | assumption | omega | (unfold maxLen2; omega) | (dsimp only; omega) | (simp only [LN]; omega) | (simp; done) | (simp; omega)))))
      all_goals (conv => whnf)
      refine fin_in ⟨rfl, [0, 1, 2, 3, 6], _, ?_, rfl, .inl ⟨rfl, .inr ⟨by omega, rfl⟩⟩⟩
      exact ⟨shC rfl rfl (shC rfl rfl (shC rfl rfl (shC rfl rfl (shR rfl (by rw [proofL_snoc]; rfl) (proofL_cl _ _) trivial)))), rfl, by simp⟩
    · have hkk := proofL_len x k
      refine yc_intro (okc Tryd.f39.ntmps 5) rfl rfl rfl rfl rfl ?_
      repeat' (
       conv => whnf
       first
       | ((with_reducible apply ob); ((first | rfl | assumption | omega | (unfold maxLen2; omega) | (dsimp only; omega) | (simp only [LN]; omega) | (simp; done) | (simp; omega)))))
      all_goals (conv => whnf)
      refine fin_in ⟨rfl, [0, 1, 2, 3, 7], _, ?_, rfl, .inl ⟨rfl, .inr ⟨by omega, rfl⟩⟩⟩
      exact ⟨shC rfl rfl (shC rfl rfl (shC rfl rfl (shC rfl rfl (shR rfl (by rw [proofL_snoc]; show List.take k (List.drop 0 (proofL x k)) ++ [_] = _; rw [List.drop_zero, List.take_of_length_le (by omega)]; rfl) (proofL_cl _ _) trivial)))), rfl, by simp⟩
  · rintro H (⟨h0, rfl⟩ | ⟨hk0, rfl⟩)
    · omega
    · conv => whnf
      refine fin_in ⟨_, .tuple [prfD x, .int .i64 0], .step 4 (.agg [.leaf, .leaf]) (proofL x x.V) rfl (proofL_cl _ _) (.refl _), .tuple _ _ (.cons _ _ _ _ (.agg _ _ (.cons _ _ _ _ (leRow rfl (proofL_len _ _)) .nil) rfl) (.cons _ _ _ _ (.refl _) .nil)), rfl, rfl⟩
end Go.Proofs.YthfcfdlbnfcboaaDoor.Pw



set_option linter.unusedVariables false
set_option linter.unusedSimpArgs false
set_option maxHeartbeats 1000000
set_option maxRecDepth 10000
namespace Go.Proofs.YthfcfdlbnfcboaaDoor.Pw
open Go
def reachB (x : Inc) (i : Nat) (j : Int) (m : List Int) : Bool :=
  isG x m && decide (m.take i = (preI (x.V - 1) (x.V - 1)).take i) && decide (m.getD i 0 = j) && (decide (j ≠ i) || decide (m = preI (x.V - 1) (x.V - 1)))
theorem vCheck1 (x : Inc) (i : Nat) (j : Int) (m : List Int) (hx : x.Ok) (hb : ∀ s ∈ x.B, ∀ p ∈ bitsL s, p < x.V) (hi : i < x.V) :
    Val Tryd.prog 70 [iD i, .agg [.int .i64 j, intsD m], .ref (.agg [.leaf, .leaf]) x.D, .ref .leaf (intsD (preI (x.V - 1) (x.V - 1)))] (fun r => r = .bool (reachB x i j m)) := by
  have hm0 := intsL_len m
  have hv := hx.v
  have hv1 := hx.v1
  have hpl := pre_len (x.V - 1) (x.V - 1)
  have hp0 := intsL_len (preI (x.V - 1) (x.V - 1))
  refine Val.ofV ?_
  refine hc_ofS (okc Tryd.f70.ntmps 0) (fn := Tryd.f70) (cd := _) rfl rfl rfl rfl rfl rfl (fun hbd => ?_)
  have hIs := vIs x m (by omega) hx.b hx.n hb
  cases hg : isG x m with
  | false =>
    rw [hg] at hIs
    repeat' (
     conv => whnf
     first
     | ((with_reducible refine pcI ?_); refine Val.pure hIs (ler _ _) rfl rfl ?_)
     | ((with_reducible apply drT 33); rfl))
    all_goals (conv => whnf)
    exact fC rfl (by simp [reachB, hg]; rfl)
  | true =>
    rw [hg] at hIs
    have hml : m.length = x.V := by
      unfold isG at hg
      exact (of_decide_eq_true hg).1
    have e1 : (intsL m).take i = intsL (m.take i) := by simp [intsL]
    have e2 : (intsL (preI (x.V - 1) (x.V - 1))).take i = intsL ((preI (x.V - 1) (x.V - 1)).take i) := by simp [intsL]
    have hA : LeDs [.var (.agg [.int .i64 j, intsD m])] [intsD (m.take i), intsD ((preI (x.V - 1) (x.V - 1)).take i)] [.list false .leaf (List.drop (Int.toNat 0) (List.take (i : Int).toNat (intsL m))), .list false .leaf (List.drop (Int.toNat 0) (List.take (i : Int).toNat (intsL (preI (x.V - 1) (x.V - 1)))))] := by
      rw [show List.drop (Int.toNat 0) (List.take (i : Int).toNat (intsL m)) = intsL (m.take i) from by rw [Int.toNat_natCast, e1]; rfl, show List.drop (Int.toNat 0) (List.take (i : Int).toNat (intsL (preI (x.V - 1) (x.V - 1)))) = intsL ((preI (x.V - 1) (x.V - 1)).take i) from by rw [Int.toNat_natCast, e2]; rfl]
      exact ler _ _
    by_cases he : m.take i = (preI (x.V - 1) (x.V - 1)).take i
    · have heq := vEqI (m.take i) ((preI (x.V - 1) (x.V - 1)).take i)
      rw [decide_eq_true he] at heq
      repeat' (
       conv => whnf
       first
       | refine ifd (fun h => ?_) (fun h => ?_)
       | refine ifn (fun h => ?_) (fun h => ?_)
       | ((with_reducible refine exI' (by omega) ?_); intro y hy; (try simp only [Int.toNat_natCast, Nat.zero_add] at hy); (try have hyr := hR _ (List.mem_of_getElem? hy)))
       | ((with_reducible refine pcI ?_); refine Val.pure hIs (ler _ _) rfl rfl ?_)
       | ((with_reducible refine pcI ?_); refine Val.pure heq hA rfl rfl ?_)
       | ((with_reducible refine hcI ?_); refine Val.call (vEqI _ _) (.refl _) (ler _ _) rfl ?_; rintro r rfl)
       | ((with_reducible apply drT 33); rfl)
       | ((with_reducible apply ob); ((first | rfl | assumption | omega | (unfold maxLen2; omega) | (dsimp only; omega) | (simp only [LN]; omega) | (simp; done) | (simp; omega)))))
      all_goals (conv => whnf)
      all_goals
        refine fC rfl (congrArg D.bool ?_)
        unfold reachB
        simp_all [getD_of (show m[i]? = some _ from by assumption)]
    · have heq := vEqI (m.take i) ((preI (x.V - 1) (x.V - 1)).take i)
      rw [decide_eq_false he] at heq
      repeat' (
       conv => whnf
       first
       | ((with_reducible refine pcI ?_); refine Val.pure hIs (ler _ _) rfl rfl ?_)
       | ((with_reducible refine pcI ?_); refine Val.pure heq hA rfl rfl ?_)
       | ((with_reducible apply drT 33); rfl)
       | ((with_reducible apply ob); ((first | rfl | assumption | omega | (unfold maxLen2; omega) | (dsimp only; omega) | (simp only [LN]; omega) | (simp; done) | (simp; omega)))))
      all_goals (conv => whnf)
      refine fC rfl (congrArg D.bool ?_)
      unfold reachB
      simp [he]
end Go.Proofs.YthfcfdlbnfcboaaDoor.Pw



set_option linter.unusedVariables false
set_option linter.unusedSimpArgs false
set_option maxHeartbeats 1000000
set_option maxRecDepth 10000
namespace Go.Proofs.YthfcfdlbnfcboaaDoor.Pw
open Go
def fillK (f : Nat → Int) (n k : Nat) : List Int := (List.range n).map fun i => if i < k then f i else 0
theorem fillK_len (f : Nat → Int) (n k : Nat) : (fillK f n k).length = n := by simp [fillK]
theorem fillK_zero (f : Nat → Int) (n : Nat) : fillK f n 0 = List.replicate n 0 := by
  apply List.ext_getElem
  · simp [fillK]
  · intro i h1 h2
    simp [fillK]
theorem fillK_set (f : Nat → Int) (n k : Nat) : (fillK f n k).set k (f k) = fillK f n (k + 1) := by
  apply List.ext_getElem
  · simp [fillK]
  · intro i h1 h2
    rw [List.getElem_set]
    simp only [fillK, List.getElem_map, List.getElem_range]
    by_cases h : k = i
    · subst h; simp
    · by_cases h3 : i < k
      · simp [h, h3, show i < k + 1 by omega]
      · simp [h, h3, show ¬ i < k + 1 by omega]
theorem fillK_all (f : Nat → Int) (n : Nat) : fillK f n n = (List.range n).map f := by
  unfold fillK
  apply List.map_congr_left
  intro i hi
  simp [List.mem_range.1 hi]
theorem vPOne (n : Nat) (hn : n ≤ 1000000) : Val Tryd.prog 105 [iD n] (fun r => r = intsD (oneI n)) := by
  refine Val.ofV ?_
  refine hc_ofS (okc Tryd.f105.ntmps 0) (fn := Tryd.f105) (cd := _) rfl rfl rfl rfl rfl rfl (fun hbd => ?_)
  repeat' (
   conv => whnf
   first
   | ((with_reducible apply ob); ((first | rfl | assumption | omega | (unfold maxLen2; omega) | (dsimp only; omega) | (simp only [LN]; omega) | (simp; done) | (simp; omega)))))
  all_goals (conv => whnf)
  refine lpX (X := Nat) (fun k => [(3, .sl 0 0 n), (8, iD n), (9, iD k)]) (fun k => [.row .leaf (intsL (fillK (fun i => (i : Int)) n k))]) (fun k => k ≤ n) (fun k => n - k) ⟨_, nx (ρ := [0]) 0 (by repeat (first | exact trivial | refine seC rfl rfl ?_ | refine seL (leRow rfl rfl) rfl ?_)) (shR rfl (by rw [fillK_zero]; simp [intsL]; exact .inr rfl) (cl_ints _) trivial) rfl rfl (Nat.lt_succ_self _) (Nat.zero_le _)⟩ ?_
  intro k hk
  have h0 : (intsL (fillK (fun i => (i : Int)) n k)).length = n := by simp [fillK_len]
  repeat' (
   conv => whnf
   first
   | refine ifd (fun h => ?_) (fun h => ?_)
   | with_reducible refine ivW (by omega) (by omega) ?_
   | ((with_reducible apply ob); ((first | rfl | assumption | omega | (unfold maxLen2; omega) | (dsimp only; omega) | (simp only [LN]; omega) | (simp; done) | (simp; omega)))))
  all_goals (conv => whnf)
  · exact nx (ρ := [0]) (k + 1) (by repeat (first | exact trivial | refine seC rfl rfl ?_ | refine seL (leRow rfl rfl) rfl ?_)) (shR rfl (by rw [← fillK_set]; simp [intsL, List.map_set]) (cl_ints _) trivial) rfl rfl (by omega) (by omega)
  · have : k = n := by omega
    subst this
    have e : fillK (fun i => (i : Int)) k k = oneI k := by rw [fillK_all]; rfl
    rw [e]
    rw [e] at h0
    apply fR' (intsL (oneI k))
    case hg => rfl
    case hc => exact cl_ints _
    case h => rfl
    · rfl
    · exact h0
def mulF (g h : List Int) (i : Nat) : Int := h.getD (g.getD i 0).toNat 0
theorem mulK_map (g h : List Int) : ∀ k, mulK g h k = (List.range k).map (mulF g h)
  | 0 => rfl
  | k + 1 => by rw [mulK, mulK_map g h k, List.range_succ]; simp [mulF]
theorem vPMul (g p : List Int) (hR : ∀ x ∈ g, 0 ≤ x ∧ x < p.length) (hg1 : g.length ≤ 1000000) : Val Tryd.prog 106 [intsD g, intsD p] (fun r => r = intsD (mulI g p)) := by
  have hg0 := intsL_len g
  have hh0 := intsL_len p
  refine Val.ofV ?_
  refine hc_ofS (okc Tryd.f106.ntmps 0) (fn := Tryd.f106) (cd := _) rfl rfl rfl rfl rfl rfl (fun hbd => ?_)
  repeat' (
   conv => whnf
   first
   | ((with_reducible apply ob); ((first | rfl | assumption | omega | (unfold maxLen2; omega) | (dsimp only; omega) | (simp only [LN]; omega) | (simp; done) | (simp; omega)))))
  all_goals (conv => whnf)
  refine lpX (X := Nat) (fun k => [(1, intsD p), (5, .sl 0 0 (intsL g).length), (11, intsD g), (12, iD (intsL g).length), (13, iD k)]) (fun k => [.row .leaf (intsL (fillK (mulF g p) g.length k))]) (fun k => k ≤ g.length) (fun k => g.length - k) ⟨_, nx (ρ := [0]) 0 (by repeat (first | exact trivial | refine seC rfl rfl ?_ | refine seL (leRow rfl rfl) rfl ?_)) (shR rfl (by rw [fillK_zero, hg0]; simp [intsL]; exact .inr rfl) (cl_ints _) trivial) rfl rfl (Nat.lt_succ_self _) (Nat.zero_le _)⟩ ?_
  intro k hk
  have h0 : (intsL (fillK (mulF g p) g.length k)).length = g.length := by simp [fillK_len]
  repeat' (
   conv => whnf
   first
   | refine ifd (fun h => ?_) (fun h => ?_)
   | with_reducible refine ivW (by omega) (by omega) ?_
   | ((with_reducible refine exI' (by omega) ?_); intro y hy; (try simp only [Int.toNat_natCast, Nat.zero_add] at hy); (try have hyr := hR _ (List.mem_of_getElem? hy)))
   | ((with_reducible apply ob); ((first | rfl | assumption | omega | (unfold maxLen2; omega) | (dsimp only; omega) | (simp only [LN]; omega) | (simp; done) | (simp; omega)))))
  all_goals (conv => whnf)
  · rename_i y0 hy0
    have e : mulF g p k = y := by
      unfold mulF
      rw [getD_of hy0, getD_of hy]
    exact nx (ρ := [0]) (k + 1) (by repeat (first | exact trivial | refine seC rfl rfl ?_ | refine seL (leRow rfl rfl) rfl ?_)) (shR rfl (by rw [← fillK_set, e]; simp [intsL, List.map_set]) (cl_ints _) trivial) rfl rfl (by omega) (by omega)
  · have : k = g.length := by omega
    subst this
    have e : fillK (mulF g p) g.length g.length = mulI g p := by rw [fillK_all]; exact (mulK_map g p _).symm
    rw [e]
    rw [e] at h0
    apply fR' (intsL (mulI g p))
    case hg => rfl
    case hc => exact cl_ints _
    case h => rfl
    · rfl
    · rw [h0, hg0]
end Go.Proofs.YthfcfdlbnfcboaaDoor.Pw



set_option linter.unusedVariables false
set_option linter.unusedSimpArgs false
set_option maxHeartbeats 1000000
set_option maxRecDepth 10000
namespace Go.Proofs.YthfcfdlbnfcboaaDoor.Pw
open Go
def rowsL (l : List (List Int)) : List D := l.map intsD
def rowsD (l : List (List Int)) : D := .list false .leaf (rowsL l)
@[simp] theorem rowsL_len (l : List (List Int)) : (rowsL l).length = l.length := by simp [rowsL]
theorem cl_rows (l : List (List Int)) : clDs (rowsL l) = true := cl_map (fun g => rfl) l
def badP (n : Nat) (g : List Int) : Bool := decide (g.length ≠ n) || !decide (1 ≤ g.length ∧ g.length ≤ 16 ∧ Dif g g.length)
theorem vAcc1 (n : Nat) (g : List Int) : Val Tryd.prog 104 [intsD g, .ref .leaf (iD n)] (fun r => r = .bool (badP n g)) := by
  have hg0 := intsL_len g
  refine Val.ofV ?_
  refine hc_ofS (okc Tryd.f104.ntmps 0) (fn := Tryd.f104) (cd := _) rfl rfl rfl rfl rfl rfl (fun hbd => ?_)
  repeat' (
   conv => whnf
   first
   | refine ifn (fun h => ?_) (fun h => ?_)
   | ((with_reducible refine hcI ?_); refine Val.call (vValid _) (.refl _) (ler _ _) rfl ?_; rintro r rfl))
  all_goals (conv => whnf)
  all_goals
    refine fC rfl (congrArg D.bool ?_)
    unfold badP
    first
    | (simp; done)
    | (simp_all; done)
    | (simp; omega)
    | skip
theorem vIdxA (n : Nat) (l : List (List Int)) (hl : l.length ≤ 1000000) : Val Tryd.prog 113 [rowsD l, .func 104 [.ref .leaf (iD n)]] (fun r => r = .int .i64 (match l.findIdx? (badP n) with | some i => (i : Int) | none => -1)) := by
  have hl0 := rowsL_len l
  refine Val.ofV ?_
  refine hc_ofS (okc Tryd.f113.ntmps 0) (fn := Tryd.f113) (cd := _) rfl rfl rfl rfl rfl rfl (fun hbd => ?_)
  all_goals (conv => whnf)
  refine lpX (X := Nat) (fun k => [(0, rowsD l), (1, .func 104 [.ref .leaf (iD n)]), (7, iD (rowsL l).length), (8, iD k)]) (fun _ => []) (fun k => k ≤ l.length ∧ ∀ i g, i < k → l[i]? = some g → badP n g = false) (fun k => l.length - k) ⟨_, nx0 0 (by repeat (first | exact trivial | refine se0 rfl ?_)) rfl (Nat.lt_succ_self _) ⟨Nat.zero_le _, by omega⟩⟩ ?_
  rintro k ⟨hk, he⟩
  rcases Nat.lt_or_ge k l.length with hlt | hge
  · obtain ⟨g, hg⟩ : ∃ g, l[k]? = some g := ⟨l[k], List.getElem?_eq_getElem hlt⟩
    have hgd : (rowsL l)[k]? = some (intsD g) := by simp [rowsL, hg]
    have hb := vAcc1 n g
    cases hbd : badP n g with
    | true =>
      rw [hbd] at hb
      repeat' (
       conv => whnf
       first
       | refine ifd (fun h => ?_) (fun h => ?_)
       | ((with_reducible refine hcI ?_); refine Val.call hb (.refl _) (ler _ _) rfl ?_; rintro r rfl)
       | (with_reducible refine ⟨intsD g, by first | exact hgd | (simpa using hgd), ?_⟩)
       | ((with_reducible apply ob); ((first | rfl | assumption | omega | (unfold maxLen2; omega) | (dsimp only; omega) | (simp only [LN]; omega) | (simp; done) | (simp; omega)))))
      all_goals (conv => whnf)
      · refine fC rfl (congrArg (D.int .i64) ?_)
        have e : l.findIdx? (badP n) = some k := List.findIdx?_eq_some_iff_getElem.2 ⟨hlt, by
          rw [List.getElem?_eq_getElem hlt] at hg; cases hg; exact hbd, fun j hj hc => by
          rw [he j l[j] hj (List.getElem?_eq_getElem (by omega))] at hc; cases hc⟩
        rw [e]
      · exact absurd hlt (by omega)
    | false =>
      rw [hbd] at hb
      repeat' (
       conv => whnf
       first
       | refine ifd (fun h => ?_) (fun h => ?_)
       | with_reducible refine ivW (by omega) (by omega) ?_
       | ((with_reducible refine hcI ?_); refine Val.call hb (.refl _) (ler _ _) rfl ?_; rintro r rfl)
       | (with_reducible refine ⟨intsD g, by first | exact hgd | (simpa using hgd), ?_⟩)
       | ((with_reducible apply ob); ((first | rfl | assumption | omega | (unfold maxLen2; omega) | (dsimp only; omega) | (simp only [LN]; omega) | (simp; done) | (simp; omega)))))
      all_goals (conv => whnf)
      · exact nx0 (k + 1) (by repeat (first | exact trivial | refine se0 rfl ?_)) rfl (by omega) ⟨by omega, fun i g1 hi h1 => by
          rcases Nat.lt_succ_iff_lt_or_eq.1 hi with h2 | rfl
          · exact he i g1 h2 h1
          · rw [hg] at h1; cases h1; exact hbd⟩
      · exact absurd hlt (by omega)
  · repeat' (
     conv => whnf
     first
     | refine ifd (fun h => ?_) (fun h => ?_)
     | ((with_reducible apply ob); ((first | rfl | assumption | omega | (unfold maxLen2; omega) | (dsimp only; omega) | (simp only [LN]; omega) | (simp; done) | (simp; omega)))))
    all_goals (conv => whnf)
    · exact absurd h (by omega)
    · refine fC rfl (congrArg (D.int .i64) ?_)
      have e : l.findIdx? (badP n) = none := List.findIdx?_eq_none_iff.2 fun g hg => by
        obtain ⟨i, hi, rfl⟩ := List.getElem_of_mem hg
        exact he i _ (by omega) (List.getElem?_eq_getElem hi)
      rw [e]
theorem vConA (n : Nat) (l : List (List Int)) (hl : l.length ≤ 1000000) : Val Tryd.prog 103 [rowsD l, .func 104 [.ref .leaf (iD n)]] (fun r => r = .bool (l.any (badP n))) := by
  have hl0 := rowsL_len l
  have hi := vIdxA n l hl
  have hany : l.any (badP n) = (l.findIdx? (badP n)).isSome := (List.findIdx?_isSome).symm
  refine Val.ofV ?_
  refine hc_ofS (okc Tryd.f103.ntmps 0) (fn := Tryd.f103) (cd := _) rfl rfl rfl rfl rfl rfl (fun hbd => ?_)
  cases hf : l.findIdx? (badP n) with
  | none =>
    rw [hf] at hi hany
    repeat' (
     conv => whnf
     first
     | ((with_reducible refine hcI ?_); refine Val.call hi (.refl _) (ler _ _) rfl ?_; rintro r rfl))
    all_goals (conv => whnf)
    exact fC rfl (by rw [hany]; rfl)
  | some i =>
    rw [hf] at hi hany
    repeat' (
     conv => whnf
     first
     | ((with_reducible refine hcI ?_); refine Val.call hi (.refl _) (ler _ _) rfl ?_; rintro r rfl))
    all_goals (conv => whnf)
    refine fC rfl (congrArg D.bool ?_)
    rw [hany]
    show decide ((0 : Int) ≤ (i : Int)) = true
    simp
def accB (lim n : Nat) (l : List (List Int)) : Bool := decide (1 ≤ n ∧ n ≤ lim ∧ l.length ≤ 100) && !l.any (badP n)
theorem vAccepted (lim n : Nat) (l : List (List Int)) : Val Tryd.prog 88 [iD lim, iD n, rowsD l] (fun r => r = .bool (accB lim n l)) := by
  have hl0 := rowsL_len l
  refine Val.ofV ?_
  refine hc_ofS (okc Tryd.f88.ntmps 0) (fn := Tryd.f88) (cd := _) rfl rfl rfl rfl rfl rfl (fun hbd => ?_)
  by_cases hok : 1 ≤ n ∧ n ≤ lim ∧ l.length ≤ 100
  · have hc := vConA n l (by omega)
    repeat' (
     conv => whnf
     first
     | refine ifd (fun h => ?_) (fun h => ?_))
    all_goals (conv => whnf)
    all_goals (first | (exfalso; omega) | skip)
    refine Val.call hc (.fvar 0 (iD n) rfl rfl (.refl _)) (.cons _ _ _ _ (.refl _) (.cons _ _ _ _ (.func _ _ _ (.cons _ _ _ _ (show LeD _ (.ref (shape (iD n)) (iD n)) (.ptr 0 []) from .fvar 0 _ rfl) .nil)) .nil)) rfl ?_
    rintro r rfl
    all_goals (conv => whnf)
    exact fC rfl (by unfold accB; rw [decide_eq_true hok]; rfl)
  · repeat' (
     conv => whnf
     first
     | refine ifd (fun h => ?_) (fun h => ?_))
    all_goals (conv => whnf)
    all_goals (first | (exfalso; omega) | exact fC rfl (by unfold accB; rw [decide_eq_false hok]; rfl))
end Go.Proofs.YthfcfdlbnfcboaaDoor.Pw



set_option linter.unusedVariables false
set_option linter.unusedSimpArgs false
set_option maxHeartbeats 1000000
set_option maxRecDepth 10000
namespace Go.Proofs.YthfcfdlbnfcboaaDoor.Pw
open Go
theorem vLawOrder (x : Inc) (hx : x.Ok) (hx7 : x.V ≤ 7) : Val Tryd.prog 15 [x.D] (fun r => r = .agg [iD (ordK x x.V), .int .i64 0]) := by
  refine Val.ofV ?_
  refine hc_ofS (okc Tryd.f15.ntmps 0) (fn := Tryd.f15) (cd := _) rfl rfl rfl rfl rfl rfl (fun hbd => ?_)
  repeat' (
   conv => whnf
   first
   | ((with_reducible refine hcI ?_); refine Val.call (vOrder _ (by assumption) (by omega)) (.refl _) (ler _ _) rfl ?_; rintro r rfl))
  all_goals (conv => whnf)
  exact fC rfl rfl
theorem vLawProved (x : Inc) (hx : x.Ok) (hx7 : x.V ≤ 7) : Val Tryd.prog 9 [x.D] (fun r => r = .agg [prfD x, .int .i64 0]) := by
  refine Val.ofV ?_
  refine hc_ofS (okc Tryd.f9.ntmps 0) (fn := Tryd.f9) (cd := _) rfl rfl rfl rfl rfl rfl (fun hbd => ?_)
  repeat' (
   conv => whnf
   first
   | ((with_reducible refine hcI ?_); refine Val.call (vGProve _ (by assumption) (by omega)) (.refl _) (ler _ _) rfl ?_; rintro r rfl))
  all_goals (conv => whnf)
  exact fC rfl rfl
end Go.Proofs.YthfcfdlbnfcboaaDoor.Pw



set_option linter.unusedVariables false
set_option linter.unusedSimpArgs false
set_option maxHeartbeats 1000000
set_option maxRecDepth 10000
namespace Go.Proofs.YthfcfdlbnfcboaaDoor.Pw
open Go
theorem exR {l : List (List Int)} {n : Nat} {k : D → Prop} (h : n < l.length) (hk : ∀ a, l[n]? = some a → k (intsD a)) : ∃ d, (rowsL l)[n]? = some d ∧ k d := exM (f := intsD) h hk
theorem vAlike (a b : List (List Int)) (ha : a.length ≤ 1000000) (hb : b.length ≤ 1000000) : Val Tryd.prog 34 [rowsD a, rowsD b] (fun r => r = .bool (decide (a = b))) := by
  have ha0 := rowsL_len a
  have hb0 := rowsL_len b
  refine Val.ofV ?_
  refine hc_ofS (okc Tryd.f34.ntmps 0) (fn := Tryd.f34) (cd := _) rfl rfl rfl rfl rfl rfl (fun hbd => ?_)
  repeat' (
   conv => whnf
   first
   | refine ifn (fun h => ?_) (fun h => ?_))
  all_goals (conv => whnf)
  · exact fF (fun e => h (by subst e; rfl))
  · refine lpX (X := Nat) (fun k => [(5, iD k), (0, rowsD a), (1, rowsD b)]) (fun _ => []) (fun k => k ≤ a.length ∧ a.take k = b.take k) (fun k => a.length - k) ⟨_, nx0 0 (by repeat (first | exact trivial | refine se0 rfl ?_)) rfl (Nat.lt_succ_self _) ⟨Nat.zero_le _, by simp⟩⟩ ?_
    rintro k ⟨hk, he⟩
    rcases Nat.lt_or_ge k a.length with hlt | hge
    · obtain ⟨g, hg⟩ : ∃ g, a[k]? = some g := ⟨a[k], List.getElem?_eq_getElem hlt⟩
      obtain ⟨g2, hg2⟩ : ∃ g2, b[k]? = some g2 := ⟨b[k]'(by omega), List.getElem?_eq_getElem (by omega)⟩
      repeat' (
       conv => whnf
       first
       | refine ifd (fun h => ?_) (fun h => ?_)
       | refine ifn (fun h => ?_) (fun h => ?_)
       | with_reducible refine ivW (by omega) (by omega) ?_
       | ((with_reducible refine exR (by omega) ?_); intro y hy; simp only [Int.toNat_natCast] at hy; first | (rw [hg] at hy; cases hy; done) | (rw [hg2] at hy; cases hy; done) | (rw [hg] at hy; obtain rfl := Option.some.inj hy) | (rw [hg2] at hy; obtain rfl := Option.some.inj hy))
       | ((with_reducible refine hcI ?_); refine Val.call (vSame _ _) (.refl _) (ler _ _) rfl ?_; rintro r rfl)
       | ((with_reducible apply drT 8); rfl)
       | ((with_reducible apply ob); ((first | rfl | assumption | omega | (unfold maxLen2; omega) | (dsimp only; omega) | (simp only [LN]; omega) | (simp; done) | (simp; omega)))))
      all_goals (conv => whnf)
      · exact fF (fun e => by subst e; rw [hg] at hg2; cases hg2; simp_all)
      · have e : g = g2 := by simp_all
        subst e
        exact nx0 (k + 1) (by repeat (first | exact trivial | refine se0 rfl ?_)) rfl (by omega) ⟨by omega, by rw [List.take_add_one, List.take_add_one, he, hg, hg2]⟩
      · exact absurd hlt (by omega)
    · repeat' (
       conv => whnf
       first
       | refine ifd (fun h => ?_) (fun h => ?_)
       | ((with_reducible apply drT 8); rfl)
       | ((with_reducible apply ob); ((first | rfl | assumption | omega | (unfold maxLen2; omega) | (dsimp only; omega) | (simp only [LN]; omega) | (simp; done) | (simp; omega)))))
      all_goals (conv => whnf)
      · exact absurd h (by omega)
      · refine fT ?_
        rw [List.take_of_length_le (by omega), List.take_of_length_le (by omega)] at he
        exact he
end Go.Proofs.YthfcfdlbnfcboaaDoor.Pw



set_option linter.unusedVariables false
set_option linter.unusedSimpArgs false
set_option maxHeartbeats 1000000
set_option maxRecDepth 10000
namespace Go.Proofs.YthfcfdlbnfcboaaDoor.Pw
open Go
def rchD (y : Int × List Int) : D := .agg [.int .i64 y.1, intsD y.2]
def rchL (l : List (Int × List Int)) : List D := l.map rchD
@[simp] theorem rchL_len (l : List (Int × List Int)) : (rchL l).length = l.length := by simp [rchL]
end Go.Proofs.YthfcfdlbnfcboaaDoor.Pw



set_option linter.unusedVariables false
set_option linter.unusedSimpArgs false
set_option maxHeartbeats 1000000
set_option maxRecDepth 10000
namespace Go.Proofs.YthfcfdlbnfcboaaDoor.Pw
open Go
def unsD (y : Int × Tree) : D := .agg [.int .i64 y.1, treeD y.2]
def unsL (l : List (Int × Tree)) : List D := l.map unsD
@[simp] theorem unsL_len (l : List (Int × Tree)) : (unsL l).length = l.length := by simp [unsL]
end Go.Proofs.YthfcfdlbnfcboaaDoor.Pw



set_option linter.unusedVariables false
set_option linter.unusedSimpArgs false
set_option maxHeartbeats 1000000
set_option maxRecDepth 10000
namespace Go.Proofs.YthfcfdlbnfcboaaDoor.Pw
open Go
end Go.Proofs.YthfcfdlbnfcboaaDoor.Pw



set_option linter.unusedVariables false
set_option linter.unusedSimpArgs false
set_option maxHeartbeats 1000000
set_option maxRecDepth 10000
namespace Go.Proofs.YthfcfdlbnfcboaaDoor.Pw
open Go
structure Inc.Fam (x : Inc) : Prop where
  ok : x.Ok
  v7 : x.V ≤ 7
  s : Srt x.B
  lt : ∀ b ∈ x.B, b < 2 ^ x.V
theorem traceK_bit (b : Nat) (l : List Int) (q : Nat) : ∀ k, (traceK b l k).testBit q = (decide (q < k) && b.testBit (l.getD q 0).toNat)
  | 0 => by simp [traceK]
  | k + 1 => by
    have h1 : ∀ y : Nat, (y &&& 1).testBit (q - k) = (decide (q - k = 0) && y.testBit 0) := fun y => by
      rw [Nat.testBit_and]
      rcases Nat.eq_zero_or_pos (q - k) with h | h
      · rw [h]; simp
      · have : Nat.testBit 1 (q - k) = false := by
          have e : (1 : Nat) = 2 ^ 0 := rfl
          rw [e, Nat.testBit_two_pow]; simp; omega
        rw [this]; simp; omega
    rw [traceK, Nat.testBit_or, traceK_bit b l q k, Nat.testBit_shiftLeft, h1, Nat.testBit_shiftRight]
    rcases Nat.lt_trichotomy q k with h | h | h
    · have a1 : ¬ q ≥ k := by omega
      have a2 : q < k + 1 := by omega
      simp [h, a1, a2]
    · subst h; simp
    · have a1 : ¬ q < k := by omega
      have a2 : ¬ q < k + 1 := by omega
      have a3 : q - k ≠ 0 := by omega
      simp [a1, a2, a3]
theorem traceB_bit (l : List Int) (b q : Nat) : (traceB l b).testBit q = (decide (q < l.length) && b.testBit (l.getD q 0).toNat) := traceK_bit b l q _
theorem trace_take (l : List Int) (b k : Nat) (hk : k ≤ l.length) : traceB (l.take k) b = traceB l b % 2 ^ k := by
  apply Nat.eq_of_testBit_eq
  intro q
  rw [Nat.testBit_mod_two_pow, traceB_bit, traceB_bit, List.length_take, Nat.min_eq_left hk]
  by_cases h : q < k
  · have h2 : q < l.length := by omega
    have e : (l.take k).getD q 0 = l.getD q 0 := by simp [List.getD, List.getElem?_take, h]
    simp [h, h2, e]
  · simp [h]
theorem one_getD (n q : Nat) (h : q < n) : (oneI n).getD q 0 = (q : Int) := by
  have : (oneI n)[q]? = some (q : Int) := by simp [oneI, natsI, h]
  exact getD_of this
theorem trace_one (n b : Nat) : traceB (oneI n) b = b % 2 ^ n := by
  apply Nat.eq_of_testBit_eq
  intro q
  rw [Nat.testBit_mod_two_pow, traceB_bit, one_len]
  by_cases h : q < n
  · rw [one_getD n q h]; simp
  · simp [h]
theorem oneT (n k : Nat) (h : k ≤ n) : (oneI n).take k = oneI k := by
  simp [oneI, natsI, ← List.map_take, List.take_range, Nat.min_eq_left h]
theorem one_dif (k n : Nat) (h : k ≤ n) : Dif (oneI k) n := by
  refine ⟨fun x hx => ?_, ?_⟩
  · simp only [oneI, natsI, List.mem_map, List.mem_range] at hx
    obtain ⟨y, hy, rfl⟩ := hx
    omega
  · unfold oneI natsI
    exact List.Pairwise.map _ (fun a b (hab : a ≠ b) => by intro e; exact hab (by omega)) List.nodup_range
theorem dif_take {m : List Int} {n : Int} (h : Dif m n) (k : Nat) : Dif (m.take k) n := ⟨fun x hx => h.1 x (List.mem_of_mem_take hx), h.2.sublist (List.take_sublist k m)⟩
theorem sortL_iff (l m : List Nat) : sortL l = sortL m ↔ l.Perm m :=
  ⟨fun h => ((sortL_perm l).symm.trans (h ▸ List.Perm.refl _)).trans (sortL_perm m), fun h => sort_uniq ((sortL_perm l).trans h) (sortL_srt l)⟩
def OkM (x : Inc) (m : List Int) : Prop := (x.B.map (traceB (oneI m.length))).Perm (x.B.map (traceB m))
theorem fails_iff (x : Inc) {m : List Int} (hd : Dif m x.V) : ¬ Fails x x m ↔ OkM x m := by
  have hl := dif_len hd
  have h1 := one_dif m.length x.V hl
  unfold Fails tracesL OkM
  rw [if_pos h1, if_pos hd, ← sortL_iff]
  simp
def Aut (x : Inc) (g : List Int) : Prop := Pm g x.V ∧ OkM x g
theorem okM_take {x : Inc} {g : List Int} (h : OkM x g) (k : Nat) (hk : k ≤ g.length) : OkM x (g.take k) := by
  have h1 := h.map (fun t => t % 2 ^ k)
  unfold OkM
  rw [List.map_map, List.map_map] at h1
  rw [List.length_take, Nat.min_eq_left hk]
  have e1 : x.B.map (traceB (oneI k)) = x.B.map ((fun t => t % 2 ^ k) ∘ traceB (oneI g.length)) := List.map_congr_left fun b _ => by
    show _ = traceB (oneI g.length) b % 2 ^ k
    rw [← trace_take _ _ _ (by rw [one_len]; exact hk), oneT _ _ hk]
  have e2 : x.B.map (traceB (g.take k)) = x.B.map ((fun t => t % 2 ^ k) ∘ traceB g) := List.map_congr_left fun b _ => trace_take _ _ _ hk
  rw [e1, e2]; exact h1
theorem aut_take {x : Inc} {g : List Int} (h : Aut x g) (k : Nat) : ¬ Fails x x (g.take k) := by
  rw [fails_iff x (dif_take h.1.2 k)]
  rcases Nat.le_total k g.length with hk | hk
  · exact okM_take h.2 k hk
  · rw [List.take_of_length_le hk]; exact h.2
theorem firstS_no {α : Type} {F : Nat → Option α} : ∀ {l : List Nat}, firstS F l = none → ∀ p ∈ l, F p = none
  | [], _, p, hp => by cases hp
  | q :: ps, h, p, hp => by
    cases hq : F q with
    | some y => simp [firstS, hq] at h
    | none =>
      simp only [firstS, hq] at h
      rcases List.mem_cons.1 hp with rfl | hp
      · exact hq
      · exact firstS_no h p hp
theorem allS_no {α : Type} {F : Nat → Option α} : ∀ {l : List Nat}, allS F l = none → ∃ p ∈ l, F p = none
  | [], h => by cases h
  | q :: ps, h => by
    cases hq : F q with
    | none => exact ⟨q, List.mem_cons_self, hq⟩
    | some y =>
      cases ht : allS F ps with
      | some ts => simp [allS, hq, ht] at h
      | none => obtain ⟨p, hp, e⟩ := allS_no ht; exact ⟨p, List.mem_cons_of_mem _ hp, e⟩
theorem allS_get {α : Type} {F : Nat → Option α} : ∀ {l : List Nat} {ts : List α}, allS F l = some ts → ts.length = l.length ∧ ∀ (i p : Nat) (t : α), l[i]? = some p → ts[i]? = some t → F p = some t
  | [], ts, h => by cases h; exact ⟨rfl, by simp⟩
  | q :: ps, ts, h => by
    cases hq : F q with
    | none => simp [allS, hq] at h
    | some y =>
      cases ht : allS F ps with
      | none => simp [allS, hq, ht] at h
      | some us =>
        simp only [allS, hq, ht] at h
        cases h
        obtain ⟨h1, h2⟩ := allS_get ht
        refine ⟨by simp [h1], ?_⟩
        rintro (_ | i) p t hp ht
        · simp at hp ht; subst hp; subst ht; exact hq
        · exact h2 i p t (by simpa using hp) (by simpa using ht)
theorem take_snoc {g m : List Int} {p : Int} (h : g.take (m.length + 1) = m ++ [p]) : g.take m.length = m := by
  have := congrArg (List.take m.length) h
  rwa [List.take_take, Nat.min_eq_left (by omega), List.take_left] at this
theorem take_more {g m : List Int} (h : g.take m.length = m) (hl : m.length < g.length) : g.take (m.length + 1) = m ++ [g[m.length]] := by
  rw [List.take_add_one, h, List.getElem?_eq_getElem hl]; rfl
theorem look_aut (x : Inc) (hx : x.V ≤ 7) : ∀ f m g, m.length + f = x.V → Dif m x.V → lookA x x f m = some g → Aut x g ∧ g.take m.length = m
  | 0, m, g, hl, hd, h => by
    unfold lookA at h
    by_cases hf : Fails x x m
    · rw [if_pos hf] at h; cases h
    · rw [if_neg hf] at h; cases h
      exact ⟨⟨⟨by omega, hd⟩, (fails_iff x hd).1 hf⟩, List.take_length⟩
  | f + 1, m, g, hl, hd, h => by
    unfold lookA at h
    by_cases hf : Fails x x m
    · rw [if_pos hf] at h; cases h
    · rw [if_neg hf] at h
      obtain ⟨p, hp, e⟩ := firstS_get h
      have hp2 := (restL_mem (by omega) hd.1 p).1 hp
      have hd2 : Dif (m ++ [(p : Int)]) x.V := dif_snoc (by omega) hd hp
      obtain ⟨h1, h2⟩ := look_aut x hx f _ g (by simp; omega) hd2 e
      refine ⟨h1, take_snoc (p := (p : Int)) ?_⟩
      rw [← h2]; simp
theorem aut_next {x : Inc} (hx : x.V ≤ 7) {g m : List Int} (hg : Pm g x.V) (hm : g.take m.length = m) (hl : m.length < x.V) : ∃ p : Nat, p ∈ restL x.V m ∧ g.take (m.length + 1) = m ++ [(p : Int)] := by
  have hlg : m.length < g.length := by rw [hg.1]; exact hl
  have hr := hg.2.1 _ (List.getElem_mem hlg)
  have hd : Dif m x.V := hm ▸ dif_take hg.2 m.length
  have e : ((g[m.length].toNat : Nat) : Int) = g[m.length] := by omega
  refine ⟨g[m.length].toNat, (restL_mem (by omega) hd.1 _).2 ⟨by omega, ?_⟩, by rw [e]; exact take_more hm hlg⟩
  rw [e]
  intro hmem
  have h2 : (g.take (m.length + 1)).Nodup := hg.2.2.sublist (List.take_sublist _ _)
  rw [take_more hm hlg] at h2
  exact (List.nodup_append.1 h2).2.2 _ hmem _ (List.mem_singleton.2 rfl) rfl
theorem look_ne (x : Inc) (hx : x.V ≤ 7) (g : List Int) (hg : Aut x g) : ∀ f m, m.length + f = x.V → g.take m.length = m → lookA x x f m ≠ none
  | 0, m, hl, hm => by
    have h := aut_take hg m.length
    rw [hm] at h
    simp [lookA, h]
  | f + 1, m, hl, hm => by
    have h := aut_take hg m.length
    rw [hm] at h
    obtain ⟨p, hp, hp2⟩ := aut_next hx hg.1 hm (by omega)
    unfold lookA
    rw [if_neg h]
    intro hn
    exact look_ne x hx g hg f (m ++ [(p : Int)]) (by simp; omega) (by rw [List.length_append]; exact hp2) (firstS_no hn p hp)
theorem ref_acc (x : Inc) (hx : x.V ≤ 7) : ∀ f m t, m.length + f = x.V → Dif m x.V → refM x x f m = some t → accM x x f m t = true
  | 0, m, t, hl, hd, h => by
    unfold refM at h
    by_cases hf : Fails x x m
    · rw [if_pos hf] at h; cases h
      show (if _ then _ else _) = _
      rw [if_pos (by rfl)]; exact decide_eq_true hf
    · rw [if_neg hf] at h; cases h
  | f + 1, m, t, hl, hd, h => by
    unfold refM at h
    by_cases hf : Fails x x m
    · rw [if_pos hf] at h; cases h
      show (if _ then _ else _) = _
      rw [if_pos (by rfl)]; exact decide_eq_true hf
    · rw [if_neg hf] at h
      cases ha : allS (fun p => refM x x f (m ++ [(p : Int)])) (restL x.V m) with
      | none => rw [ha] at h; cases h
      | some ts =>
        rw [ha] at h; cases h
        obtain ⟨h1, h2⟩ := allS_get ha
        have hrl := restL_len (V := x.V) (by omega) hd
        unfold accM
        rw [if_neg (show ¬ (Tree.node ts).kids.length = 0 by show ¬ ts.length = 0; omega), if_neg (by simp only [Tree.kids]; omega)]
        refine allB2_true fun i p t hp ht => ?_
        have hp2 := (restL_mem (by omega) hd.1 p).1 (List.mem_of_getElem? hp)
        exact ref_acc x hx f _ _ (by simp; omega) (dif_snoc (by omega) hd (List.mem_of_getElem? hp)) (h2 i p t hp ht)
theorem ref_none (x : Inc) : ∀ f m, refM x x f m = none → lookA x x f m ≠ none
  | 0, m, h => by
    unfold refM at h
    by_cases hf : Fails x x m
    · rw [if_pos hf] at h; cases h
    · unfold lookA; rw [if_neg hf]; simp
  | f + 1, m, h => by
    unfold refM at h
    by_cases hf : Fails x x m
    · rw [if_pos hf] at h; cases h
    · rw [if_neg hf] at h
      cases ha : allS (fun p => refM x x f (m ++ [(p : Int)])) (restL x.V m) with
      | some ts => rw [ha] at h; cases h
      | none =>
        obtain ⟨p, hp, e⟩ := allS_no ha
        unfold lookA; rw [if_neg hf]
        intro hn
        exact ref_none x f _ e (firstS_no hn p hp)
theorem rest_one (V k : Nat) (hV : V ≤ 7) (h : k < V) : ∃ l, restL V (oneI k) = k :: l := by
  have hd := one_dif k V (by omega)
  have hs : (restL V (oneI k)).Pairwise (· < ·) := List.Pairwise.filter _ List.pairwise_lt_range
  have hm := fun p => restL_mem (V := V) (m := oneI k) (by omega) hd.1 p
  have hk : k ∈ restL V (oneI k) := (hm k).2 ⟨h, fun hh => by
    simp only [oneI, natsI, List.mem_map, List.mem_range] at hh
    obtain ⟨y, hy, e⟩ := hh
    omega⟩
  cases hl : restL V (oneI k) with
  | nil => rw [hl] at hk; cases hk
  | cons a l =>
    refine ⟨l, ?_⟩
    rw [hl] at hs hk
    rcases List.mem_cons.1 hk with e | e
    · rw [e]
    · have h1 := (List.pairwise_cons.1 hs).1 k e
      have h2 := (hm a).1 (hl ▸ List.mem_cons_self)
      exact absurd (List.mem_map.2 ⟨a, List.mem_range.2 h1, rfl⟩) h2.2
theorem one_snoc (k : Nat) : oneI k ++ [(k : Int)] = oneI (k + 1) := by simp only [oneI, natsI, List.range_succ, List.map_append, List.map_cons, List.map_nil]
theorem okM_one (x : Inc) (k : Nat) : OkM x (oneI k) := by unfold OkM; rw [one_len]
theorem look_one (x : Inc) (hx : x.V ≤ 7) : ∀ f k, k + f = x.V → lookA x x f (oneI k) = some (oneI x.V)
  | 0, k, h => by
    have : k = x.V := by omega
    subst this
    have hn := (fails_iff x (one_dif x.V x.V (Nat.le_refl _))).2 (okM_one x x.V)
    simp [lookA, hn]
  | f + 1, k, h => by
    have hn := (fails_iff x (one_dif k x.V (by omega))).2 (okM_one x k)
    obtain ⟨l, hl⟩ := rest_one x.V k hx (by omega)
    unfold lookA
    rw [if_neg hn, hl]
    have := look_one x hx f (k + 1) (by omega)
    simp only [firstS, one_snoc, this]
theorem mov_bit (g : List Int) (q : Nat) : ∀ (l : List Nat) (o : Nat), (l.foldl (fun o p => o ||| 1 <<< (g.getD p 0).toNat) o).testBit q = true ↔ (o.testBit q = true ∨ ∃ p ∈ l, (g.getD p 0).toNat = q)
  | [], o => by simp
  | p :: l, o => by
    rw [List.foldl_cons, mov_bit g q l]
    rw [Nat.testBit_or, Nat.one_shiftLeft, Nat.testBit_two_pow]
    simp only [Bool.or_eq_true, decide_eq_true_eq, List.mem_cons, exists_eq_or_imp]
    exact or_assoc
theorem bitsL_mem (b q : Nat) : q ∈ bitsL b ↔ q < 64 ∧ b.testBit q = true := by unfold bitsL; rw [List.mem_filter, List.mem_range]
theorem bits_lt {b V : Nat} (hb : b < 2 ^ V) {q : Nat} (h : b.testBit q = true) : q < V := by
  rcases Nat.lt_or_ge q V with h1 | h1
  · exact h1
  · rw [Nat.testBit_lt_two_pow (Nat.lt_of_lt_of_le hb (Nat.pow_le_pow_right (by decide) h1))] at h; cases h
theorem pm_inj {g : List Int} {V : Nat} (hg : Pm g V) {p q : Nat} (hp : p < V) (hq : q < V) (h : (g.getD p 0).toNat = (g.getD q 0).toNat) : p = q := by
  have hp2 : p < g.length := by rw [hg.1]; exact hp
  have hq2 : q < g.length := by rw [hg.1]; exact hq
  rw [getD_of (List.getElem?_eq_getElem hp2), getD_of (List.getElem?_eq_getElem hq2)] at h
  have h1 := hg.2.1 _ (List.getElem_mem hp2)
  have h2 := hg.2.1 _ (List.getElem_mem hq2)
  have e : g[p] = g[q] := by omega
  exact (List.getElem_inj hg.2.2).1 e
theorem trace_mov {g : List Int} {V b : Nat} (hV : V ≤ 64) (hg : Pm g V) (hb : b < 2 ^ V) : traceB g (movL g (bitsL b)) = b := by
  apply Nat.eq_of_testBit_eq
  intro q
  rw [traceB_bit, hg.1]
  have h1 := mov_bit g (g.getD q 0).toNat (bitsL b) 0
  rw [Bool.eq_iff_iff, Bool.and_eq_true, decide_eq_true_eq]
  unfold movL
  rw [h1]
  simp only [Nat.zero_testBit, Bool.false_eq_true, false_or]
  constructor
  · rintro ⟨hq, p, hp, e⟩
    rw [bitsL_mem] at hp
    have := pm_inj hg (bits_lt hb hp.2) hq e
    rw [← this]; exact hp.2
  · intro h
    exact ⟨bits_lt hb h, q, (bitsL_mem _ _).2 ⟨by have := bits_lt hb h; omega, h⟩, rfl⟩
theorem trace_lt (g : List Int) (b : Nat) : traceB g b < 2 ^ g.length := by
  refine Nat.lt_pow_two_of_testBit _ fun i hi => ?_
  rw [traceB_bit]
  have : ¬ i < g.length := by omega
  simp [this]
theorem trace_inj {g : List Int} {V b c : Nat} (hg : Pm g V) (hV : V ≤ 64) (hb : b < 2 ^ V) (hc : c < 2 ^ V) (h : traceB g b = traceB g c) : b = c := by
  have hs : ∀ q, q < V → ∃ p, p < V ∧ (g.getD p 0).toNat = q := by
    have hnd : (g.map Int.toNat).Nodup := (nd_map (fun a ha b hb e => by have := hg.2.1 a ha; have := hg.2.1 b hb; omega)).2 hg.2.2
    have h1 := (count_lt V (g.map Int.toNat) (fun x hx => by
      obtain ⟨y, hy, rfl⟩ := List.mem_map.1 hx
      have := hg.2.1 y hy; omega) (by rw [List.length_map]; exact hg.1)).2 hnd
    intro q hq
    obtain ⟨y, hy, e⟩ := List.mem_map.1 (h1 q hq)
    obtain ⟨p, hp, rfl⟩ := List.getElem_of_mem hy
    exact ⟨p, by rw [← hg.1]; exact hp, by rw [getD_of (List.getElem?_eq_getElem hp)]; exact e⟩
  apply Nat.eq_of_testBit_eq
  intro q
  rcases Nat.lt_or_ge q V with hq | hq
  · obtain ⟨p, hp, e⟩ := hs q hq
    have h1 := congrArg (fun t => t.testBit p) h
    simp only [traceB_bit, hg.1, hp, decide_true, Bool.true_and, e] at h1
    exact h1
  · rw [Nat.testBit_lt_two_pow (Nat.lt_of_lt_of_le hb (Nat.pow_le_pow_right (by decide) hq)), Nat.testBit_lt_two_pow (Nat.lt_of_lt_of_le hc (Nat.pow_le_pow_right (by decide) hq))]
theorem mov_lt {g : List Int} {V : Nat} (hg : Pm g V) (l : List Nat) (hl : ∀ p ∈ l, p < V) : movL g l < 2 ^ V := by
  refine Nat.lt_pow_two_of_testBit _ fun i hi => ?_
  cases hb : (movL g l).testBit i with
  | false => rfl
  | true =>
    rcases (mov_bit g i l 0).1 hb with h | ⟨p, hp, e⟩
    · simp at h
    · have hp2 : p < g.length := by rw [hg.1]; exact hl p hp
      rw [getD_of (List.getElem?_eq_getElem hp2)] at e
      have := hg.2.1 _ (List.getElem_mem hp2)
      omega
theorem mov_trace {g : List Int} {V b : Nat} (hV : V ≤ 64) (hg : Pm g V) (hb : b < 2 ^ V) : movL g (bitsL (traceB g b)) = b := by
  have h1 : traceB g b < 2 ^ V := by have := trace_lt g b; rwa [hg.1] at this
  exact trace_inj hg hV (mov_lt hg _ fun p hp => bits_lt h1 ((bitsL_mem _ _).1 hp).2) hb (trace_mov hV hg h1)
theorem mapB_one {x : Inc} (hx : x.Fam) : x.B.map (traceB (oneI x.V)) = x.B := by
  conv => rhs; rw [← List.map_id x.B]
  exact List.map_congr_left fun b hb => by rw [trace_one, Nat.mod_eq_of_lt (hx.lt b hb)]; rfl
theorem isG_iff {x : Inc} (hx : x.Fam) (g : List Int) : isG x g = true ↔ Aut x g := by
  have hv := hx.v7
  have hv1 := hx.ok.v1
  have h1 := mapB_one hx
  unfold isG Aut imageI OkM
  rw [decide_eq_true_eq]
  constructor
  · rintro ⟨hl, ⟨h3, h4, h5⟩, h6⟩
    have hd : Dif g x.V := by rw [← hl]; exact h5
    have hg : Pm g x.V := ⟨hl, hd⟩
    rw [if_pos hg] at h6
    refine ⟨hg, ?_⟩
    rw [hl, h1]
    have h7 : (movB g x.B).Perm x.B := by have := sortL_perm (movB g x.B); rw [show sortL (movB g x.B) = x.B from h6] at this; exact this.symm
    have h8 := h7.map (traceB g)
    refine List.Perm.trans ?_ h8
    unfold movB
    rw [List.map_map]
    refine List.Perm.of_eq ?_
    conv => lhs; rw [← List.map_id x.B]
    exact List.map_congr_left fun b hb => (trace_mov (by omega) hg (hx.lt b hb)).symm
  · rintro ⟨hg, h⟩
    have hl := hg.1
    rw [hl, h1] at h
    refine ⟨hl, ⟨by omega, by omega, by rw [hl]; exact hg.2⟩, ?_⟩
    rw [if_pos hg]
    show sortL (movB g x.B) = x.B
    refine (sort_uniq ?_ hx.s).symm
    have h8 := h.map (fun b => movL g (bitsL b))
    refine List.Perm.trans ?_ h8.symm
    rw [List.map_map]
    refine List.Perm.of_eq ?_
    conv => lhs; rw [← List.map_id x.B]
    exact List.map_congr_left fun b hb => (mov_trace (by omega) hg (hx.lt b hb)).symm
end Go.Proofs.YthfcfdlbnfcboaaDoor.Pw



set_option linter.unusedVariables false
set_option linter.unusedSimpArgs false
set_option maxHeartbeats 1000000
set_option maxRecDepth 10000
namespace Go.Proofs.YthfcfdlbnfcboaaDoor.Pw
open Go
abbrev Lvl := List (Int × List Int) × List (Int × Tree)
def lvlI (l : Lvl) : D := .agg [.list false (.agg [.leaf, .leaf]) (rchL l.1), .list false (.agg [.leaf, .agg [.leaf]]) (unsL l.2)]
def lvlsL (L : List Lvl) : List D := L.map lvlI
def prfI (L : List Lvl) : D := .agg [.list false (.agg [.leaf, .leaf]) (lvlsL L)]
@[simp] theorem lvlsL_len (L : List Lvl) : (lvlsL L).length = L.length := by simp [lvlsL]
def yesB (x : Inc) (i j : Nat) : List (Int × List Int) → Bool
  | [] => false
  | y :: _ => decide (y.1 = (j : Int)) && reachB x i y.1 y.2
def noB (x : Inc) (i j : Nat) : List (Int × Tree) → Bool
  | [] => false
  | u :: _ => decide (u.1 = (j : Int)) && chkM x x (preI i j) u.2
def lvRun (x : Inc) (i : Nat) : Nat → Nat → List (Int × List Int) → List (Int × Tree) → Bool
  | 0, _, ys, ns => decide (ys.length + ns.length = 0)
  | f + 1, j, ys, ns => if yesB x i j ys = true then lvRun x i f (j + 1) ys.tail ns else if noB x i j ns = true then lvRun x i f (j + 1) ys ns.tail else false
def chkAll (x : Inc) : Nat → Nat → List Lvl → Nat
  | _, n, [] => n
  | i, n, l :: L => if lvRun x i (x.V - i) i l.1 l.2 = true then chkAll x (i + 1) (n * l.1.length) L else 0
def chkN (x : Inc) (L : List Lvl) : Nat := if L.length = x.V then chkAll x 0 1 L else 0
def chkD (n : Nat) : D := .tuple [iD n, .int .i64 (if n = 0 then 200 else 0)]
end Go.Proofs.YthfcfdlbnfcboaaDoor.Pw

