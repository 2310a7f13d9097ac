/- Parts of the proof, merged: XU XV XW XY XZ YA YB YC YD YE YF YG YH YI ZA ZB YJ YK YL YN YO YP ZC YQ YM ZD YR ZE ZF ZG YS ZH ZI BA BB. -/
import Derived.Test.YtbpifoakbkmblaaGreatDoorXa
import Derived.Test.YtbpifoakbkmblaaGreatDoorPe

set_option linter.unusedVariables false
set_option linter.unusedSimpArgs false
set_option maxHeartbeats 40000000
set_option maxRecDepth 10000
namespace Go.Proofs.YtbpifoakbkmblaaGreatDoor.Pw
open Go
theorem FU {ρ : List Nat} {n n0 g s : Nat} {H : List Ob} {e e2 : Aj} (h : get e s = .yld g) (ht : ρ.take n0 = List.range n0) (hg : g < n0) (hn : n0 ≤ n) (h2 : Hb ρ n H e e2) : Hb ρ n H e ((s,.yld g) :: e2) :=
 Az (by rw [h];show D.yld g = D.yld _;rw [JC ht hg]) (by show Nat.blt g n = true;exact Nat.ble_eq_true_of_le (by omega)) h2
theorem AaP (
         x : Inc) (hx : x.Ok) (hx7 : x.V ≤ 7) (g : Nat) (hg : g < 4) (J : Nat → List Ob → Prop) (Q : D → List Ob → Prop)
  (hdp : ∀ i j,i ≤ j → j < x.V → De (Bh i j) x.V)
  (hJ : ∀ k H,J k H → ((∃ o0 o1 o2 o3,H = [o0,o1,o2,o3]) ∨ (∃ o0 o1 o2 o3 o4,H = [o0,o1,o2,o3,o4])) ∧ ∀ o ∈ H,A3 H.length o = true)
  (hyl : ∀ k H,J k H → k < x.V → YC Tryz.prog g [iD k,Qq (DL x k (x.V - k))] H (fun r H'=>Bs (B1 r = true ∧ ∃ σ O2,Sits H' σ O2 ∧ σ.take 4 = List.range 4 ∧ ((r = .bool true ∧ J (k + 1) O2) ∨ (r = .bool false ∧ Q (.tuple []) O2)))))
  (hend : ∀ H,J x.V H → Q (.tuple []) H) (H0 : List Ob) (hH0 : ∃ o0 o1 o2 o3,H0 = [o0,o1,o2,o3]) (h0 : J 0 H0) :
  HC Tryz.prog 74 [.yld g,.ref (.agg [.leaf,.leaf]) x.D] H0 Q:=by
 obtain ⟨o0,o1,o2,o3,rfl⟩:=hH0
 have hv:=hx.v
 refine HC.move (Q0:=fun r H'=>Bs (∃ σ O2,Sits H' σ O2 ∧ σ.take 4 = List.range 4 ∧ r = .tuple [] ∧ Q r O2)) ?_ ?_
 ·refine Ad (okc Tryz.f74.ntmps 4) (fn:=Tryz.f74) (cd:=_) rfl rfl rfl rfl rfl rfl (fun hbd=>?_)
  all_goals (conv=>whnf)
  refine Bq (X:=Nat × List Ob) (fun y=>[(0,.yld g),(1,.ref (.agg [.leaf,.leaf]) x.D),(11,iD x.V),(12,iD y.1)]) (fun y=>y.2) (fun y=>J y.1 y.2 ∧ y.1 ≤ x.V) (fun y=>x.V - y.1) ⟨_,A0 (0,[o0,o1,o2,o3]) Bl rfl (Nat.lt_succ_self _) ⟨h0,Nat.zero_le _⟩⟩ ?_
  rintro ⟨i,Hc⟩ ⟨hj,hi⟩
  dsimp only at hj hi ⊢
  clear h0
  obtain ⟨hcs,hin⟩:=hJ _ _ hj
  rcases hcs with ⟨o0,o1,o2,o3,rfl⟩|⟨o0,o1,o2,o3,o4,rfl⟩
  ·have hi0 : A3 4 o0 = true:=hin _ (by simp)
   have hi1 : A3 4 o1 = true:=hin _ (by simp)
   have hi2 : A3 4 o2 = true:=hin _ (by simp)
   have hi3 : A3 4 o3 = true:=hin _ (by simp)
   repeat' (
    conv=>whnf
    first
    |refine Al (fun h=>?_) (fun h=>?_))
   all_goals (conv=>whnf)
   ·refine Bq (X:=Nat × List (Nat × List Int) × List (Nat × Tree)) (fun y=>[(0,.yld g),(1,.ref (.agg [.leaf,.leaf]) x.D),(3,iD i),(4,.ptr 4 []),(5,iD (i + y.1)),(11,iD x.V),(12,iD i)]) (fun y=>[o0,o1,o2,o3] ++ Ft 4 y.2.1 y.2.2) (fun y=>i + y.1 ≤ x.V ∧ DL x i y.1 = (y.2.1,y.2.2)) (fun y=>x.V - i - y.1) ⟨_,A0 (0,[],[]) Bl rfl (Nat.lt_succ_self _) ⟨by dsimp only;omega,rfl⟩⟩ ?_
    rintro ⟨k,ys,ns⟩ ⟨hk,hlv⟩
    dsimp only at hk hlv ⊢
    have hlen:=Nc x i k
    rw [hlv] at hlen
    dsimp only at hlen
    rcases Nat.lt_or_ge (i + k) x.V with hlt|hge
    ·have hd:=hdp i (i + k) (by omega) hlt
     have hpl:=Hk i (i + k)
     have hmp:=AbM x x (Bh i (i + k)) hx hx hx7 hx7 (Xw _ _) hd (by omega)
     have hpr:=XX x x (Bh i (i + k)) hx hx hx7 hx7 hd (by omega)
     obtain ⟨ec,hec⟩:=Xy x x (Bh i (i + k))
     rw [hec] at hpr
     cases hm : DY x x (Bh i (i + k)) with
     |some m =>
      rw [hm] at hmp
      have hstep : DL x i (k + 1) = (ys ++ [(i + k,m)],ns):=by rw [DL,hm,hlv]
      cases ys with
      |nil =>
       cases ns with
       |nil =>
        simp only [List.length_cons,List.length_nil] at hlen
        repeat' (
         conv=>whnf
         first
         |refine Al (fun h=>?_) (fun h=>?_)
         |with_reducible refine Ap ?_
         |((with_reducible refine Bm ?_);refine Bo hmp ?_)
         |((with_reducible refine Bm ?_);refine Bo (BU _ _ (by omega)) ?_)
         |((with_reducible apply A2 9);rfl)
         |((with_reducible apply ob);(exact oT))
         |refine DQ ?_)
        all_goals (conv=>whnf)
        all_goals (first|exact Cq (by unfold Bx;simp;omega)|exact absurd (by assumption : ¬ _) (by omega)|skip)
        ·refine nx (k + 1,[] ++ [(i + k,m)],[]) [0,1,2,3,4,6] (by (repeat (first|exact trivial|refine Az rfl rfl ?_|refine FU (n0:=4) rfl rfl hg (by simp only [List.length_append,List.length_cons,List.length_nil];omega) ?_))) ?_ rfl rfl (by dsimp only;omega) ⟨by dsimp only;omega,hstep⟩
         dsimp only [Ft]
         simp only [List.length_append,List.length_cons,List.length_nil,Nat.zero_add]
         (repeat (first|exact trivial|refine IG (n0:=4) (by assumption) rfl (by omega) rfl ?_|refine Ba rfl rfl ?_|refine Bc rfl (by first|rfl|(dsimp only;rw [IK,List.map_append];rfl)) (by first|exact Cp _|exact Dx _) ?_))
       |cons n0 ns =>
        simp only [List.length_cons,List.length_nil] at hlen
        repeat' (
         conv=>whnf
         first
         |refine Al (fun h=>?_) (fun h=>?_)
         |with_reducible refine Ap ?_
         |((with_reducible refine Bm ?_);refine Bo hmp ?_)
         |((with_reducible refine Bm ?_);refine Bo (BU _ _ (by omega)) ?_)
         |((with_reducible apply A2 9);rfl)
         |((with_reducible apply ob);(exact oT))
         |refine DQ ?_)
        all_goals (conv=>whnf)
        all_goals (first|exact Cq (by unfold Bx;simp;omega)|exact absurd (by assumption : ¬ _) (by omega)|skip)
        ·refine nx (k + 1,[] ++ [(i + k,m)],(n0 :: ns)) [0,1,2,3,4,7,5] (by (repeat (first|exact trivial|refine Az rfl rfl ?_|refine FU (n0:=4) rfl rfl hg (by simp only [List.length_append,List.length_cons,List.length_nil];omega) ?_))) ?_ rfl rfl (by dsimp only;omega) ⟨by dsimp only;omega,hstep⟩
         dsimp only [Ft]
         simp only [List.length_append,List.length_cons,List.length_nil,Nat.zero_add]
         (repeat (first|exact trivial|refine IG (n0:=4) (by assumption) rfl (by omega) rfl ?_|refine Ba rfl rfl ?_|refine Bc rfl (by first|rfl|(dsimp only;rw [IK,List.map_append];rfl)) (by first|exact Cp _|exact Dx _) ?_))
      |cons y0 ys =>
       cases ns with
       |nil =>
        simp only [List.length_cons,List.length_nil] at hlen
        repeat' (
         conv=>whnf
         first
         |refine Al (fun h=>?_) (fun h=>?_)
         |with_reducible refine Ap ?_
         |((with_reducible refine Bm ?_);refine Bo hmp ?_)
         |((with_reducible refine Bm ?_);refine Bo (BU _ _ (by omega)) ?_)
         |((with_reducible apply A2 9);rfl)
         |((with_reducible apply ob);(exact oT))
         |refine DQ ?_)
        all_goals (conv=>whnf)
        all_goals (first|exact Cq (by unfold Bx;simp;omega)|exact absurd (by assumption : ¬ _) (by omega)|skip)
        ·refine nx (k + 1,(y0 :: ys) ++ [(i + k,m)],[]) [0,1,2,3,4,7] (by (repeat (first|exact trivial|refine Az rfl rfl ?_|refine FU (n0:=4) rfl rfl hg (by simp only [List.length_append,List.length_cons,List.length_nil];omega) ?_))) ?_ rfl rfl (by dsimp only;omega) ⟨by dsimp only;omega,hstep⟩
         dsimp only [Ft]
         simp only [List.length_append,List.length_cons,List.length_nil,Nat.zero_add]
         (repeat (first|exact trivial|refine IG (n0:=4) (by assumption) rfl (by omega) rfl ?_|refine Ba rfl rfl ?_|refine Bc rfl (by first|rfl|(dsimp only;rw [IK,List.map_append];rfl)) (by first|exact Cp _|exact Dx _) ?_))
       |cons n0 ns =>
        simp only [List.length_cons,List.length_nil] at hlen
        repeat' (
         conv=>whnf
         first
         |refine Al (fun h=>?_) (fun h=>?_)
         |with_reducible refine Ap ?_
         |((with_reducible refine Bm ?_);refine Bo hmp ?_)
         |((with_reducible refine Bm ?_);refine Bo (BU _ _ (by omega)) ?_)
         |((with_reducible apply A2 9);rfl)
         |((with_reducible apply ob);(exact oT))
         |refine DQ ?_)
        all_goals (conv=>whnf)
        all_goals (first|exact Cq (by unfold Bx;simp;omega)|exact absurd (by assumption : ¬ _) (by omega)|skip)
        ·refine nx (k + 1,(y0 :: ys) ++ [(i + k,m)],(n0 :: ns)) [0,1,2,3,4,8,6] (by (repeat (first|exact trivial|refine Az rfl rfl ?_|refine FU (n0:=4) rfl rfl hg (by simp only [List.length_append,List.length_cons,List.length_nil];omega) ?_))) ?_ rfl rfl (by dsimp only;omega) ⟨by dsimp only;omega,hstep⟩
         dsimp only [Ft]
         simp only [List.length_append,List.length_cons,List.length_nil,Nat.zero_add]
         (repeat (first|exact trivial|refine IG (n0:=4) (by assumption) rfl (by omega) rfl ?_|refine Ba rfl rfl ?_|refine Bc rfl (by first|rfl|(dsimp only;rw [IK,List.map_append];rfl)) (by first|exact Cp _|exact Dx _) ?_))
     |none =>
      rw [hm] at hmp
      have hstep : DL x i (k + 1) = (ys,ns ++ [(i + k,HD x x (Bh i (i + k)))]):=by rw [DL,hm,hlv]
      cases hT : HD x x (Bh i (i + k)) with
      |node kids =>
      rw [hT] at hpr hstep
      cases ys with
      |nil =>
       cases ns with
       |nil =>
        simp only [List.length_cons,List.length_nil] at hlen
        repeat' (
         conv=>whnf
         first
         |refine Al (fun h=>?_) (fun h=>?_)
         |with_reducible refine Ap ?_
         |((with_reducible refine Bm ?_);refine Bo hmp ?_)
         |((with_reducible refine Bm ?_);refine Bo hpr ?_)
         |((with_reducible refine Bm ?_);refine Bo (BU _ _ (by omega)) ?_)
         |((with_reducible apply A2 9);rfl)
         |((with_reducible apply A2 10);rfl)
         |((with_reducible apply ob);(exact oT))
         |refine DQ ?_)
        all_goals (conv=>whnf)
        all_goals (first|exact Cq (by unfold Bx;simp;omega)|exact absurd (by assumption : ¬ _) (by omega)|skip)
        ·refine nx (k + 1,[],[] ++ [(i + k,Tree.node kids)]) [0,1,2,3,4,7] (by (repeat (first|exact trivial|refine Az rfl rfl ?_|refine FU (n0:=4) rfl rfl hg (by simp only [List.length_append,List.length_cons,List.length_nil];omega) ?_))) ?_ rfl rfl (by dsimp only;omega) ⟨by dsimp only;omega,hstep⟩
         dsimp only [Ft]
         simp only [List.length_append,List.length_cons,List.length_nil,Nat.zero_add]
         (repeat (first|exact trivial|refine IG (n0:=4) (by assumption) rfl (by omega) rfl ?_|refine Ba rfl rfl ?_|refine Bc rfl (by first|rfl|(dsimp only;rw [IK,List.map_append];rfl)) (by first|exact Cp _|exact Dx _) ?_))
       |cons n0 ns =>
        simp only [List.length_cons,List.length_nil] at hlen
        repeat' (
         conv=>whnf
         first
         |refine Al (fun h=>?_) (fun h=>?_)
         |with_reducible refine Ap ?_
         |((with_reducible refine Bm ?_);refine Bo hmp ?_)
         |((with_reducible refine Bm ?_);refine Bo hpr ?_)
         |((with_reducible refine Bm ?_);refine Bo (BU _ _ (by omega)) ?_)
         |((with_reducible apply A2 9);rfl)
         |((with_reducible apply A2 10);rfl)
         |((with_reducible apply ob);(exact oT))
         |refine DQ ?_)
        all_goals (conv=>whnf)
        all_goals (first|exact Cq (by unfold Bx;simp;omega)|exact absurd (by assumption : ¬ _) (by omega)|skip)
        ·refine nx (k + 1,[],(n0 :: ns) ++ [(i + k,Tree.node kids)]) [0,1,2,3,4,8] (by (repeat (first|exact trivial|refine Az rfl rfl ?_|refine FU (n0:=4) rfl rfl hg (by simp only [List.length_append,List.length_cons,List.length_nil];omega) ?_))) ?_ rfl rfl (by dsimp only;omega) ⟨by dsimp only;omega,hstep⟩
         dsimp only [Ft]
         simp only [List.length_append,List.length_cons,List.length_nil,Nat.zero_add]
         (repeat (first|exact trivial|refine IG (n0:=4) (by assumption) rfl (by omega) rfl ?_|refine Ba rfl rfl ?_|refine Bc rfl (by first|rfl|(dsimp only;rw [IK,List.map_append];rfl)) (by first|exact Cp _|exact Dx _) ?_))
      |cons y0 ys =>
       cases ns with
       |nil =>
        simp only [List.length_cons,List.length_nil] at hlen
        repeat' (
         conv=>whnf
         first
         |refine Al (fun h=>?_) (fun h=>?_)
         |with_reducible refine Ap ?_
         |((with_reducible refine Bm ?_);refine Bo hmp ?_)
         |((with_reducible refine Bm ?_);refine Bo hpr ?_)
         |((with_reducible refine Bm ?_);refine Bo (BU _ _ (by omega)) ?_)
         |((with_reducible apply A2 9);rfl)
         |((with_reducible apply A2 10);rfl)
         |((with_reducible apply ob);(exact oT))
         |refine DQ ?_)
        all_goals (conv=>whnf)
        all_goals (first|exact Cq (by unfold Bx;simp;omega)|exact absurd (by assumption : ¬ _) (by omega)|skip)
        ·refine nx (k + 1,(y0 :: ys),[] ++ [(i + k,Tree.node kids)]) [0,1,2,3,4,5,8] (by (repeat (first|exact trivial|refine Az rfl rfl ?_|refine FU (n0:=4) rfl rfl hg (by simp only [List.length_append,List.length_cons,List.length_nil];omega) ?_))) ?_ rfl rfl (by dsimp only;omega) ⟨by dsimp only;omega,hstep⟩
         dsimp only [Ft]
         simp only [List.length_append,List.length_cons,List.length_nil,Nat.zero_add]
         (repeat (first|exact trivial|refine IG (n0:=4) (by assumption) rfl (by omega) rfl ?_|refine Ba rfl rfl ?_|refine Bc rfl (by first|rfl|(dsimp only;rw [IK,List.map_append];rfl)) (by first|exact Cp _|exact Dx _) ?_))
       |cons n0 ns =>
        simp only [List.length_cons,List.length_nil] at hlen
        repeat' (
         conv=>whnf
         first
         |refine Al (fun h=>?_) (fun h=>?_)
         |with_reducible refine Ap ?_
         |((with_reducible refine Bm ?_);refine Bo hmp ?_)
         |((with_reducible refine Bm ?_);refine Bo hpr ?_)
         |((with_reducible refine Bm ?_);refine Bo (BU _ _ (by omega)) ?_)
         |((with_reducible apply A2 9);rfl)
         |((with_reducible apply A2 10);rfl)
         |((with_reducible apply ob);(exact oT))
         |refine DQ ?_)
        all_goals (conv=>whnf)
        all_goals (first|exact Cq (by unfold Bx;simp;omega)|exact absurd (by assumption : ¬ _) (by omega)|skip)
        ·refine nx (k + 1,(y0 :: ys),(n0 :: ns) ++ [(i + k,Tree.node kids)]) [0,1,2,3,4,5,9] (by (repeat (first|exact trivial|refine Az rfl rfl ?_|refine FU (n0:=4) rfl rfl hg (by simp only [List.length_append,List.length_cons,List.length_nil];omega) ?_))) ?_ rfl rfl (by dsimp only;omega) ⟨by dsimp only;omega,hstep⟩
         dsimp only [Ft]
         simp only [List.length_append,List.length_cons,List.length_nil,Nat.zero_add]
         (repeat (first|exact trivial|refine IG (n0:=4) (by assumption) rfl (by omega) rfl ?_|refine Ba rfl rfl ?_|refine Bc rfl (by first|rfl|(dsimp only;rw [IK,List.map_append];rfl)) (by first|exact Cp _|exact Dx _) ?_))
    ·have hiV : i < x.V:=by omega
     have hkV : k = x.V - i:=by omega
     have hY:=hyl i _ hj hiV
     rw [← hkV,hlv] at hY
     cases ys with
     |nil =>
      cases ns with
      |nil =>
       repeat' (
        conv=>whnf
        first
        |refine Al (fun h=>?_) (fun h=>?_)
        |((with_reducible refine Bm ?_);refine Bo (BU _ _ (by omega)) ?_)
        |((with_reducible apply A2 9);rfl)
        |refine DQ ?_)
       all_goals (conv=>whnf)
       all_goals (first|exact absurd (by assumption : (_ : Int) < _) (by omega)|skip)
       refine EW 4 (Hc:=[o0,o1,o2,o3]) (Y:=Ft 4 [] []) (Y1:=[_]) hY (by simp;omega) (by simp) (.refl _) hin (.cons _ _ _ _ (.refl _) (.cons _ _ _ _ (.agg _ _ (.cons _ _ _ _ (.nils _) (.cons _ _ _ _ (.nils _) .nil)) rfl) .nil)) rfl ?_
       intro r H' σ O2 hs hσ hcase
       rcases hcase with ⟨rfl,hJ'⟩|⟨rfl,hQ'⟩
       ·repeat' (
         conv=>whnf
         first
         |with_reducible refine Ap ?_)
        all_goals (conv=>whnf)
        exact nx (i + 1,O2) σ (by have:=take_len hσ;have:=Eg hs;(repeat (first|exact trivial|refine Az rfl rfl ?_|refine FU rfl hσ hg (by dsimp only;omega) ?_))) hs.sub hs.nd hσ (by dsimp only;omega) ⟨hJ',by dsimp only;omega⟩
       ·all_goals (conv=>whnf)
        exact Ab ⟨σ,O2,hs,hσ,rfl,hQ'⟩
      |cons n0 ns =>
       repeat' (
        conv=>whnf
        first
        |refine Al (fun h=>?_) (fun h=>?_)
        |((with_reducible refine Bm ?_);refine Bo (BU _ _ (by omega)) ?_)
        |((with_reducible apply A2 9);rfl)
        |refine DQ ?_)
       all_goals (conv=>whnf)
       all_goals (first|exact absurd (by assumption : (_ : Int) < _) (by omega)|skip)
       refine EW 4 (Hc:=[o0,o1,o2,o3]) (Y:=Ft 4 [] (n0 :: ns)) (Y1:=[_,.frz (.agg [.leaf,.agg [.leaf]]) ((n0 :: ns).map Jj)]) hY (by simp;omega) (by simp) (.step 5 (.agg [.leaf,.agg [.leaf]]) ((n0 :: ns).map Jj) rfl (Dx _) (.refl _)) hin (.cons _ _ _ _ (.refl _) (.cons _ _ _ _ (.agg _ _ (.cons _ _ _ _ (.nils _) (.cons _ _ _ _ (A9 rfl (by simp)) .nil)) rfl) .nil)) rfl ?_
       intro r H' σ O2 hs hσ hcase
       rcases hcase with ⟨rfl,hJ'⟩|⟨rfl,hQ'⟩
       ·repeat' (
         conv=>whnf
         first
         |with_reducible refine Ap ?_)
        all_goals (conv=>whnf)
        exact nx (i + 1,O2) σ (by have:=take_len hσ;have:=Eg hs;(repeat (first|exact trivial|refine Az rfl rfl ?_|refine FU rfl hσ hg (by dsimp only;omega) ?_))) hs.sub hs.nd hσ (by dsimp only;omega) ⟨hJ',by dsimp only;omega⟩
       ·all_goals (conv=>whnf)
        exact Ab ⟨σ,O2,hs,hσ,rfl,hQ'⟩
     |cons y0 ys =>
      cases ns with
      |nil =>
       repeat' (
        conv=>whnf
        first
        |refine Al (fun h=>?_) (fun h=>?_)
        |((with_reducible refine Bm ?_);refine Bo (BU _ _ (by omega)) ?_)
        |((with_reducible apply A2 9);rfl)
        |refine DQ ?_)
       all_goals (conv=>whnf)
       all_goals (first|exact absurd (by assumption : (_ : Int) < _) (by omega)|skip)
       refine EW 4 (Hc:=[o0,o1,o2,o3]) (Y:=Ft 4 (y0 :: ys) []) (Y1:=[_,.frz (.agg [.leaf,.leaf]) ((y0 :: ys).map Gn)]) hY (by simp;omega) (by simp) (.step 5 (.agg [.leaf,.leaf]) ((y0 :: ys).map Gn) rfl (Cp _) (.refl _)) hin (.cons _ _ _ _ (.refl _) (.cons _ _ _ _ (.agg _ _ (.cons _ _ _ _ (A9 rfl (by simp)) (.cons _ _ _ _ (.nils _) .nil)) rfl) .nil)) rfl ?_
       intro r H' σ O2 hs hσ hcase
       rcases hcase with ⟨rfl,hJ'⟩|⟨rfl,hQ'⟩
       ·repeat' (
         conv=>whnf
         first
         |with_reducible refine Ap ?_)
        all_goals (conv=>whnf)
        exact nx (i + 1,O2) σ (by have:=take_len hσ;have:=Eg hs;(repeat (first|exact trivial|refine Az rfl rfl ?_|refine FU rfl hσ hg (by dsimp only;omega) ?_))) hs.sub hs.nd hσ (by dsimp only;omega) ⟨hJ',by dsimp only;omega⟩
       ·all_goals (conv=>whnf)
        exact Ab ⟨σ,O2,hs,hσ,rfl,hQ'⟩
      |cons n0 ns =>
       repeat' (
        conv=>whnf
        first
        |refine Al (fun h=>?_) (fun h=>?_)
        |((with_reducible refine Bm ?_);refine Bo (BU _ _ (by omega)) ?_)
        |((with_reducible apply A2 9);rfl)
        |refine DQ ?_)
       all_goals (conv=>whnf)
       all_goals (first|exact absurd (by assumption : (_ : Int) < _) (by omega)|skip)
       refine EW 4 (Hc:=[o0,o1,o2,o3]) (Y:=Ft 4 (y0 :: ys) (n0 :: ns)) (Y1:=[_,.frz (.agg [.leaf,.leaf]) ((y0 :: ys).map Gn),.frz (.agg [.leaf,.agg [.leaf]]) ((n0 :: ns).map Jj)]) hY (by simp;omega) (by simp) (.step 5 (.agg [.leaf,.leaf]) ((y0 :: ys).map Gn) rfl (Cp _) (.step 6 (.agg [.leaf,.agg [.leaf]]) ((n0 :: ns).map Jj) rfl (Dx _) (.refl _))) hin (.cons _ _ _ _ (.refl _) (.cons _ _ _ _ (.agg _ _ (.cons _ _ _ _ (A9 rfl (by simp)) (.cons _ _ _ _ (A9 rfl (by simp)) .nil)) rfl) .nil)) rfl ?_
       intro r H' σ O2 hs hσ hcase
       rcases hcase with ⟨rfl,hJ'⟩|⟨rfl,hQ'⟩
       ·repeat' (
         conv=>whnf
         first
         |with_reducible refine Ap ?_)
        all_goals (conv=>whnf)
        exact nx (i + 1,O2) σ (by have:=take_len hσ;have:=Eg hs;(repeat (first|exact trivial|refine Az rfl rfl ?_|refine FU rfl hσ hg (by dsimp only;omega) ?_))) hs.sub hs.nd hσ (by dsimp only;omega) ⟨hJ',by dsimp only;omega⟩
       ·all_goals (conv=>whnf)
        exact Ab ⟨σ,O2,hs,hσ,rfl,hQ'⟩
   ·have hiV : i = x.V:=by omega
    subst hiV
    exact Ab ⟨List.range 4,[o0,o1,o2,o3],⟨by have:=EL [o0,o1,o2,o3] [] hin;simpa using this,CG _,by simp⟩,rfl,rfl,hend _ hj⟩
  ·have hi0 : A3 5 o0 = true:=hin _ (by simp)
   have hi1 : A3 5 o1 = true:=hin _ (by simp)
   have hi2 : A3 5 o2 = true:=hin _ (by simp)
   have hi3 : A3 5 o3 = true:=hin _ (by simp)
   have hi4 : A3 5 o4 = true:=hin _ (by simp)
   repeat' (
    conv=>whnf
    first
    |refine Al (fun h=>?_) (fun h=>?_))
   all_goals (conv=>whnf)
   ·refine Bq (X:=Nat × List (Nat × List Int) × List (Nat × Tree)) (fun y=>[(0,.yld g),(1,.ref (.agg [.leaf,.leaf]) x.D),(3,iD i),(4,.ptr 5 []),(5,iD (i + y.1)),(11,iD x.V),(12,iD i)]) (fun y=>[o0,o1,o2,o3,o4] ++ Ft 5 y.2.1 y.2.2) (fun y=>i + y.1 ≤ x.V ∧ DL x i y.1 = (y.2.1,y.2.2)) (fun y=>x.V - i - y.1) ⟨_,A0 (0,[],[]) Bl rfl (Nat.lt_succ_self _) ⟨by dsimp only;omega,rfl⟩⟩ ?_
    rintro ⟨k,ys,ns⟩ ⟨hk,hlv⟩
    dsimp only at hk hlv ⊢
    have hlen:=Nc x i k
    rw [hlv] at hlen
    dsimp only at hlen
    rcases Nat.lt_or_ge (i + k) x.V with hlt|hge
    ·have hd:=hdp i (i + k) (by omega) hlt
     have hpl:=Hk i (i + k)
     have hmp:=AbM x x (Bh i (i + k)) hx hx hx7 hx7 (Xw _ _) hd (by omega)
     have hpr:=XX x x (Bh i (i + k)) hx hx hx7 hx7 hd (by omega)
     obtain ⟨ec,hec⟩:=Xy x x (Bh i (i + k))
     rw [hec] at hpr
     cases hm : DY x x (Bh i (i + k)) with
     |some m =>
      rw [hm] at hmp
      have hstep : DL x i (k + 1) = (ys ++ [(i + k,m)],ns):=by rw [DL,hm,hlv]
      cases ys with
      |nil =>
       cases ns with
       |nil =>
        simp only [List.length_cons,List.length_nil] at hlen
        repeat' (
         conv=>whnf
         first
         |refine Al (fun h=>?_) (fun h=>?_)
         |with_reducible refine Ap ?_
         |((with_reducible refine Bm ?_);refine Bo hmp ?_)
         |((with_reducible refine Bm ?_);refine Bo (BU _ _ (by omega)) ?_)
         |((with_reducible apply A2 9);rfl)
         |((with_reducible apply ob);(exact oT))
         |refine DQ ?_)
        all_goals (conv=>whnf)
        all_goals (first|exact Cq (by unfold Bx;simp;omega)|exact absurd (by assumption : ¬ _) (by omega)|skip)
        ·refine nx (k + 1,[] ++ [(i + k,m)],[]) [0,1,2,3,4,5,7] (by (repeat (first|exact trivial|refine Az rfl rfl ?_|refine FU (n0:=4) rfl rfl hg (by simp only [List.length_append,List.length_cons,List.length_nil];omega) ?_))) ?_ rfl rfl (by dsimp only;omega) ⟨by dsimp only;omega,hstep⟩
         dsimp only [Ft]
         simp only [List.length_append,List.length_cons,List.length_nil,Nat.zero_add]
         (repeat (first|exact trivial|refine IG (n0:=5) (by assumption) rfl (by omega) rfl ?_|refine Ba rfl rfl ?_|refine Bc rfl (by first|rfl|(dsimp only;rw [IK,List.map_append];rfl)) (by first|exact Cp _|exact Dx _) ?_))
       |cons n0 ns =>
        simp only [List.length_cons,List.length_nil] at hlen
        repeat' (
         conv=>whnf
         first
         |refine Al (fun h=>?_) (fun h=>?_)
         |with_reducible refine Ap ?_
         |((with_reducible refine Bm ?_);refine Bo hmp ?_)
         |((with_reducible refine Bm ?_);refine Bo (BU _ _ (by omega)) ?_)
         |((with_reducible apply A2 9);rfl)
         |((with_reducible apply ob);(exact oT))
         |refine DQ ?_)
        all_goals (conv=>whnf)
        all_goals (first|exact Cq (by unfold Bx;simp;omega)|exact absurd (by assumption : ¬ _) (by omega)|skip)
        ·refine nx (k + 1,[] ++ [(i + k,m)],(n0 :: ns)) [0,1,2,3,4,5,8,6] (by (repeat (first|exact trivial|refine Az rfl rfl ?_|refine FU (n0:=4) rfl rfl hg (by simp only [List.length_append,List.length_cons,List.length_nil];omega) ?_))) ?_ rfl rfl (by dsimp only;omega) ⟨by dsimp only;omega,hstep⟩
         dsimp only [Ft]
         simp only [List.length_append,List.length_cons,List.length_nil,Nat.zero_add]
         (repeat (first|exact trivial|refine IG (n0:=5) (by assumption) rfl (by omega) rfl ?_|refine Ba rfl rfl ?_|refine Bc rfl (by first|rfl|(dsimp only;rw [IK,List.map_append];rfl)) (by first|exact Cp _|exact Dx _) ?_))
      |cons y0 ys =>
       cases ns with
       |nil =>
        simp only [List.length_cons,List.length_nil] at hlen
        repeat' (
         conv=>whnf
         first
         |refine Al (fun h=>?_) (fun h=>?_)
         |with_reducible refine Ap ?_
         |((with_reducible refine Bm ?_);refine Bo hmp ?_)
         |((with_reducible refine Bm ?_);refine Bo (BU _ _ (by omega)) ?_)
         |((with_reducible apply A2 9);rfl)
         |((with_reducible apply ob);(exact oT))
         |refine DQ ?_)
        all_goals (conv=>whnf)
        all_goals (first|exact Cq (by unfold Bx;simp;omega)|exact absurd (by assumption : ¬ _) (by omega)|skip)
        ·refine nx (k + 1,(y0 :: ys) ++ [(i + k,m)],[]) [0,1,2,3,4,5,8] (by (repeat (first|exact trivial|refine Az rfl rfl ?_|refine FU (n0:=4) rfl rfl hg (by simp only [List.length_append,List.length_cons,List.length_nil];omega) ?_))) ?_ rfl rfl (by dsimp only;omega) ⟨by dsimp only;omega,hstep⟩
         dsimp only [Ft]
         simp only [List.length_append,List.length_cons,List.length_nil,Nat.zero_add]
         (repeat (first|exact trivial|refine IG (n0:=5) (by assumption) rfl (by omega) rfl ?_|refine Ba rfl rfl ?_|refine Bc rfl (by first|rfl|(dsimp only;rw [IK,List.map_append];rfl)) (by first|exact Cp _|exact Dx _) ?_))
       |cons n0 ns =>
        simp only [List.length_cons,List.length_nil] at hlen
        repeat' (
         conv=>whnf
         first
         |refine Al (fun h=>?_) (fun h=>?_)
         |with_reducible refine Ap ?_
         |((with_reducible refine Bm ?_);refine Bo hmp ?_)
         |((with_reducible refine Bm ?_);refine Bo (BU _ _ (by omega)) ?_)
         |((with_reducible apply A2 9);rfl)
         |((with_reducible apply ob);(exact oT))
         |refine DQ ?_)
        all_goals (conv=>whnf)
        all_goals (first|exact Cq (by unfold Bx;simp;omega)|exact absurd (by assumption : ¬ _) (by omega)|skip)
        ·refine nx (k + 1,(y0 :: ys) ++ [(i + k,m)],(n0 :: ns)) [0,1,2,3,4,5,9,7] (by (repeat (first|exact trivial|refine Az rfl rfl ?_|refine FU (n0:=4) rfl rfl hg (by simp only [List.length_append,List.length_cons,List.length_nil];omega) ?_))) ?_ rfl rfl (by dsimp only;omega) ⟨by dsimp only;omega,hstep⟩
         dsimp only [Ft]
         simp only [List.length_append,List.length_cons,List.length_nil,Nat.zero_add]
         (repeat (first|exact trivial|refine IG (n0:=5) (by assumption) rfl (by omega) rfl ?_|refine Ba rfl rfl ?_|refine Bc rfl (by first|rfl|(dsimp only;rw [IK,List.map_append];rfl)) (by first|exact Cp _|exact Dx _) ?_))
     |none =>
      rw [hm] at hmp
      have hstep : DL x i (k + 1) = (ys,ns ++ [(i + k,HD x x (Bh i (i + k)))]):=by rw [DL,hm,hlv]
      cases hT : HD x x (Bh i (i + k)) with
      |node kids =>
      rw [hT] at hpr hstep
      cases ys with
      |nil =>
       cases ns with
       |nil =>
        simp only [List.length_cons,List.length_nil] at hlen
        repeat' (
         conv=>whnf
         first
         |refine Al (fun h=>?_) (fun h=>?_)
         |with_reducible refine Ap ?_
         |((with_reducible refine Bm ?_);refine Bo hmp ?_)
         |((with_reducible refine Bm ?_);refine Bo hpr ?_)
         |((with_reducible refine Bm ?_);refine Bo (BU _ _ (by omega)) ?_)
         |((with_reducible apply A2 9);rfl)
         |((with_reducible apply A2 10);rfl)
         |((with_reducible apply ob);(exact oT))
         |refine DQ ?_)
        all_goals (conv=>whnf)
        all_goals (first|exact Cq (by unfold Bx;simp;omega)|exact absurd (by assumption : ¬ _) (by omega)|skip)
        ·refine nx (k + 1,[],[] ++ [(i + k,Tree.node kids)]) [0,1,2,3,4,5,8] (by (repeat (first|exact trivial|refine Az rfl rfl ?_|refine FU (n0:=4) rfl rfl hg (by simp only [List.length_append,List.length_cons,List.length_nil];omega) ?_))) ?_ rfl rfl (by dsimp only;omega) ⟨by dsimp only;omega,hstep⟩
         dsimp only [Ft]
         simp only [List.length_append,List.length_cons,List.length_nil,Nat.zero_add]
         (repeat (first|exact trivial|refine IG (n0:=5) (by assumption) rfl (by omega) rfl ?_|refine Ba rfl rfl ?_|refine Bc rfl (by first|rfl|(dsimp only;rw [IK,List.map_append];rfl)) (by first|exact Cp _|exact Dx _) ?_))
       |cons n0 ns =>
        simp only [List.length_cons,List.length_nil] at hlen
        repeat' (
         conv=>whnf
         first
         |refine Al (fun h=>?_) (fun h=>?_)
         |with_reducible refine Ap ?_
         |((with_reducible refine Bm ?_);refine Bo hmp ?_)
         |((with_reducible refine Bm ?_);refine Bo hpr ?_)
         |((with_reducible refine Bm ?_);refine Bo (BU _ _ (by omega)) ?_)
         |((with_reducible apply A2 9);rfl)
         |((with_reducible apply A2 10);rfl)
         |((with_reducible apply ob);(exact oT))
         |refine DQ ?_)
        all_goals (conv=>whnf)
        all_goals (first|exact Cq (by unfold Bx;simp;omega)|exact absurd (by assumption : ¬ _) (by omega)|skip)
        ·refine nx (k + 1,[],(n0 :: ns) ++ [(i + k,Tree.node kids)]) [0,1,2,3,4,5,9] (by (repeat (first|exact trivial|refine Az rfl rfl ?_|refine FU (n0:=4) rfl rfl hg (by simp only [List.length_append,List.length_cons,List.length_nil];omega) ?_))) ?_ rfl rfl (by dsimp only;omega) ⟨by dsimp only;omega,hstep⟩
         dsimp only [Ft]
         simp only [List.length_append,List.length_cons,List.length_nil,Nat.zero_add]
         (repeat (first|exact trivial|refine IG (n0:=5) (by assumption) rfl (by omega) rfl ?_|refine Ba rfl rfl ?_|refine Bc rfl (by first|rfl|(dsimp only;rw [IK,List.map_append];rfl)) (by first|exact Cp _|exact Dx _) ?_))
      |cons y0 ys =>
       cases ns with
       |nil =>
        simp only [List.length_cons,List.length_nil] at hlen
        repeat' (
         conv=>whnf
         first
         |refine Al (fun h=>?_) (fun h=>?_)
         |with_reducible refine Ap ?_
         |((with_reducible refine Bm ?_);refine Bo hmp ?_)
         |((with_reducible refine Bm ?_);refine Bo hpr ?_)
         |((with_reducible refine Bm ?_);refine Bo (BU _ _ (by omega)) ?_)
         |((with_reducible apply A2 9);rfl)
         |((with_reducible apply A2 10);rfl)
         |((with_reducible apply ob);(exact oT))
         |refine DQ ?_)
        all_goals (conv=>whnf)
        all_goals (first|exact Cq (by unfold Bx;simp;omega)|exact absurd (by assumption : ¬ _) (by omega)|skip)
        ·refine nx (k + 1,(y0 :: ys),[] ++ [(i + k,Tree.node kids)]) [0,1,2,3,4,5,6,9] (by (repeat (first|exact trivial|refine Az rfl rfl ?_|refine FU (n0:=4) rfl rfl hg (by simp only [List.length_append,List.length_cons,List.length_nil];omega) ?_))) ?_ rfl rfl (by dsimp only;omega) ⟨by dsimp only;omega,hstep⟩
         dsimp only [Ft]
         simp only [List.length_append,List.length_cons,List.length_nil,Nat.zero_add]
         (repeat (first|exact trivial|refine IG (n0:=5) (by assumption) rfl (by omega) rfl ?_|refine Ba rfl rfl ?_|refine Bc rfl (by first|rfl|(dsimp only;rw [IK,List.map_append];rfl)) (by first|exact Cp _|exact Dx _) ?_))
       |cons n0 ns =>
        simp only [List.length_cons,List.length_nil] at hlen
        repeat' (
         conv=>whnf
         first
         |refine Al (fun h=>?_) (fun h=>?_)
         |with_reducible refine Ap ?_
         |((with_reducible refine Bm ?_);refine Bo hmp ?_)
         |((with_reducible refine Bm ?_);refine Bo hpr ?_)
         |((with_reducible refine Bm ?_);refine Bo (BU _ _ (by omega)) ?_)
         |((with_reducible apply A2 9);rfl)
         |((with_reducible apply A2 10);rfl)
         |((with_reducible apply ob);(exact oT))
         |refine DQ ?_)
        all_goals (conv=>whnf)
        all_goals (first|exact Cq (by unfold Bx;simp;omega)|exact absurd (by assumption : ¬ _) (by omega)|skip)
        ·refine nx (k + 1,(y0 :: ys),(n0 :: ns) ++ [(i + k,Tree.node kids)]) [0,1,2,3,4,5,6,10] (by (repeat (first|exact trivial|refine Az rfl rfl ?_|refine FU (n0:=4) rfl rfl hg (by simp only [List.length_append,List.length_cons,List.length_nil];omega) ?_))) ?_ rfl rfl (by dsimp only;omega) ⟨by dsimp only;omega,hstep⟩
         dsimp only [Ft]
         simp only [List.length_append,List.length_cons,List.length_nil,Nat.zero_add]
         (repeat (first|exact trivial|refine IG (n0:=5) (by assumption) rfl (by omega) rfl ?_|refine Ba rfl rfl ?_|refine Bc rfl (by first|rfl|(dsimp only;rw [IK,List.map_append];rfl)) (by first|exact Cp _|exact Dx _) ?_))
    ·have hiV : i < x.V:=by omega
     have hkV : k = x.V - i:=by omega
     have hY:=hyl i _ hj hiV
     rw [← hkV,hlv] at hY
     cases ys with
     |nil =>
      cases ns with
      |nil =>
       repeat' (
        conv=>whnf
        first
        |refine Al (fun h=>?_) (fun h=>?_)
        |((with_reducible refine Bm ?_);refine Bo (BU _ _ (by omega)) ?_)
        |((with_reducible apply A2 9);rfl)
        |refine DQ ?_)
       all_goals (conv=>whnf)
       all_goals (first|exact absurd (by assumption : (_ : Int) < _) (by omega)|skip)
       refine EW 4 (Hc:=[o0,o1,o2,o3,o4]) (Y:=Ft 5 [] []) (Y1:=[_]) hY (by simp;omega) (by simp) (.refl _) hin (.cons _ _ _ _ (.refl _) (.cons _ _ _ _ (.agg _ _ (.cons _ _ _ _ (.nils _) (.cons _ _ _ _ (.nils _) .nil)) rfl) .nil)) rfl ?_
       intro r H' σ O2 hs hσ hcase
       rcases hcase with ⟨rfl,hJ'⟩|⟨rfl,hQ'⟩
       ·repeat' (
         conv=>whnf
         first
         |with_reducible refine Ap ?_)
        all_goals (conv=>whnf)
        exact nx (i + 1,O2) σ (by have:=take_len hσ;have:=Eg hs;(repeat (first|exact trivial|refine Az rfl rfl ?_|refine FU rfl hσ hg (by dsimp only;omega) ?_))) hs.sub hs.nd hσ (by dsimp only;omega) ⟨hJ',by dsimp only;omega⟩
       ·all_goals (conv=>whnf)
        exact Ab ⟨σ,O2,hs,hσ,rfl,hQ'⟩
      |cons n0 ns =>
       repeat' (
        conv=>whnf
        first
        |refine Al (fun h=>?_) (fun h=>?_)
        |((with_reducible refine Bm ?_);refine Bo (BU _ _ (by omega)) ?_)
        |((with_reducible apply A2 9);rfl)
        |refine DQ ?_)
       all_goals (conv=>whnf)
       all_goals (first|exact absurd (by assumption : (_ : Int) < _) (by omega)|skip)
       refine EW 4 (Hc:=[o0,o1,o2,o3,o4]) (Y:=Ft 5 [] (n0 :: ns)) (Y1:=[_,.frz (.agg [.leaf,.agg [.leaf]]) ((n0 :: ns).map Jj)]) hY (by simp;omega) (by simp) (.step 6 (.agg [.leaf,.agg [.leaf]]) ((n0 :: ns).map Jj) rfl (Dx _) (.refl _)) hin (.cons _ _ _ _ (.refl _) (.cons _ _ _ _ (.agg _ _ (.cons _ _ _ _ (.nils _) (.cons _ _ _ _ (A9 rfl (by simp)) .nil)) rfl) .nil)) rfl ?_
       intro r H' σ O2 hs hσ hcase
       rcases hcase with ⟨rfl,hJ'⟩|⟨rfl,hQ'⟩
       ·repeat' (
         conv=>whnf
         first
         |with_reducible refine Ap ?_)
        all_goals (conv=>whnf)
        exact nx (i + 1,O2) σ (by have:=take_len hσ;have:=Eg hs;(repeat (first|exact trivial|refine Az rfl rfl ?_|refine FU rfl hσ hg (by dsimp only;omega) ?_))) hs.sub hs.nd hσ (by dsimp only;omega) ⟨hJ',by dsimp only;omega⟩
       ·all_goals (conv=>whnf)
        exact Ab ⟨σ,O2,hs,hσ,rfl,hQ'⟩
     |cons y0 ys =>
      cases ns with
      |nil =>
       repeat' (
        conv=>whnf
        first
        |refine Al (fun h=>?_) (fun h=>?_)
        |((with_reducible refine Bm ?_);refine Bo (BU _ _ (by omega)) ?_)
        |((with_reducible apply A2 9);rfl)
        |refine DQ ?_)
       all_goals (conv=>whnf)
       all_goals (first|exact absurd (by assumption : (_ : Int) < _) (by omega)|skip)
       refine EW 4 (Hc:=[o0,o1,o2,o3,o4]) (Y:=Ft 5 (y0 :: ys) []) (Y1:=[_,.frz (.agg [.leaf,.leaf]) ((y0 :: ys).map Gn)]) hY (by simp;omega) (by simp) (.step 6 (.agg [.leaf,.leaf]) ((y0 :: ys).map Gn) rfl (Cp _) (.refl _)) hin (.cons _ _ _ _ (.refl _) (.cons _ _ _ _ (.agg _ _ (.cons _ _ _ _ (A9 rfl (by simp)) (.cons _ _ _ _ (.nils _) .nil)) rfl) .nil)) rfl ?_
       intro r H' σ O2 hs hσ hcase
       rcases hcase with ⟨rfl,hJ'⟩|⟨rfl,hQ'⟩
       ·repeat' (
         conv=>whnf
         first
         |with_reducible refine Ap ?_)
        all_goals (conv=>whnf)
        exact nx (i + 1,O2) σ (by have:=take_len hσ;have:=Eg hs;(repeat (first|exact trivial|refine Az rfl rfl ?_|refine FU rfl hσ hg (by dsimp only;omega) ?_))) hs.sub hs.nd hσ (by dsimp only;omega) ⟨hJ',by dsimp only;omega⟩
       ·all_goals (conv=>whnf)
        exact Ab ⟨σ,O2,hs,hσ,rfl,hQ'⟩
      |cons n0 ns =>
       repeat' (
        conv=>whnf
        first
        |refine Al (fun h=>?_) (fun h=>?_)
        |((with_reducible refine Bm ?_);refine Bo (BU _ _ (by omega)) ?_)
        |((with_reducible apply A2 9);rfl)
        |refine DQ ?_)
       all_goals (conv=>whnf)
       all_goals (first|exact absurd (by assumption : (_ : Int) < _) (by omega)|skip)
       refine EW 4 (Hc:=[o0,o1,o2,o3,o4]) (Y:=Ft 5 (y0 :: ys) (n0 :: ns)) (Y1:=[_,.frz (.agg [.leaf,.leaf]) ((y0 :: ys).map Gn),.frz (.agg [.leaf,.agg [.leaf]]) ((n0 :: ns).map Jj)]) hY (by simp;omega) (by simp) (.step 6 (.agg [.leaf,.leaf]) ((y0 :: ys).map Gn) rfl (Cp _) (.step 7 (.agg [.leaf,.agg [.leaf]]) ((n0 :: ns).map Jj) rfl (Dx _) (.refl _))) hin (.cons _ _ _ _ (.refl _) (.cons _ _ _ _ (.agg _ _ (.cons _ _ _ _ (A9 rfl (by simp)) (.cons _ _ _ _ (A9 rfl (by simp)) .nil)) rfl) .nil)) rfl ?_
       intro r H' σ O2 hs hσ hcase
       rcases hcase with ⟨rfl,hJ'⟩|⟨rfl,hQ'⟩
       ·repeat' (
         conv=>whnf
         first
         |with_reducible refine Ap ?_)
        all_goals (conv=>whnf)
        exact nx (i + 1,O2) σ (by have:=take_len hσ;have:=Eg hs;(repeat (first|exact trivial|refine Az rfl rfl ?_|refine FU rfl hσ hg (by dsimp only;omega) ?_))) hs.sub hs.nd hσ (by dsimp only;omega) ⟨hJ',by dsimp only;omega⟩
       ·all_goals (conv=>whnf)
        exact Ab ⟨σ,O2,hs,hσ,rfl,hQ'⟩
   ·have hiV : i = x.V:=by omega
    subst hiV
    exact Ab ⟨List.range 5,[o0,o1,o2,o3,o4],⟨by have:=EL [o0,o1,o2,o3,o4] [] hin;simpa using this,CG _,by simp⟩,rfl,rfl,hend _ hj⟩
 ·intro r H' hq
  obtain ⟨σ,O2,hs,hσ,rfl,hq⟩:=Aw hq
  refine ⟨H',O2,σ,.tuple [],.refl _,hs.sub,hs.nd,by have:=take_len hσ;have:=Eg hs;simp;omega,fun i hi=>.inl (JC hσ hi),rfl,.refl _,hq⟩
open Go
def DX (x : Inc) : Nat → Nat
 |0=>1
 |k + 1=>DX x k * (DL x k (x.V - k)).1.length
theorem KN (i j V : Nat) (hij : i ≤ j) (hj : j < V) : De (Bh i j) V:=by
 have hm : ∀ x ∈ Bg i,0 ≤ x ∧ x < (i : Int):=by
  intro x hx
  simp only [Bg,E7,List.mem_map,List.mem_range] at hx
  obtain ⟨n,hn,rfl⟩:=hx
  omega
 refine ⟨fun x hx=>?_,?_⟩
 ·rcases List.mem_append.1 hx with h|h
  ·have:=hm x h;omega
  ·simp at h;omega
 ·refine List.nodup_append.2 ⟨?_,by simp,?_⟩
  ·unfold Bg E7
   exact List.Pairwise.map _ (fun a b (hab : a ≠ b)=>by intro e;exact hab (by omega)) List.nodup_range
  ·intro a ha b hb
   have:=hm a ha
   simp at hb
   omega
open Go
theorem Yh (x : Inc) (hx : x.Ok) (hx7 : x.V ≤ 7) (g : Nat) (hg : g < 4) {H0 : List Ob} (lp a b c : Ob) (hH : H0 = [a,b,c,lp]) (J : Ob → Nat → List Ob → Prop) (Q : D → List Ob → Prop)
  (hJ : ∀ k H,J lp k H → ((∃ o0 o1 o2 o3,H = [o0,o1,o2,o3]) ∨ (∃ o0 o1 o2 o3 o4,H = [o0,o1,o2,o3,o4])) ∧ ∀ o ∈ H,A3 H.length o = true)
  (hyl : ∀ k H,J lp k H → k < x.V → YC Tryz.prog g [iD k,Qq (DL x k (x.V - k))] H (fun r H'=>Bs (B1 r = true ∧ ∃ σ O2,Sits H' σ O2 ∧ σ.take 4 = List.range 4 ∧ ((r = .bool true ∧ J lp (k + 1) O2) ∨ (r = .bool false ∧ Q (.tuple []) O2)))))
  (hend : ∀ H,J lp x.V H → Q (.tuple []) H) (h0 : J lp 0 [a,b,c,lp]) :
  HC Tryz.prog 74 [.yld g,.ref (.agg [.leaf,.leaf]) x.D] H0 Q :=
 AaP x hx hx7 g hg (J lp) Q (fun i j h1 h2=>KN i j x.V h1 h2) hJ hyl hend H0 ⟨a,b,c,lp,hH⟩ (by rw [hH];exact h0)
def Gp (x : Inc) (k : Nat) : List D:=(List.range k).map fun i=>Qq (DL x i (x.V - i))
theorem Pv (x : Inc) (k : Nat) : (Gp x k).length = k:=by simp [Gp]
theorem Kl (x : Inc) (k : Nat) : B3 (Gp x k) = true:=I0 (fun i=>rfl) _
theorem NO (x : Inc) (k : Nat) : Gp x (k + 1) = Gp x k ++ [Qq (DL x k (x.V - k))]:=by simp [Gp,List.range_succ]
def VL (x : Inc) : D:=.agg [.list false (.agg [.leaf,.leaf]) (Gp x x.V)]
theorem Ab1 (x : Inc) (hx : x.Ok) (hx7 : x.V ≤ 7) : Ah Tryz.prog 63 [x.D] (fun r=>r = .tuple [VL x,.int .i64 0]):=by
 have hv:=hx.v
 have hv1:=hx.v1
 refine Ah.ofV ?_
 refine Ad (okc Tryz.f63.ntmps 0) (fn:=Tryz.f63) (cd:=_) rfl rfl rfl rfl rfl rfl (fun hbd=>?_)
 repeat' (
  conv=>whnf
  first
  |refine Al (fun h=>?_) (fun h=>?_)
  |((with_reducible refine Ao ?_);refine Au (AaS _) ?_))
 all_goals (conv=>whnf)
 ·exact absurd h (by omega)
 refine Yh x hx hx7 3 (by omega) _ (.var x.D) (.var (.agg [.nils])) (.var (.agg [.nils])) rfl
  (fun lp k H=>(k = 0 ∧ H = [.var x.D,.var (.agg [.nils]),.var (.agg [.nils]),lp]) ∨ (0 < k ∧ H = [.var x.D,.var (.agg [.nils]),.var (.agg [.sl 4 0 k]),lp,.row (.agg [.leaf,.leaf]) (Gp x k)])) _ ?_ ?_ ?_ (.inl ⟨rfl,rfl⟩)
 ·rintro k H (⟨rfl,rfl⟩|⟨hk0,rfl⟩)
  ·exact ⟨.inl ⟨_,_,_,_,rfl⟩,GV rfl⟩
  ·refine ⟨.inr ⟨_,_,_,_,_,rfl⟩,?_⟩
   intro o ho
   simp only [List.mem_cons,List.not_mem_nil,or_false] at ho
   rcases ho with rfl|rfl|rfl|rfl|rfl <;> first|rfl|exact B9 _ _ (Kl x k)
 ·rintro k H (⟨rfl,rfl⟩|⟨hk0,rfl⟩) hk
  ·refine Bd (okc Tryz.f63.ntmps 4) rfl rfl rfl rfl rfl ?_
   repeat' (
    conv=>whnf
    first
    |((with_reducible apply ob);(exact oT)))
   all_goals (conv=>whnf)
   refine Ab ⟨rfl,[0,1,2,3,6],_,?_,rfl,.inl ⟨rfl,.inr ⟨by omega,rfl⟩⟩⟩
   exact ⟨Ba rfl rfl (Ba rfl rfl (Ba rfl rfl (Ba rfl rfl (Bc rfl (by rw [NO];rfl) (Kl _ _) trivial)))),rfl,by simp⟩
  ·have hkk:=Pv x k
   refine Bd (okc Tryz.f63.ntmps 5) rfl rfl rfl rfl rfl ?_
   repeat' (
    conv=>whnf
    first
    |((with_reducible apply ob);(exact oT)))
   all_goals (conv=>whnf)
   refine Ab ⟨rfl,[0,1,2,3,7],_,?_,rfl,.inl ⟨rfl,.inr ⟨by omega,rfl⟩⟩⟩
   exact ⟨Ba rfl rfl (Ba rfl rfl (Ba rfl rfl (Ba rfl rfl (Bc rfl (by rw [NO];show List.take k (List.drop 0 (Gp x k)) ++ [_] = _;rw [List.drop_zero,List.take_of_length_le (by omega)];rfl) (Kl _ _) trivial)))),rfl,by simp⟩
 ·rintro H (⟨h0,rfl⟩|⟨hk0,rfl⟩)
  ·omega
  ·conv=>whnf
   refine Ab ⟨_,.tuple [VL x,.int .i64 0],.step 4 (.agg [.leaf,.leaf]) (Gp x x.V) rfl (Kl _ _) (.refl _),.tuple _ _ (.cons _ _ _ _ (.agg _ _ (.cons _ _ _ _ (A9 rfl (Pv _ _)) .nil) rfl) (.cons _ _ _ _ (.refl _) .nil)),rfl,rfl⟩
open Go
def Gd (x : Inc) (i : Nat) (j : Int) (m : List Int) : Bool :=
 LT x m && decide (m.take i = (Bh (x.V - 1) (x.V - 1)).take i) && decide (m.getD i 0 = j) && (decide (j ≠ i) || decide (m = Bh (x.V - 1) (x.V - 1)))
theorem Abb (x : Inc) (i : Nat) (j : Int) (m : List Int) (hx : x.Ok) (hb : ∀ s ∈ x.B,∀ p ∈ Ac s,p < x.V) (hi : i < x.V) :
  Ah Tryz.prog 91 [iD i,.agg [.int .i64 j,Ai m],.ref (.agg [.leaf,.leaf]) x.D,.ref .leaf (Ai (Bh (x.V - 1) (x.V - 1)))] (fun r=>r = .bool (Gd x i j m)):=by
 have hm0:=Ar m
 have hv:=hx.v
 have hv1:=hx.v1
 have hpl:=Hk (x.V - 1) (x.V - 1)
 have hp0:=Ar (Bh (x.V - 1) (x.V - 1))
 refine Ah.ofV ?_
 refine Ad (okc Tryz.f91.ntmps 0) (fn:=Tryz.f91) (cd:=_) rfl rfl rfl rfl rfl rfl (fun hbd=>?_)
 have hIs:=vIs x m (by omega) hx.b hx.n hb
 cases hg : LT x m with
 |false =>
  rw [hg] at hIs
  repeat' (
   conv=>whnf
   first
   |((with_reducible refine Bm ?_);refine Bo hIs ?_)
   |((with_reducible apply A2 33);rfl))
  all_goals (conv=>whnf)
  exact fC rfl (by simp [Gd,hg];rfl)
 |true =>
  rw [hg] at hIs
  have hml : m.length = x.V:=by
   unfold LT at hg
   exact (of_decide_eq_true hg).1
  have e1 : (Aa m).take i = Aa (m.take i):=by simp [Aa]
  have e2 : (Aa (Bh (x.V - 1) (x.V - 1))).take i = Aa ((Bh (x.V - 1) (x.V - 1)).take i):=by simp [Aa]
  have hA : LeDs [.var (.agg [.int .i64 j,Ai m])] [Ai (m.take i),Ai ((Bh (x.V - 1) (x.V - 1)).take i)] [.list false .leaf (List.drop (Int.toNat 0) (List.take (i : Int).toNat (Aa m))),.list false .leaf (List.drop (Int.toNat 0) (List.take (i : Int).toNat (Aa (Bh (x.V - 1) (x.V - 1)))))]:=by
   rw [show List.drop (Int.toNat 0) (List.take (i : Int).toNat (Aa m)) = Aa (m.take i) from by rw [Int.toNat_natCast,e1];rfl,show List.drop (Int.toNat 0) (List.take (i : Int).toNat (Aa (Bh (x.V - 1) (x.V - 1)))) = Aa ((Bh (x.V - 1) (x.V - 1)).take i) from by rw [Int.toNat_natCast,e2];rfl]
   exact C1 _ _
  by_cases he : m.take i = (Bh (x.V - 1) (x.V - 1)).take i
  ·have heq:=MQ (m.take i) ((Bh (x.V - 1) (x.V - 1)).take i)
   rw [decide_eq_true he] at heq
   repeat' (
    conv=>whnf
    first
    |refine Al (fun h=>?_) (fun h=>?_)
    |refine Cs (fun h=>?_) (fun h=>?_)
    |((with_reducible refine GF (by omega) ?_);intro y hy;(try simp only [Int.toNat_natCast,Nat.zero_add] at hy);(try have hyr:=hR _ (List.mem_of_getElem? hy)))
    |((with_reducible refine Bm ?_);refine Bo hIs ?_)
    |((with_reducible refine Bm ?_);refine Ah.pure heq hA rfl rfl ?_)
    |((with_reducible refine Ao ?_);refine Au (MQ _ _) ?_)
    |((with_reducible apply A2 33);rfl)
    |((with_reducible apply ob);(exact oT)))
   all_goals (conv=>whnf)
   all_goals
    refine fC rfl (congrArg D.bool ?_)
    unfold Gd
    simp_all [Bt (show m[i]? = some _ from by assumption)]
  ·have heq:=MQ (m.take i) ((Bh (x.V - 1) (x.V - 1)).take i)
   rw [decide_eq_false he] at heq
   repeat' (
    conv=>whnf
    first
    |((with_reducible refine Bm ?_);refine Bo hIs ?_)
    |((with_reducible refine Bm ?_);refine Ah.pure heq hA rfl rfl ?_)
    |((with_reducible apply A2 33);rfl)
    |((with_reducible apply ob);(exact oT)))
   all_goals (conv=>whnf)
   refine fC rfl (congrArg D.bool ?_)
   unfold Gd
   simp [he]
open Go
def Qp (g h : List Int) (i : Nat) : Int:=h.getD (g.getD i 0).toNat 0
theorem OK (g h : List Int) : ∀ k,Qd g h k = (List.range k).map (Qp g h)
 |0=>rfl
 |k + 1=>by rw [Qd,OK g h k,List.range_succ];simp [Qp]
open Go
def C7 (l : List (List Int)) : List D:=l.map Ai
def G6 (l : List (List Int)) : D:=.list false .leaf (C7 l)
@[simp] theorem WL (l : List (List Int)) : (C7 l).length = l.length:=by simp [C7]
theorem KA (l : List (List Int)) : B3 (C7 l) = true:=I0 (fun g=>rfl) l
open Go
open Go
open Go
def AfC (y : Int × List Int) : D:=.agg [.int .i64 y.1,Ai y.2]
def Lm (l : List (Int × List Int)) : List D:=l.map AfC
@[simp] theorem Ld (l : List (Int × List Int)) : (Lm l).length = l.length:=by simp [Lm]
open Go
def Agv (y : Int × Tree) : D:=.agg [.int .i64 y.1,DM y.2]
def M6 (l : List (Int × Tree)) : List D:=l.map Agv
@[simp] theorem Os (l : List (Int × Tree)) : (M6 l).length = l.length:=by simp [M6]
open Go
def SI (n k t : Nat) : Nat:=k / By (n - t - 1) % (n - t)
def Lz (n k : Nat) : Nat → List Int × List Int
 |0=>(Bg n,[])
 |t + 1=>((Lz n k t).1.take (SI n k t) ++ (Lz n k t).1.drop (SI n k t + 1),(Lz n k t).2 ++ [(Lz n k t).1.getD (SI n k t) 0])
theorem L9 : ∀ n,0 < By n
 |0=>by decide
 |n + 1=>Nat.mul_pos (by omega) (L9 n)
open Go
abbrev NC:=List (Int × List Int) × List (Int × Tree)
def Tx (l : NC) : D:=.agg [.list false (.agg [.leaf,.leaf]) (Lm l.1),.list false (.agg [.leaf,.agg [.leaf]]) (M6 l.2)]
def IU (L : List NC) : List D:=L.map Tx
def TJ (L : List NC) : D:=.agg [.list false (.agg [.leaf,.leaf]) (IU L)]
@[simp] theorem Xv (L : List NC) : (IU L).length = L.length:=by simp [IU]
def GH (x : Inc) (i j : Nat) : List (Int × List Int) → Bool
 |[]=>false
 |y :: _=>decide (y.1 = (j : Int)) && Gd x i y.1 y.2
def LO (x : Inc) (i j : Nat) : List (Int × Tree) → Bool
 |[]=>false
 |u :: _=>decide (u.1 = (j : Int)) && Kn x x (Bh i j) u.2
def DA (x : Inc) (i : Nat) : Nat → Nat → List (Int × List Int) → List (Int × Tree) → Bool
 |0,_,ys,ns=>decide (ys.length + ns.length = 0)
 |f + 1,j,ys,ns=>if GH x i j ys = true then DA x i f (j + 1) ys.tail ns else if LO x i j ns = true then DA x i f (j + 1) ys ns.tail else false
def GQ (x : Inc) : Nat → Nat → List NC → Nat
 |_,n,[]=>n
 |i,n,l :: L=>if DA x i (x.V - i) i l.1 l.2 = true then GQ x (i + 1) (n * l.1.length) L else 0
def Kw (x : Inc) (L : List NC) : Nat:=if L.length = x.V then GQ x 0 1 L else 0
def VW (n : Nat) : D:=.tuple [iD n,.int .i64 (if n = 0 then 200 else 0)]
open Go
theorem exL {l : List NC} {n : Nat} {k : D → Prop} (h : n < l.length) (hk : ∀ a,l[n]? = some a → k (Tx a)) : ∃ d,(IU l)[n]? = some d ∧ k d:=WJ (f:=Tx) h hk
theorem AbD {yj : Int} {ym : List Int} {l : List (Int × List Int)} {k : D → Prop} (hk : k (.agg [.int .i64 yj,Ai ym])) : ∃ d,(Lm ((yj,ym) :: l))[(0 : Int).toNat]? = some d ∧ k d:=⟨_,rfl,hk⟩
theorem AbA {yj : Int} {t : Tree} {l : List (Int × Tree)} {k : D → Prop} (hk : k (.agg [.int .i64 yj,DM t])) : ∃ d,(M6 ((yj,t) :: l))[(0 : Int).toNat]? = some d ∧ k d:=⟨_,rfl,hk⟩
theorem BH {x : Inc} {i j : Nat} {yj : Int} {ym : List Int} {yt : List (Int × List Int)} (h : Gd x i yj ym = false) : GH x i j ((yj,ym) :: yt) = false:=by simp [GH,h]
theorem BI {x : Inc} {i j : Nat} {yj : Int} {ym : List Int} {yt : List (Int × List Int)} (h : ¬ yj = (j : Int)) : GH x i j ((yj,ym) :: yt) = false:=by simp [GH,h]
theorem Ce {x : Inc} {i j : Nat} {yj : Int} {ym : List Int} {yt : List (Int × List Int)} (h : yj = (j : Int)) (hr : Gd x i yj ym = true) : GH x i j ((yj,ym) :: yt) = true:=by simp [GH,hr];exact h
theorem Cd {x : Inc} {i j : Nat} {yj : Int} {t : Tree} {yt : List (Int × Tree)} (h : Kn x x (Bh i j) t = false) : LO x i j ((yj,t) :: yt) = false:=by simp [LO,h]
theorem Cc {x : Inc} {i j : Nat} {yj : Int} {t : Tree} {yt : List (Int × Tree)} (h : ¬ yj = (j : Int)) : LO x i j ((yj,t) :: yt) = false:=by simp [LO,h]
theorem C8 {x : Inc} {i j : Nat} {yj : Int} {t : Tree} {yt : List (Int × Tree)} (h : yj = (j : Int)) (hr : Kn x x (Bh i j) t = true) : LO x i j ((yj,t) :: yt) = true:=by simp [LO,hr];exact h
theorem Fm {x : Inc} {i j : Nat} {ys : List (Int × List Int)} {ns : List (Int × Tree)} (hj : j < x.V) (h : GH x i j ys = true) : DA x i (x.V - j) j ys ns = DA x i (x.V - (j + 1)) (j + 1) ys.tail ns:=by
 obtain ⟨f,hf⟩ : ∃ f,x.V - j = f + 1:=⟨x.V - j - 1,by omega⟩
 rw [hf,show x.V - (j + 1) = f by omega,DA,if_pos h]
theorem FZ {x : Inc} {i j : Nat} {ys : List (Int × List Int)} {ns : List (Int × Tree)} (hj : j < x.V) (h : GH x i j ys = false) (h2 : LO x i j ns = true) : DA x i (x.V - j) j ys ns = DA x i (x.V - (j + 1)) (j + 1) ys ns.tail:=by
 obtain ⟨f,hf⟩ : ∃ f,x.V - j = f + 1:=⟨x.V - j - 1,by omega⟩
 rw [hf,show x.V - (j + 1) = f by omega,DA,if_neg (by simp [h]),if_pos h2]
theorem JW {x : Inc} {i j : Nat} {ys : List (Int × List Int)} {ns : List (Int × Tree)} (hj : j < x.V) (h : GH x i j ys = false) (h2 : LO x i j ns = false) : DA x i (x.V - j) j ys ns = false:=by
 obtain ⟨f,hf⟩ : ∃ f,x.V - j = f + 1:=⟨x.V - j - 1,by omega⟩
 rw [hf,DA,if_neg (by simp [h]),if_neg (by simp [h2])]
theorem Oy (x : Inc) (i : Nat) : ∀ f j ys ns,DA x i f j ys ns = true → ys.length ≤ f
 |0,j,ys,ns,h=>by have:=of_decide_eq_true h;omega
 |f + 1,j,ys,ns,h=>by
  unfold DA at h
  by_cases hy : GH x i j ys = true
  ·rw [if_pos hy] at h
   have:=Oy x i f _ _ _ h
   simp only [List.length_tail] at this;omega
  ·rw [if_neg hy] at h
   by_cases hn : LO x i j ns = true
   ·rw [if_pos hn] at h
    have:=Oy x i f _ _ _ h;omega
   ·rw [if_neg hn] at h;cases h
theorem GT {x : Int} {n : Nat} {k : Int → Prop} (h : x = (n : Int)) (hn : n < 9223372036854775808) (hk : k (n : Int)) : ∃ r,IntKind.i64.wrap x = r ∧ k r :=
 ⟨_,by rw [h];exact Vy (by omega) (by omega),hk⟩
def SV (x : Inc) : D:=.func 91 [.ref (.agg [.leaf,.leaf]) x.D,.ref .leaf (Ai (Bh (x.V - 1) (x.V - 1)))]
theorem Abd (x : Inc) (hx : x.Ok) (hx7 : x.V ≤ 7) (hb : ∀ s ∈ x.B,∀ p ∈ Ac s,p < x.V) (L : List NC) (hL : ∀ l ∈ L,l.1.length ≤ 1000000 ∧ l.2.length ≤ 1000000) : Ah Tryz.prog 64 [x.D,TJ L] (fun r=>r = VW (Kw x L)):=by
 have hv:=hx.v
 have hv1:=hx.v1
 have hpl:=Hk (x.V - 1) (x.V - 1)
 have hp0:=Ar (Bh (x.V - 1) (x.V - 1))
 have hL0:=Xv L
 have hpv:=BU (x.V - 1) (x.V - 1) (by omega)
 rw [show iD (x.V - 1) = .int .i64 ((x.V : Int) - 1) from by show D.int _ _ = _;rw [Int.natCast_sub hv1];rfl] at hpv
 refine Ah.ofV ?_
 refine Ad (okc Tryz.f64.ntmps 0) (fn:=Tryz.f64) (cd:=_) rfl rfl rfl rfl rfl rfl (fun hbd=>?_)
 by_cases hLV : L.length = x.V
 ·repeat' (
   conv=>whnf
   first
   |refine Al (fun h=>?_) (fun h=>?_)
   |refine Cs (fun h=>?_) (fun h=>?_)
   |with_reducible refine Ap ?_
   |((with_reducible refine Ao ?_);refine Au hpv ?_))
  all_goals (conv=>whnf)
  all_goals (first|(exfalso;omega)|skip)
  refine Bq (X:=Nat × Nat) (fun y=>[(2,.ref (.agg [.leaf,.leaf]) x.D),(7,SV x),(8,iD y.2),(34,.list false (.agg [.leaf,.leaf]) (IU L)),(35,iD (IU L).length),(36,iD y.1)]) (fun y=>[])
   (fun y=>y.1 ≤ x.V ∧ y.2 ≤ 7 ^ y.1 ∧ GQ x 0 1 L = GQ x y.1 y.2 (L.drop y.1)) (fun y=>x.V - y.1) ⟨_,NS (ρ:=[]) (0,1) (.fvar 0 x.D rfl rfl (.fvar 2 (Ai (Bh (x.V - 1) (x.V - 1))) rfl rfl (.refl _))) ?_ trivial rfl rfl (Nat.lt_succ_self _) ⟨Nat.zero_le _,Nat.le_refl _,rfl⟩⟩ ?_
  ·exact P6 (show LeD _ (.ref (.agg [.leaf,.leaf]) x.D) (.ptr 0 []) from .fvar 0 x.D rfl) rfl (P6 (show LeD _ (SV x) (.func 91 [.ptr 0 [],.ptr 2 []]) from .func _ _ _ (.cons _ _ _ _ (show LeD _ (.ref (.agg [.leaf,.leaf]) x.D) (.ptr 0 []) from .fvar 0 x.D rfl) (.cons _ _ _ _ (show LeD _ (.ref .leaf (Ai (Bh (x.V - 1) (x.V - 1)))) (.ptr 2 []) from .fvar 2 (Ai (Bh (x.V - 1) (x.V - 1))) rfl) .nil))) rfl Cb)
  rintro ⟨i,n⟩ ⟨hi,hn,hc⟩
  dsimp only at hi hn hc ⊢
  rcases Nat.lt_or_ge i x.V with hlt|hge
  ·obtain ⟨⟨ys,ns⟩,hl⟩ : ∃ l,L[i]? = some l:=⟨L[i],List.getElem?_eq_getElem (by omega)⟩
   have hL2:=hL _ (List.mem_of_getElem? hl)
   dsimp only at hL2
   have hdrop : L.drop i = (ys,ns) :: L.drop (i + 1):=by
    rw [List.drop_eq_getElem_cons (by omega)]
    rw [List.getElem?_eq_getElem (by omega)] at hl
    rw [Option.some.inj hl]
   have hfail : DA x i (x.V - i) i ys ns = false → VW (Kw x L) = .tuple [.int .i64 0,.int .i64 200]:=fun e=>by
    unfold Kw;rw [if_pos hLV,hc,hdrop,GQ,if_neg (by simp [e])];rfl
   have hgo : DA x i (x.V - i) i ys ns = true → GQ x 0 1 L = GQ x (i + 1) (n * ys.length) (L.drop (i + 1)):=fun e=>by
    rw [hc,hdrop,GQ,if_pos e]
   have hnb : n ≤ 823543:=Nat.le_trans hn (Nat.le_trans (Nat.pow_le_pow_right (by omega) (show i ≤ 7 by omega)) (by decide))
   have hnm : n * ys.length ≤ 823543 * 1000000:=Nat.mul_le_mul hnb hL2.1
   have hnm2 : (n : Int) * (((Lm ys).length : Nat) : Int) = ((n * ys.length : Nat) : Int):=by rw [Ld,Int.natCast_mul]
   repeat' (
    conv=>whnf
    first
    |refine Al (fun h=>?_) (fun h=>?_)
    |((with_reducible refine exL (by omega) ?_);intro y hy;simp only [Int.toNat_natCast] at hy;rw [hl] at hy;obtain rfl:=Option.some.inj hy)
    |((with_reducible refine GT hnm2 (by omega) ?_))
    |((with_reducible apply A2 5);rfl)
    |((with_reducible apply ob);(exact oT)))
   all_goals (conv=>whnf)
   all_goals (first|(exfalso;omega)|skip)
   refine Bq (X:=Nat × List (Int × List Int) × List (Int × Tree)) (fun y=>[(2,.ref (.agg [.leaf,.leaf]) x.D),(7,SV x),(8,iD (n * ys.length)),(9,iD i),(11,.list false (.agg [.leaf,.leaf]) (Lm y.2.1)),(12,.list false (.agg [.leaf,.agg [.leaf]]) (M6 y.2.2)),(13,iD y.1),(34,.list false (.agg [.leaf,.leaf]) (IU L)),(35,iD (IU L).length),(36,iD i)]) (fun y=>[])
    (fun y=>i ≤ y.1 ∧ y.1 ≤ x.V ∧ y.2.1.length ≤ 1000000 ∧ y.2.2.length ≤ 1000000 ∧ DA x i (x.V - i) i ys ns = DA x i (x.V - y.1) y.1 y.2.1 y.2.2) (fun y=>x.V - y.1) ⟨_,nx (ρ:=[]) (i,ys,ns) Cb trivial rfl rfl (Nat.lt_succ_self _) ⟨Nat.le_refl _,hi,hL2.1,hL2.2,rfl⟩⟩ ?_
   rintro ⟨j,ys',ns'⟩ ⟨hij,hj,hy1,hn1,hrun⟩
   dsimp only at hij hj hy1 hn1 hrun ⊢
   rcases Nat.lt_or_ge j x.V with hjl|hjg
   ·have hd:=KN i j x.V hij hjl
    have hpj:=Hk i j
    have hck:=fun yj ym=>Abb x i yj ym hx hb hlt
    have hch:=fun um=>Abr x x (Bh i j) (.node um) hx hx hx7 hx7 hd (by omega)
    rcases ys' with _|⟨⟨yj,ym⟩,yt⟩ <;> rcases ns' with _|⟨⟨uj,⟨um⟩⟩,ut⟩
    ·repeat' (
      conv=>whnf
      first
      |refine Al (fun h=>?_) (fun h=>?_)
      |with_reducible refine Ap ?_
      |((with_reducible apply A2 21);rfl))
     all_goals (conv=>whnf)
     all_goals (first|(exfalso;omega)|skip)
     all_goals first
      |(refine fC rfl (Eq.symm (hfail (hrun.trans (JW hjl ?_ ?_)))) <;> (first|rfl|(refine BH ?_;assumption)|(refine BI ?_;assumption)|(refine Ce ?_ ?_ <;> assumption)|(refine Cd ?_;assumption)|(refine Cc ?_;assumption)|(refine C8 ?_ ?_ <;> assumption)))
      |(refine A0 (X:=Nat × List (Int × List Int) × List (Int × Tree)) (j + 1,yt,[]) ?_ rfl ?_ ?_ <;> first|(refine ⟨?_,?_,?_,hn1,hrun.trans (Fm hjl ?_)⟩ <;> first|(dsimp only;omega)|(simp only [List.length_cons] at hy1 ⊢;omega)|(refine BH ?_;assumption)|(refine BI ?_;assumption)|(refine Ce ?_ ?_ <;> assumption)|(refine Cd ?_;assumption)|(refine Cc ?_;assumption)|(refine C8 ?_ ?_ <;> assumption))|(dsimp only;omega)|(simp only [List.length_cons] at hy1 ⊢;omega)|(refine BH ?_;assumption)|(refine BI ?_;assumption)|(refine Ce ?_ ?_ <;> assumption)|(refine Cd ?_;assumption)|(refine Cc ?_;assumption)|(refine C8 ?_ ?_ <;> assumption)|(focus (repeat (first|exact trivial|refine B4 rfl ?_));done))
      |(refine A0 (X:=Nat × List (Int × List Int) × List (Int × Tree)) (j + 1,yt,(uj,Tree.node um) :: ut) ?_ rfl ?_ ?_ <;> first|(refine ⟨?_,?_,?_,hn1,hrun.trans (Fm hjl ?_)⟩ <;> first|(dsimp only;omega)|(simp only [List.length_cons] at hy1 ⊢;omega)|(refine BH ?_;assumption)|(refine BI ?_;assumption)|(refine Ce ?_ ?_ <;> assumption)|(refine Cd ?_;assumption)|(refine Cc ?_;assumption)|(refine C8 ?_ ?_ <;> assumption))|(dsimp only;omega)|(simp only [List.length_cons] at hy1 ⊢;omega)|(refine BH ?_;assumption)|(refine BI ?_;assumption)|(refine Ce ?_ ?_ <;> assumption)|(refine Cd ?_;assumption)|(refine Cc ?_;assumption)|(refine C8 ?_ ?_ <;> assumption)|(focus (repeat (first|exact trivial|refine B4 rfl ?_));done))
      |(refine A0 (X:=Nat × List (Int × List Int) × List (Int × Tree)) (j + 1,[],ut) ?_ rfl ?_ ?_ <;> first|(refine ⟨?_,?_,hy1,?_,hrun.trans (FZ hjl ?_ ?_)⟩ <;> first|rfl|(dsimp only;omega)|(simp only [List.length_cons] at hn1 ⊢;omega)|(refine BH ?_;assumption)|(refine BI ?_;assumption)|(refine Ce ?_ ?_ <;> assumption)|(refine Cd ?_;assumption)|(refine Cc ?_;assumption)|(refine C8 ?_ ?_ <;> assumption))|rfl|(dsimp only;omega)|(simp only [List.length_cons] at hn1 ⊢;omega)|(refine BH ?_;assumption)|(refine BI ?_;assumption)|(refine Ce ?_ ?_ <;> assumption)|(refine Cd ?_;assumption)|(refine Cc ?_;assumption)|(refine C8 ?_ ?_ <;> assumption)|(focus (repeat (first|exact trivial|refine B4 rfl ?_));done))
      |(refine A0 (X:=Nat × List (Int × List Int) × List (Int × Tree)) (j + 1,(yj,ym) :: yt,ut) ?_ rfl ?_ ?_ <;> first|(refine ⟨?_,?_,hy1,?_,hrun.trans (FZ hjl ?_ ?_)⟩ <;> first|rfl|(dsimp only;omega)|(simp only [List.length_cons] at hn1 ⊢;omega)|(refine BH ?_;assumption)|(refine BI ?_;assumption)|(refine Ce ?_ ?_ <;> assumption)|(refine Cd ?_;assumption)|(refine Cc ?_;assumption)|(refine C8 ?_ ?_ <;> assumption))|rfl|(dsimp only;omega)|(simp only [List.length_cons] at hn1 ⊢;omega)|(refine BH ?_;assumption)|(refine BI ?_;assumption)|(refine Ce ?_ ?_ <;> assumption)|(refine Cd ?_;assumption)|(refine Cc ?_;assumption)|(refine C8 ?_ ?_ <;> assumption)|(focus (repeat (first|exact trivial|refine B4 rfl ?_));done))
      |skip
    ·have hp2 : (0 : Int) < ((M6 ((uj,Tree.node um) :: ut)).length : Int):=by simp only [Os,List.length_cons];omega
     have hch:=hch um
     cases hk : Kn x x (Bh i j) (.node um) <;> rw [hk] at hch
     all_goals
      repeat' (
       conv=>whnf
       first
       |refine Al (fun h=>?_) (fun h=>?_)
       |with_reducible refine Ap ?_
       |((with_reducible refine AbA ?_))
       |((with_reducible refine Ao ?_);refine Au hch ?_)
       |((with_reducible refine Bm ?_);refine Bo (BU _ _ (by omega)) ?_)
       |((with_reducible apply A2 21);rfl)
       |((with_reducible apply ob);(exact oT)))
      all_goals (conv=>whnf)
      all_goals (first|(exfalso;omega)|skip)
      all_goals first
       |(refine fC rfl (Eq.symm (hfail (hrun.trans (JW hjl ?_ ?_)))) <;> (first|rfl|(refine BH ?_;assumption)|(refine BI ?_;assumption)|(refine Ce ?_ ?_ <;> assumption)|(refine Cd ?_;assumption)|(refine Cc ?_;assumption)|(refine C8 ?_ ?_ <;> assumption)))
       |(refine A0 (X:=Nat × List (Int × List Int) × List (Int × Tree)) (j + 1,yt,[]) ?_ rfl ?_ ?_ <;> first|(refine ⟨?_,?_,?_,hn1,hrun.trans (Fm hjl ?_)⟩ <;> first|(dsimp only;omega)|(simp only [List.length_cons] at hy1 ⊢;omega)|(refine BH ?_;assumption)|(refine BI ?_;assumption)|(refine Ce ?_ ?_ <;> assumption)|(refine Cd ?_;assumption)|(refine Cc ?_;assumption)|(refine C8 ?_ ?_ <;> assumption))|(dsimp only;omega)|(simp only [List.length_cons] at hy1 ⊢;omega)|(refine BH ?_;assumption)|(refine BI ?_;assumption)|(refine Ce ?_ ?_ <;> assumption)|(refine Cd ?_;assumption)|(refine Cc ?_;assumption)|(refine C8 ?_ ?_ <;> assumption)|(focus (repeat (first|exact trivial|refine B4 rfl ?_));done))
       |(refine A0 (X:=Nat × List (Int × List Int) × List (Int × Tree)) (j + 1,yt,(uj,Tree.node um) :: ut) ?_ rfl ?_ ?_ <;> first|(refine ⟨?_,?_,?_,hn1,hrun.trans (Fm hjl ?_)⟩ <;> first|(dsimp only;omega)|(simp only [List.length_cons] at hy1 ⊢;omega)|(refine BH ?_;assumption)|(refine BI ?_;assumption)|(refine Ce ?_ ?_ <;> assumption)|(refine Cd ?_;assumption)|(refine Cc ?_;assumption)|(refine C8 ?_ ?_ <;> assumption))|(dsimp only;omega)|(simp only [List.length_cons] at hy1 ⊢;omega)|(refine BH ?_;assumption)|(refine BI ?_;assumption)|(refine Ce ?_ ?_ <;> assumption)|(refine Cd ?_;assumption)|(refine Cc ?_;assumption)|(refine C8 ?_ ?_ <;> assumption)|(focus (repeat (first|exact trivial|refine B4 rfl ?_));done))
       |(refine A0 (X:=Nat × List (Int × List Int) × List (Int × Tree)) (j + 1,[],ut) ?_ rfl ?_ ?_ <;> first|(refine ⟨?_,?_,hy1,?_,hrun.trans (FZ hjl ?_ ?_)⟩ <;> first|rfl|(dsimp only;omega)|(simp only [List.length_cons] at hn1 ⊢;omega)|(refine BH ?_;assumption)|(refine BI ?_;assumption)|(refine Ce ?_ ?_ <;> assumption)|(refine Cd ?_;assumption)|(refine Cc ?_;assumption)|(refine C8 ?_ ?_ <;> assumption))|rfl|(dsimp only;omega)|(simp only [List.length_cons] at hn1 ⊢;omega)|(refine BH ?_;assumption)|(refine BI ?_;assumption)|(refine Ce ?_ ?_ <;> assumption)|(refine Cd ?_;assumption)|(refine Cc ?_;assumption)|(refine C8 ?_ ?_ <;> assumption)|(focus (repeat (first|exact trivial|refine B4 rfl ?_));done))
       |(refine A0 (X:=Nat × List (Int × List Int) × List (Int × Tree)) (j + 1,(yj,ym) :: yt,ut) ?_ rfl ?_ ?_ <;> first|(refine ⟨?_,?_,hy1,?_,hrun.trans (FZ hjl ?_ ?_)⟩ <;> first|rfl|(dsimp only;omega)|(simp only [List.length_cons] at hn1 ⊢;omega)|(refine BH ?_;assumption)|(refine BI ?_;assumption)|(refine Ce ?_ ?_ <;> assumption)|(refine Cd ?_;assumption)|(refine Cc ?_;assumption)|(refine C8 ?_ ?_ <;> assumption))|rfl|(dsimp only;omega)|(simp only [List.length_cons] at hn1 ⊢;omega)|(refine BH ?_;assumption)|(refine BI ?_;assumption)|(refine Ce ?_ ?_ <;> assumption)|(refine Cd ?_;assumption)|(refine Cc ?_;assumption)|(refine C8 ?_ ?_ <;> assumption)|(focus (repeat (first|exact trivial|refine B4 rfl ?_));done))
       |skip
    ·have hp1 : (0 : Int) < ((Lm ((yj,ym) :: yt)).length : Int):=by simp only [Ld,List.length_cons];omega
     have hck:=hck yj ym
     cases hr : Gd x i yj ym <;> rw [hr] at hck
     all_goals
      repeat' (
       conv=>whnf
       first
       |refine Al (fun h=>?_) (fun h=>?_)
       |with_reducible refine Ap ?_
       |((with_reducible refine AbD ?_))
       |((with_reducible refine Ao ?_);refine Au hck ?_)
       |((with_reducible apply A2 21);rfl)
       |((with_reducible apply ob);(exact oT)))
      all_goals (conv=>whnf)
      all_goals (first|(exfalso;omega)|skip)
      all_goals first
       |(refine fC rfl (Eq.symm (hfail (hrun.trans (JW hjl ?_ ?_)))) <;> (first|rfl|(refine BH ?_;assumption)|(refine BI ?_;assumption)|(refine Ce ?_ ?_ <;> assumption)|(refine Cd ?_;assumption)|(refine Cc ?_;assumption)|(refine C8 ?_ ?_ <;> assumption)))
       |(refine A0 (X:=Nat × List (Int × List Int) × List (Int × Tree)) (j + 1,yt,[]) ?_ rfl ?_ ?_ <;> first|(refine ⟨?_,?_,?_,hn1,hrun.trans (Fm hjl ?_)⟩ <;> first|(dsimp only;omega)|(simp only [List.length_cons] at hy1 ⊢;omega)|(refine BH ?_;assumption)|(refine BI ?_;assumption)|(refine Ce ?_ ?_ <;> assumption)|(refine Cd ?_;assumption)|(refine Cc ?_;assumption)|(refine C8 ?_ ?_ <;> assumption))|(dsimp only;omega)|(simp only [List.length_cons] at hy1 ⊢;omega)|(refine BH ?_;assumption)|(refine BI ?_;assumption)|(refine Ce ?_ ?_ <;> assumption)|(refine Cd ?_;assumption)|(refine Cc ?_;assumption)|(refine C8 ?_ ?_ <;> assumption)|(focus (repeat (first|exact trivial|refine B4 rfl ?_));done))
       |(refine A0 (X:=Nat × List (Int × List Int) × List (Int × Tree)) (j + 1,yt,(uj,Tree.node um) :: ut) ?_ rfl ?_ ?_ <;> first|(refine ⟨?_,?_,?_,hn1,hrun.trans (Fm hjl ?_)⟩ <;> first|(dsimp only;omega)|(simp only [List.length_cons] at hy1 ⊢;omega)|(refine BH ?_;assumption)|(refine BI ?_;assumption)|(refine Ce ?_ ?_ <;> assumption)|(refine Cd ?_;assumption)|(refine Cc ?_;assumption)|(refine C8 ?_ ?_ <;> assumption))|(dsimp only;omega)|(simp only [List.length_cons] at hy1 ⊢;omega)|(refine BH ?_;assumption)|(refine BI ?_;assumption)|(refine Ce ?_ ?_ <;> assumption)|(refine Cd ?_;assumption)|(refine Cc ?_;assumption)|(refine C8 ?_ ?_ <;> assumption)|(focus (repeat (first|exact trivial|refine B4 rfl ?_));done))
       |(refine A0 (X:=Nat × List (Int × List Int) × List (Int × Tree)) (j + 1,[],ut) ?_ rfl ?_ ?_ <;> first|(refine ⟨?_,?_,hy1,?_,hrun.trans (FZ hjl ?_ ?_)⟩ <;> first|rfl|(dsimp only;omega)|(simp only [List.length_cons] at hn1 ⊢;omega)|(refine BH ?_;assumption)|(refine BI ?_;assumption)|(refine Ce ?_ ?_ <;> assumption)|(refine Cd ?_;assumption)|(refine Cc ?_;assumption)|(refine C8 ?_ ?_ <;> assumption))|rfl|(dsimp only;omega)|(simp only [List.length_cons] at hn1 ⊢;omega)|(refine BH ?_;assumption)|(refine BI ?_;assumption)|(refine Ce ?_ ?_ <;> assumption)|(refine Cd ?_;assumption)|(refine Cc ?_;assumption)|(refine C8 ?_ ?_ <;> assumption)|(focus (repeat (first|exact trivial|refine B4 rfl ?_));done))
       |(refine A0 (X:=Nat × List (Int × List Int) × List (Int × Tree)) (j + 1,(yj,ym) :: yt,ut) ?_ rfl ?_ ?_ <;> first|(refine ⟨?_,?_,hy1,?_,hrun.trans (FZ hjl ?_ ?_)⟩ <;> first|rfl|(dsimp only;omega)|(simp only [List.length_cons] at hn1 ⊢;omega)|(refine BH ?_;assumption)|(refine BI ?_;assumption)|(refine Ce ?_ ?_ <;> assumption)|(refine Cd ?_;assumption)|(refine Cc ?_;assumption)|(refine C8 ?_ ?_ <;> assumption))|rfl|(dsimp only;omega)|(simp only [List.length_cons] at hn1 ⊢;omega)|(refine BH ?_;assumption)|(refine BI ?_;assumption)|(refine Ce ?_ ?_ <;> assumption)|(refine Cd ?_;assumption)|(refine Cc ?_;assumption)|(refine C8 ?_ ?_ <;> assumption)|(focus (repeat (first|exact trivial|refine B4 rfl ?_));done))
       |skip
    ·have hp1 : (0 : Int) < ((Lm ((yj,ym) :: yt)).length : Int):=by simp only [Ld,List.length_cons];omega
     have hp2 : (0 : Int) < ((M6 ((uj,Tree.node um) :: ut)).length : Int):=by simp only [Os,List.length_cons];omega
     have hck:=hck yj ym
     have hch:=hch um
     cases hr : Gd x i yj ym <;> rw [hr] at hck <;> cases hk : Kn x x (Bh i j) (.node um) <;> rw [hk] at hch
     all_goals
      repeat' (
       conv=>whnf
       first
       |refine Al (fun h=>?_) (fun h=>?_)
       |with_reducible refine Ap ?_
       |((with_reducible refine AbD ?_))
       |((with_reducible refine AbA ?_))
       |((with_reducible refine Ao ?_);refine Au hck ?_)
       |((with_reducible refine Ao ?_);refine Au hch ?_)
       |((with_reducible refine Bm ?_);refine Bo (BU _ _ (by omega)) ?_)
       |((with_reducible apply A2 21);rfl)
       |((with_reducible apply ob);(exact oT)))
      all_goals (conv=>whnf)
      all_goals (first|(exfalso;omega)|skip)
      all_goals first
       |(refine fC rfl (Eq.symm (hfail (hrun.trans (JW hjl ?_ ?_)))) <;> (first|rfl|(refine BH ?_;assumption)|(refine BI ?_;assumption)|(refine Ce ?_ ?_ <;> assumption)|(refine Cd ?_;assumption)|(refine Cc ?_;assumption)|(refine C8 ?_ ?_ <;> assumption)))
       |(refine A0 (X:=Nat × List (Int × List Int) × List (Int × Tree)) (j + 1,yt,[]) ?_ rfl ?_ ?_ <;> first|(refine ⟨?_,?_,?_,hn1,hrun.trans (Fm hjl ?_)⟩ <;> first|(dsimp only;omega)|(simp only [List.length_cons] at hy1 ⊢;omega)|(refine BH ?_;assumption)|(refine BI ?_;assumption)|(refine Ce ?_ ?_ <;> assumption)|(refine Cd ?_;assumption)|(refine Cc ?_;assumption)|(refine C8 ?_ ?_ <;> assumption))|(dsimp only;omega)|(simp only [List.length_cons] at hy1 ⊢;omega)|(refine BH ?_;assumption)|(refine BI ?_;assumption)|(refine Ce ?_ ?_ <;> assumption)|(refine Cd ?_;assumption)|(refine Cc ?_;assumption)|(refine C8 ?_ ?_ <;> assumption)|(focus (repeat (first|exact trivial|refine B4 rfl ?_));done))
       |(refine A0 (X:=Nat × List (Int × List Int) × List (Int × Tree)) (j + 1,yt,(uj,Tree.node um) :: ut) ?_ rfl ?_ ?_ <;> first|(refine ⟨?_,?_,?_,hn1,hrun.trans (Fm hjl ?_)⟩ <;> first|(dsimp only;omega)|(simp only [List.length_cons] at hy1 ⊢;omega)|(refine BH ?_;assumption)|(refine BI ?_;assumption)|(refine Ce ?_ ?_ <;> assumption)|(refine Cd ?_;assumption)|(refine Cc ?_;assumption)|(refine C8 ?_ ?_ <;> assumption))|(dsimp only;omega)|(simp only [List.length_cons] at hy1 ⊢;omega)|(refine BH ?_;assumption)|(refine BI ?_;assumption)|(refine Ce ?_ ?_ <;> assumption)|(refine Cd ?_;assumption)|(refine Cc ?_;assumption)|(refine C8 ?_ ?_ <;> assumption)|(focus (repeat (first|exact trivial|refine B4 rfl ?_));done))
       |(refine A0 (X:=Nat × List (Int × List Int) × List (Int × Tree)) (j + 1,[],ut) ?_ rfl ?_ ?_ <;> first|(refine ⟨?_,?_,hy1,?_,hrun.trans (FZ hjl ?_ ?_)⟩ <;> first|rfl|(dsimp only;omega)|(simp only [List.length_cons] at hn1 ⊢;omega)|(refine BH ?_;assumption)|(refine BI ?_;assumption)|(refine Ce ?_ ?_ <;> assumption)|(refine Cd ?_;assumption)|(refine Cc ?_;assumption)|(refine C8 ?_ ?_ <;> assumption))|rfl|(dsimp only;omega)|(simp only [List.length_cons] at hn1 ⊢;omega)|(refine BH ?_;assumption)|(refine BI ?_;assumption)|(refine Ce ?_ ?_ <;> assumption)|(refine Cd ?_;assumption)|(refine Cc ?_;assumption)|(refine C8 ?_ ?_ <;> assumption)|(focus (repeat (first|exact trivial|refine B4 rfl ?_));done))
       |(refine A0 (X:=Nat × List (Int × List Int) × List (Int × Tree)) (j + 1,(yj,ym) :: yt,ut) ?_ rfl ?_ ?_ <;> first|(refine ⟨?_,?_,hy1,?_,hrun.trans (FZ hjl ?_ ?_)⟩ <;> first|rfl|(dsimp only;omega)|(simp only [List.length_cons] at hn1 ⊢;omega)|(refine BH ?_;assumption)|(refine BI ?_;assumption)|(refine Ce ?_ ?_ <;> assumption)|(refine Cd ?_;assumption)|(refine Cc ?_;assumption)|(refine C8 ?_ ?_ <;> assumption))|rfl|(dsimp only;omega)|(simp only [List.length_cons] at hn1 ⊢;omega)|(refine BH ?_;assumption)|(refine BI ?_;assumption)|(refine Ce ?_ ?_ <;> assumption)|(refine Cd ?_;assumption)|(refine Cc ?_;assumption)|(refine C8 ?_ ?_ <;> assumption)|(focus (repeat (first|exact trivial|refine B4 rfl ?_));done))
       |skip
   ·have hjv : j = x.V:=by omega
    have hl1:=Ld ys'
    have hl2:=Os ns'
    subst hjv
    have hrun2 : DA x i (x.V - i) i ys ns = decide (ys'.length + ns'.length = 0):=by rw [hrun,Nat.sub_self];rfl
    repeat' (
     conv=>whnf
     first
     |refine Al (fun h=>?_) (fun h=>?_)
     |with_reducible refine Ap ?_
     |((with_reducible apply A2 21);rfl)
     |((with_reducible apply ob);(exact oT)))
    all_goals (conv=>whnf)
    all_goals (first|(exfalso;omega)|skip)
    ·exact fC rfl (Eq.symm (hfail (by rw [hrun2];exact decide_eq_false (by omega))))
    ·have ht : DA x i (x.V - i) i ys ns = true:=by rw [hrun2];exact decide_eq_true (by omega)
     have hle:=Oy x i _ _ _ _ ht
     refine nx (X:=Nat × Nat) (ρ:=[]) (i + 1,n * ys.length) Cb trivial rfl rfl ?_ ?_
     ·dsimp only;omega
     ·refine ⟨?_,?_,hgo ht⟩
      ·dsimp only;omega
      ·dsimp only;rw [Nat.pow_succ];exact Nat.mul_le_mul hn (by omega)
  ·have hiv : i = x.V:=by omega
   have hlast : Kw x L = n:=by
    unfold Kw;rw [if_pos hLV,hc,List.drop_eq_nil_of_le (by omega)];rfl
   repeat' (
    conv=>whnf
    first
    |refine Al (fun h=>?_) (fun h=>?_)
    |((with_reducible apply ob);(exact oT)))
   all_goals (conv=>whnf)
   all_goals (first|(exfalso;omega)|skip)
   ·exact fC rfl (by rw [hlast,show n = 0 by omega];rfl)
   ·refine fC rfl (by rw [hlast];unfold VW;rw [if_neg (by omega)];rfl)
 ·repeat' (
   conv=>whnf
   first
   |refine Al (fun h=>?_) (fun h=>?_)
   |refine Cs (fun h=>?_) (fun h=>?_)
   |with_reducible refine Ap ?_)
  all_goals (conv=>whnf)
  all_goals (first|(exfalso;omega)|skip)
  have e : Kw x L = 0:=by unfold Kw;rw [if_neg hLV]
  exact fC rfl (by rw [e];rfl)
open Go
open Go
structure Inc.Fam (x : Inc) : Prop where
 ok : x.Ok
 v7 : x.V ≤ 7
 s : H5 x.B
 lt : ∀ b ∈ x.B,b < 2 ^ x.V
theorem Pf (b : Nat) (l : List Int) (q : Nat) : ∀ k,(E2 b l k).testBit q = (decide (q < k) && b.testBit (l.getD q 0).toNat)
 |0=>by simp [E2]
 |k + 1=>by
  have h1 : ∀ y : Nat,(y &&& 1).testBit (q - k) = (decide (q - k = 0) && y.testBit 0):=fun y=>by
   rw [Nat.testBit_and]
   rcases Nat.eq_zero_or_pos (q - k) with h|h
   ·rw [h];simp
   ·have : Nat.testBit 1 (q - k) = false:=by
     have e : (1 : Nat) = 2 ^ 0:=rfl
     rw [e,Nat.testBit_two_pow];simp;omega
    rw [this];simp;omega
  rw [E2,Nat.testBit_or,Pf b l q k,Nat.testBit_shiftLeft,h1,Nat.testBit_shiftRight]
  rcases Nat.lt_trichotomy q k with h|h|h
  ·have a1 : ¬ q ≥ k:=by omega
   have a2 : q < k + 1:=by omega
   simp [h,a1,a2]
  ·subst h;simp
  ·have a1 : ¬ q < k:=by omega
   have a2 : ¬ q < k + 1:=by omega
   have a3 : q - k ≠ 0:=by omega
   simp [a1,a2,a3]
theorem Ep (l : List Int) (b q : Nat) : (Br l b).testBit q = (decide (q < l.length) && b.testBit (l.getD q 0).toNat):=Pf b l q _
theorem P1 (l : List Int) (b k : Nat) (hk : k ≤ l.length) : Br (l.take k) b = Br l b % 2 ^ k:=by
 apply Nat.eq_of_testBit_eq
 intro q
 rw [Nat.testBit_mod_two_pow,Ep,Ep,List.length_take,Nat.min_eq_left hk]
 by_cases h : q < k
 ·have h2 : q < l.length:=by omega
  have e : (l.take k).getD q 0 = l.getD q 0:=by simp [List.getD,List.getElem?_take,h]
  simp [h,h2,e]
 ·simp [h]
theorem FA (n q : Nat) (h : q < n) : (Bg n).getD q 0 = (q : Int):=by
 have : (Bg n)[q]? = some (q : Int):=by simp [Bg,E7,h]
 exact Bt this
theorem Xi (n b : Nat) : Br (Bg n) b = b % 2 ^ n:=by
 apply Nat.eq_of_testBit_eq
 intro q
 rw [Nat.testBit_mod_two_pow,Ep,Cz]
 by_cases h : q < n
 ·rw [FA n q h];simp
 ·simp [h]
theorem Acz (n k : Nat) (h : k ≤ n) : (Bg n).take k = Bg k:=by
 simp [Bg,E7,← List.map_take,List.take_range,Nat.min_eq_left h]
theorem KP (k n : Nat) (h : k ≤ n) : De (Bg k) n:=by
 refine ⟨fun x hx=>?_,?_⟩
 ·simp only [Bg,E7,List.mem_map,List.mem_range] at hx
  obtain ⟨y,hy,rfl⟩:=hx
  omega
 ·unfold Bg E7
  exact List.Pairwise.map _ (fun a b (hab : a ≠ b)=>by intro e;exact hab (by omega)) List.nodup_range
theorem SN {m : List Int} {n : Int} (h : De m n) (k : Nat) : De (m.take k) n:=⟨fun x hx=>h.1 x (List.mem_of_mem_take hx),h.2.sublist (List.take_sublist k m)⟩
theorem Rm (l m : List Nat) : Cl l = Cl m ↔ l.Perm m :=
 ⟨fun h=>((Ca l).symm.trans (h ▸ List.Perm.refl _)).trans (Ca m),fun h=>Kc ((Ca l).trans h) (Hj l)⟩
def Od (x : Inc) (m : List Int) : Prop:=(x.B.map (Br (Bg m.length))).Perm (x.B.map (Br m))
theorem JO (x : Inc) {m : List Int} (hd : De m x.V) : ¬ E9 x x m ↔ Od x m:=by
 have hl:=Nl hd
 have h1:=KP m.length x.V hl
 unfold E9 Fb Od
 rw [if_pos h1,if_pos hd,← Rm]
 simp
def Hm (x : Inc) (g : List Int) : Prop:=Pm g x.V ∧ Od x g
theorem Yp {x : Inc} {g : List Int} (h : Od x g) (k : Nat) (hk : k ≤ g.length) : Od x (g.take k):=by
 have h1:=h.map (fun t=>t % 2 ^ k)
 unfold Od
 rw [List.map_map,List.map_map] at h1
 rw [List.length_take,Nat.min_eq_left hk]
 have e1 : x.B.map (Br (Bg k)) = x.B.map ((fun t=>t % 2 ^ k) ∘ Br (Bg g.length)):=List.map_congr_left fun b _=>by
  show _ = Br (Bg g.length) b % 2 ^ k
  rw [← P1 _ _ _ (by rw [Cz];exact hk),Acz _ _ hk]
 have e2 : x.B.map (Br (g.take k)) = x.B.map ((fun t=>t % 2 ^ k) ∘ Br g):=List.map_congr_left fun b _=>P1 _ _ _ hk
 rw [e1,e2];exact h1
theorem S4 {x : Inc} {g : List Int} (h : Hm x g) (k : Nat) : ¬ E9 x x (g.take k):=by
 rw [JO x (SN h.1.2 k)]
 rcases Nat.le_total k g.length with hk|hk
 ·exact Yp h.2 k hk
 ·rw [List.take_of_length_le hk];exact h.2
theorem MJ {α : Type} {F : Nat → Option α} : ∀ {l : List Nat},Fd F l = none → ∀ p ∈ l,F p = none
 |[],_,p,hp=>by cases hp
 |q :: ps,h,p,hp=>by
  cases hq : F q with
  |some y=>simp [Fd,hq] at h
  |none =>
   simp only [Fd,hq] at h
   rcases List.mem_cons.1 hp with rfl|hp
   ·exact hq
   ·exact MJ h p hp
theorem Uu {α : Type} {F : Nat → Option α} : ∀ {l : List Nat},Gr F l = none → ∃ p ∈ l,F p = none
 |[],h=>by cases h
 |q :: ps,h=>by
  cases hq : F q with
  |none=>exact ⟨q,List.mem_cons_self,hq⟩
  |some y =>
   cases ht : Gr F ps with
   |some ts=>simp [Gr,hq,ht] at h
   |none=>obtain ⟨p,hp,e⟩:=Uu ht;exact ⟨p,List.mem_cons_of_mem _ hp,e⟩
theorem Ta {α : Type} {F : Nat → Option α} : ∀ {l : List Nat} {ts : List α},Gr F l = some ts → ts.length = l.length ∧ ∀ (i p : Nat) (t : α),l[i]? = some p → ts[i]? = some t → F p = some t
 |[],ts,h=>by cases h;exact ⟨rfl,by simp⟩
 |q :: ps,ts,h=>by
  cases hq : F q with
  |none=>simp [Gr,hq] at h
  |some y =>
   cases ht : Gr F ps with
   |none=>simp [Gr,hq,ht] at h
   |some us =>
    simp only [Gr,hq,ht] at h
    cases h
    obtain ⟨h1,h2⟩:=Ta ht
    refine ⟨by simp [h1],?_⟩
    rintro (_|i) p t hp ht
    ·simp at hp ht;subst hp;subst ht;exact hq
    ·exact h2 i p t (by simpa using hp) (by simpa using ht)
theorem Xg {g m : List Int} {p : Int} (h : g.take (m.length + 1) = m ++ [p]) : g.take m.length = m:=by
 have:=congrArg (List.take m.length) h
 rwa [List.take_take,Nat.min_eq_left (by omega),List.take_left] at this
theorem QX {g m : List Int} (h : g.take m.length = m) (hl : m.length < g.length) : g.take (m.length + 1) = m ++ [g[m.length]]:=by
 rw [List.take_add_one,h,List.getElem?_eq_getElem hl];rfl
theorem OB (x : Inc) (hx : x.V ≤ 7) : ∀ f m g,m.length + f = x.V → De m x.V → C2 x x f m = some g → Hm x g ∧ g.take m.length = m
 |0,m,g,hl,hd,h=>by
  unfold C2 at h
  by_cases hf : E9 x x m
  ·rw [if_pos hf] at h;cases h
  ·rw [if_neg hf] at h;cases h
   exact ⟨⟨⟨by omega,hd⟩,(JO x hd).1 hf⟩,List.take_length⟩
 |f + 1,m,g,hl,hd,h=>by
  unfold C2 at h
  by_cases hf : E9 x x m
  ·rw [if_pos hf] at h;cases h
  ·rw [if_neg hf] at h
   obtain ⟨p,hp,e⟩:=Lx h
   have hp2:=(Fl (by omega) hd.1 p).1 hp
   have hd2 : De (m ++ [(p : Int)]) x.V:=Jo (by omega) hd hp
   obtain ⟨h1,h2⟩:=OB x hx f _ g (by simp;omega) hd2 e
   refine ⟨h1,Xg (p:=(p : Int)) ?_⟩
   rw [← h2];simp
theorem Zu {x : Inc} (hx : x.V ≤ 7) {g m : List Int} (hg : Pm g x.V) (hm : g.take m.length = m) (hl : m.length < x.V) : ∃ p : Nat,p ∈ B5 x.V m ∧ g.take (m.length + 1) = m ++ [(p : Int)]:=by
 have hlg : m.length < g.length:=by rw [hg.1];exact hl
 have hr:=hg.2.1 _ (List.getElem_mem hlg)
 have hd : De m x.V:=hm ▸ SN hg.2 m.length
 have e : ((g[m.length].toNat : Nat) : Int) = g[m.length]:=by omega
 refine ⟨g[m.length].toNat,(Fl (by omega) hd.1 _).2 ⟨by omega,?_⟩,by rw [e];exact QX hm hlg⟩
 rw [e]
 intro hmem
 have h2 : (g.take (m.length + 1)).Nodup:=hg.2.2.sublist (List.take_sublist _ _)
 rw [QX hm hlg] at h2
 exact (List.nodup_append.1 h2).2.2 _ hmem _ (List.mem_singleton.2 rfl) rfl
theorem Vz (x : Inc) (hx : x.V ≤ 7) (g : List Int) (hg : Hm x g) : ∀ f m,m.length + f = x.V → g.take m.length = m → C2 x x f m ≠ none
 |0,m,hl,hm=>by
  have h:=S4 hg m.length
  rw [hm] at h
  simp [C2,h]
 |f + 1,m,hl,hm=>by
  have h:=S4 hg m.length
  rw [hm] at h
  obtain ⟨p,hp,hp2⟩:=Zu hx hg.1 hm (by omega)
  unfold C2
  rw [if_neg h]
  intro hn
  exact Vz x hx g hg f (m ++ [(p : Int)]) (by simp;omega) (by rw [List.length_append];exact hp2) (MJ hn p hp)
theorem Vb (x : Inc) (hx : x.V ≤ 7) : ∀ f m t,m.length + f = x.V → De m x.V → Ec x x f m = some t → FM x x f m t = true
 |0,m,t,hl,hd,h=>by
  unfold Ec at h
  by_cases hf : E9 x x m
  ·rw [if_pos hf] at h;cases h
   show (if _ then _ else _) = _
   rw [if_pos (by rfl)];exact decide_eq_true hf
  ·rw [if_neg hf] at h;cases h
 |f + 1,m,t,hl,hd,h=>by
  unfold Ec at h
  by_cases hf : E9 x x m
  ·rw [if_pos hf] at h;cases h
   show (if _ then _ else _) = _
   rw [if_pos (by rfl)];exact decide_eq_true hf
  ·rw [if_neg hf] at h
   cases ha : Gr (fun p=>Ec x x f (m ++ [(p : Int)])) (B5 x.V m) with
   |none=>rw [ha] at h;cases h
   |some ts =>
    rw [ha] at h;cases h
    obtain ⟨h1,h2⟩:=Ta ha
    have hrl:=MO (V:=x.V) (by omega) hd
    unfold FM
    rw [if_neg (show ¬ (Tree.node ts).kids.length = 0 by show ¬ ts.length = 0;omega),if_neg (by simp only [Tree.kids];omega)]
    refine KS fun i p t hp ht=>?_
    have hp2:=(Fl (by omega) hd.1 p).1 (List.mem_of_getElem? hp)
    exact Vb x hx f _ _ (by simp;omega) (Jo (by omega) hd (List.mem_of_getElem? hp)) (h2 i p t hp ht)
theorem TI (x : Inc) : ∀ f m,Ec x x f m = none → C2 x x f m ≠ none
 |0,m,h=>by
  unfold Ec at h
  by_cases hf : E9 x x m
  ·rw [if_pos hf] at h;cases h
  ·unfold C2;rw [if_neg hf];simp
 |f + 1,m,h=>by
  unfold Ec at h
  by_cases hf : E9 x x m
  ·rw [if_pos hf] at h;cases h
  ·rw [if_neg hf] at h
   cases ha : Gr (fun p=>Ec x x f (m ++ [(p : Int)])) (B5 x.V m) with
   |some ts=>rw [ha] at h;cases h
   |none =>
    obtain ⟨p,hp,e⟩:=Uu ha
    unfold C2;rw [if_neg hf]
    intro hn
    exact TI x f _ e (MJ hn p hp)
theorem Z5 (V k : Nat) (hV : V ≤ 7) (h : k < V) : ∃ l,B5 V (Bg k) = k :: l:=by
 have hd:=KP k V (by omega)
 have hs : (B5 V (Bg k)).Pairwise (· < ·):=List.Pairwise.filter _ List.pairwise_lt_range
 have hm:=fun p=>Fl (V:=V) (m:=Bg k) (by omega) hd.1 p
 have hk : k ∈ B5 V (Bg k):=(hm k).2 ⟨h,fun hh=>by
  simp only [Bg,E7,List.mem_map,List.mem_range] at hh
  obtain ⟨y,hy,e⟩:=hh
  omega⟩
 cases hl : B5 V (Bg k) with
 |nil=>rw [hl] at hk;cases hk
 |cons a l =>
  refine ⟨l,?_⟩
  rw [hl] at hs hk
  rcases List.mem_cons.1 hk with e|e
  ·rw [e]
  ·have h1:=(List.pairwise_cons.1 hs).1 k e
   have h2:=(hm a).1 (hl ▸ List.mem_cons_self)
   exact absurd (List.mem_map.2 ⟨a,List.mem_range.2 h1,rfl⟩) h2.2
theorem Jn (k : Nat) : Bg k ++ [(k : Int)] = Bg (k + 1):=by simp only [Bg,E7,List.range_succ,List.map_append,List.map_cons,List.map_nil]
theorem Qv (x : Inc) (k : Nat) : Od x (Bg k):=by unfold Od;rw [Cz]
theorem T2 (x : Inc) (hx : x.V ≤ 7) : ∀ f k,k + f = x.V → C2 x x f (Bg k) = some (Bg x.V)
 |0,k,h=>by
  have : k = x.V:=by omega
  subst this
  have hn:=(JO x (KP x.V x.V (Nat.le_refl _))).2 (Qv x x.V)
  simp [C2,hn]
 |f + 1,k,h=>by
  have hn:=(JO x (KP k x.V (by omega))).2 (Qv x k)
  obtain ⟨l,hl⟩:=Z5 x.V k hx (by omega)
  unfold C2
  rw [if_neg hn,hl]
  have:=T2 x hx f (k + 1) (by omega)
  simp only [Fd,Jn,this]
theorem KK (g : List Int) (q : Nat) : ∀ (l : List Nat) (o : Nat),(l.foldl (fun o p=>o ||| 1 <<< (g.getD p 0).toNat) o).testBit q = true ↔ (o.testBit q = true ∨ ∃ p ∈ l,(g.getD p 0).toNat = q)
 |[],o=>by simp
 |p :: l,o=>by
  rw [List.foldl_cons,KK g q l]
  rw [Nat.testBit_or,Nat.one_shiftLeft,Nat.testBit_two_pow]
  simp only [Bool.or_eq_true,decide_eq_true_eq,List.mem_cons,exists_eq_or_imp]
  exact or_assoc
theorem Bf (b q : Nat) : q ∈ Ac b ↔ q < 64 ∧ b.testBit q = true:=by unfold Ac;rw [List.mem_filter,List.mem_range]
theorem B2 {b V : Nat} (hb : b < 2 ^ V) {q : Nat} (h : b.testBit q = true) : q < V:=by
 rcases Nat.lt_or_ge q V with h1|h1
 ·exact h1
 ·rw [Nat.testBit_lt_two_pow (Nat.lt_of_lt_of_le hb (Nat.pow_le_pow_right (by decide) h1))] at h;cases h
theorem Mf {g : List Int} {V : Nat} (hg : Pm g V) {p q : Nat} (hp : p < V) (hq : q < V) (h : (g.getD p 0).toNat = (g.getD q 0).toNat) : p = q:=by
 have hp2 : p < g.length:=by rw [hg.1];exact hp
 have hq2 : q < g.length:=by rw [hg.1];exact hq
 rw [Bt (List.getElem?_eq_getElem hp2),Bt (List.getElem?_eq_getElem hq2)] at h
 have h1:=hg.2.1 _ (List.getElem_mem hp2)
 have h2:=hg.2.1 _ (List.getElem_mem hq2)
 have e : g[p] = g[q]:=by omega
 exact (List.getElem_inj hg.2.2).1 e
theorem I8 {g : List Int} {V b : Nat} (hV : V ≤ 64) (hg : Pm g V) (hb : b < 2 ^ V) : Br g (Eb g (Ac b)) = b:=by
 apply Nat.eq_of_testBit_eq
 intro q
 rw [Ep,hg.1]
 have h1:=KK g (g.getD q 0).toNat (Ac b) 0
 rw [Bool.eq_iff_iff,Bool.and_eq_true,decide_eq_true_eq]
 unfold Eb
 rw [h1]
 simp only [Nat.zero_testBit,Bool.false_eq_true,false_or]
 constructor
 ·rintro ⟨hq,p,hp,e⟩
  rw [Bf] at hp
  have:=Mf hg (B2 hb hp.2) hq e
  rw [← this];exact hp.2
 ·intro h
  exact ⟨B2 hb h,q,(Bf _ _).2 ⟨by have:=B2 hb h;omega,h⟩,rfl⟩
theorem SC (g : List Int) (b : Nat) : Br g b < 2 ^ g.length:=by
 refine Nat.lt_pow_two_of_testBit _ fun i hi=>?_
 rw [Ep]
 have : ¬ i < g.length:=by omega
 simp [this]
theorem Rt {g : List Int} {V b c : Nat} (hg : Pm g V) (hV : V ≤ 64) (hb : b < 2 ^ V) (hc : c < 2 ^ V) (h : Br g b = Br g c) : b = c:=by
 have hs : ∀ q,q < V → ∃ p,p < V ∧ (g.getD p 0).toNat = q:=by
  have hnd : (g.map Int.toNat).Nodup:=(CZ (fun a ha b hb e=>by have:=hg.2.1 a ha;have:=hg.2.1 b hb;omega)).2 hg.2.2
  have h1:=(OF V (g.map Int.toNat) (fun x hx=>by
   obtain ⟨y,hy,rfl⟩:=List.mem_map.1 hx
   have:=hg.2.1 y hy;omega) (by rw [List.length_map];exact hg.1)).2 hnd
  intro q hq
  obtain ⟨y,hy,e⟩:=List.mem_map.1 (h1 q hq)
  obtain ⟨p,hp,rfl⟩:=List.getElem_of_mem hy
  exact ⟨p,by rw [← hg.1];exact hp,by rw [Bt (List.getElem?_eq_getElem hp)];exact e⟩
 apply Nat.eq_of_testBit_eq
 intro q
 rcases Nat.lt_or_ge q V with hq|hq
 ·obtain ⟨p,hp,e⟩:=hs q hq
  have h1:=congrArg (fun t=>t.testBit p) h
  simp only [Ep,hg.1,hp,decide_true,Bool.true_and,e] at h1
  exact h1
 ·rw [Nat.testBit_lt_two_pow (Nat.lt_of_lt_of_le hb (Nat.pow_le_pow_right (by decide) hq)),Nat.testBit_lt_two_pow (Nat.lt_of_lt_of_le hc (Nat.pow_le_pow_right (by decide) hq))]
theorem Xm {g : List Int} {V : Nat} (hg : Pm g V) (l : List Nat) (hl : ∀ p ∈ l,p < V) : Eb g l < 2 ^ V:=by
 refine Nat.lt_pow_two_of_testBit _ fun i hi=>?_
 cases hb : (Eb g l).testBit i with
 |false=>rfl
 |true =>
  rcases (KK g i l 0).1 hb with h|⟨p,hp,e⟩
  ·simp at h
  ·have hp2 : p < g.length:=by rw [hg.1];exact hl p hp
   rw [Bt (List.getElem?_eq_getElem hp2)] at e
   have:=hg.2.1 _ (List.getElem_mem hp2)
   omega
theorem LU {g : List Int} {V b : Nat} (hV : V ≤ 64) (hg : Pm g V) (hb : b < 2 ^ V) : Eb g (Ac (Br g b)) = b:=by
 have h1 : Br g b < 2 ^ V:=by have:=SC g b;rwa [hg.1] at this
 exact Rt hg hV (Xm hg _ fun p hp=>B2 h1 ((Bf _ _).1 hp).2) hb (I8 hV hg h1)
theorem Oi {x : Inc} (hx : x.Fam) : x.B.map (Br (Bg x.V)) = x.B:=by
 conv=>rhs;rw [← List.map_id x.B]
 exact List.map_congr_left fun b hb=>by rw [Xi,Nat.mod_eq_of_lt (hx.lt b hb)];rfl
theorem MW {x : Inc} (hx : x.Fam) (g : List Int) : LT x g = true ↔ Hm x g:=by
 have hv:=hx.v7
 have hv1:=hx.ok.v1
 have h1:=Oi hx
 unfold LT Hm Jq Od
 rw [decide_eq_true_eq]
 constructor
 ·rintro ⟨hl,⟨h3,h4,h5⟩,h6⟩
  have hd : De g x.V:=by rw [← hl];exact h5
  have hg : Pm g x.V:=⟨hl,hd⟩
  rw [if_pos hg] at h6
  refine ⟨hg,?_⟩
  rw [hl,h1]
  have h7 : (CI g x.B).Perm x.B:=by have:=Ca (CI g x.B);rw [show Cl (CI g x.B) = x.B from h6] at this;exact this.symm
  have h8:=h7.map (Br g)
  refine List.Perm.trans ?_ h8
  unfold CI
  rw [List.map_map]
  refine List.Perm.of_eq ?_
  conv=>lhs;rw [← List.map_id x.B]
  exact List.map_congr_left fun b hb=>(I8 (by omega) hg (hx.lt b hb)).symm
 ·rintro ⟨hg,h⟩
  have hl:=hg.1
  rw [hl,h1] at h
  refine ⟨hl,⟨by omega,by omega,by rw [hl];exact hg.2⟩,?_⟩
  rw [if_pos hg]
  show Cl (CI g x.B) = x.B
  refine (Kc ?_ hx.s).symm
  have h8:=h.map (fun b=>Eb g (Ac b))
  refine List.Perm.trans ?_ h8.symm
  rw [List.map_map]
  refine List.Perm.of_eq ?_
  conv=>lhs;rw [← List.map_id x.B]
  exact List.map_congr_left fun b hb=>(LU (by omega) hg (hx.lt b hb)).symm
open Go
theorem SJ {x : Inc} (hx : x.V ≤ 7) {i j : Nat} (hij : i ≤ j) (hj : j < x.V) : (DY x x (Bh i j)).isSome = true ↔ ∃ g,Hm x g ∧ g.take (i + 1) = Bh i j:=by
 have hd:=KN i j x.V hij hj
 have hl:=Hk i j
 unfold DY
 constructor
 ·intro h
  obtain ⟨g,hg⟩:=Option.isSome_iff_exists.1 h
  obtain ⟨h1,h2⟩:=OB x hx _ _ g (by omega) hd hg
  exact ⟨g,h1,by rw [← hl];exact h2⟩
 ·rintro ⟨g,hg,h⟩
  have:=Vz x hx g hg (x.V - (Bh i j).length) (Bh i j) (by omega) (by rw [hl];exact h)
  cases he : C2 x x (x.V - (Bh i j).length) (Bh i j) with
  |none=>exact absurd he this
  |some g=>rfl
theorem UL (k : Nat) (h : 1 ≤ k) : Bh (k - 1) (k - 1) = Bg k:=by
 unfold Bh
 rw [Jn,Nat.sub_add_cancel h]
theorem WO {x : Inc} (hx : x.Fam) {i j : Nat} (hij : i ≤ j) (hj : j < x.V) {m : List Int} (h : DY x x (Bh i j) = some m) : Gd x i (j : Int) m = true:=by
 have hd:=KN i j x.V hij hj
 have hl:=Hk i j
 have hv1:=hx.ok.v1
 unfold DY at h
 obtain ⟨h1,h2⟩:=OB x hx.v7 _ _ m (by omega) hd h
 rw [hl] at h2
 have hm : i < m.length:=by rw [h1.1.1];omega
 have h3:=congrArg (List.take i) h2
 rw [List.take_take,Nat.min_eq_left (by omega)] at h3
 have h4 : (Bh i j).take i = Bg i:=by
  unfold Bh;rw [List.take_append_of_le_length (by rw [Cz];omega),List.take_of_length_le (by rw [Cz];omega)]
 have h5 : m[i]? = some (j : Int):=by
  have e:=congrArg (fun l=>l[i]?) h2
  simp only [List.getElem?_take,Nat.lt_succ_self,if_pos] at e
  rw [e]
  unfold Bh
  rw [List.getElem?_append_right (by rw [Cz];omega),Cz];simp
 unfold Gd
 simp only [Bool.and_eq_true,decide_eq_true_eq]
 refine ⟨⟨⟨(MW hx m).2 h1,?_⟩,Bt h5⟩,?_⟩
 ·rw [h3,h4,UL x.V hv1,Acz x.V i (by omega)]
 ·rw [Bool.or_eq_true,decide_eq_true_eq,decide_eq_true_eq]
  by_cases hji : j = i
  ·right
   subst hji
   have e : Bh j j = Bg (j + 1):=by unfold Bh;exact Jn j
   rw [e,Cz,T2 x hx.v7 _ (j + 1) (by omega)] at h
   cases h
   rw [UL x.V hv1]
  ·left;intro e;exact hji (by omega)
theorem Aa4 {x : Inc} (hx : x.V ≤ 7) {i j : Nat} (hij : i ≤ j) (hj : j < x.V) (h : DY x x (Bh i j) = none) : Kn x x (Bh i j) (HD x x (Bh i j)) = true:=by
 have hd:=KN i j x.V hij hj
 have hl:=Hk i j
 unfold HD Kn
 unfold DY at h
 cases hr : Ec x x (x.V - (Bh i j).length) (Bh i j) with
 |none=>exact absurd h (TI x _ _ hr)
 |some t=>exact Vb x hx _ _ t (by omega) hd hr
def V6 (x : Inc) (i j f : Nat) : Nat:=(List.range' j f).countP fun q=>(DY x x (Bh i q)).isSome
theorem Yq (x : Inc) (i k : Nat) : DL x i (k + 1) = match DY x x (Bh i (i + k)) with
  |some m=>((DL x i k).1 ++ [(i + k,m)],(DL x i k).2)
  |none=>((DL x i k).1,(DL x i k).2 ++ [(i + k,HD x x (Bh i (i + k)))]):=rfl
theorem Vg (x : Inc) (i : Nat) : ∀ k,(DL x i k).1.length = V6 x i i k
 |0=>rfl
 |k + 1=>by
  have ih:=Vg x i k
  unfold V6 at ih ⊢
  rw [List.range'_concat,List.countP_append,← ih,Yq]
  cases h : DY x x (Bh i (i + k)) <;> simp [h]
theorem Xx (x : Inc) (k : Nat) : DX x (k + 1) = DX x k * V6 x k k (x.V - k):=by rw [DX,Vg]
def Fs (x : Inc) (i : Nat) : Nat → Nat → List (Nat × List Int) × List (Nat × Tree)
 |0,_=>([],[])
 |f + 1,j=>match DY x x (Bh i j) with
  |some m=>((j,m) :: (Fs x i f (j + 1)).1,(Fs x i f (j + 1)).2)
  |none=>((Fs x i f (j + 1)).1,(j,HD x x (Bh i j)) :: (Fs x i f (j + 1)).2)
theorem RW (x : Inc) (i : Nat) : ∀ f j,Fs x i (f + 1) j = match DY x x (Bh i (j + f)) with
  |some m=>((Fs x i f j).1 ++ [(j + f,m)],(Fs x i f j).2)
  |none=>((Fs x i f j).1,(Fs x i f j).2 ++ [(j + f,HD x x (Bh i (j + f)))])
 |0,j=>by simp only [Fs,Nat.add_zero];cases DY x x (Bh i j) <;> rfl
 |f + 1,j=>by
  rw [Fs,RW x i f (j + 1),show j + 1 + f = j + (f + 1) by omega]
  conv=>rhs;rw [Fs]
  cases DY x x (Bh i j) <;> cases DY x x (Bh i (j + (f + 1))) <;> rfl
theorem ZZ (x : Inc) (i : Nat) : ∀ k,DL x i k = Fs x i k i
 |0=>rfl
 |k + 1=>by
  rw [RW,← ZZ x i k];rfl
def HU (l : List (Nat × List Int) × List (Nat × Tree)) : NC:=(l.1.map fun y=>((y.1 : Int),y.2),l.2.map fun y=>((y.1 : Int),y.2))
theorem AeV (l : List (Nat × List Int) × List (Nat × Tree)) : Qq l = Tx (HU l):=by
 unfold Qq Tx HU Lm M6
 rw [List.map_map,List.map_map];rfl
theorem Sc (x : Inc) (i : Nat) : ∀ f j,∀ y ∈ (Fs x i f j).1,j ≤ y.1
 |0,j,y,h=>by cases h
 |f + 1,j,y,h=>by
  unfold Fs at h
  cases hm : DY x x (Bh i j) with
  |some m =>
   rw [hm] at h
   rcases List.mem_cons.1 h with rfl|h
   ·exact Nat.le_refl _
   ·have:=Sc x i f (j + 1) y h;omega
  |none =>
   rw [hm] at h
   have:=Sc x i f (j + 1) y h;omega
theorem Ux {x : Inc} (hx : x.Fam) {i : Nat} : ∀ f j,i ≤ j → j + f = x.V → DA x i f j (HU (Fs x i f j)).1 (HU (Fs x i f j)).2 = true
 |0,j,_,_=>by simp [DA,HU,Fs]
 |f + 1,j,hij,hjf=>by
  have ih:=Ux hx (i:=i) f (j + 1) (by omega) (by omega)
  unfold DA Fs
  cases hm : DY x x (Bh i j) with
  |some m =>
   have h1:=WO hx hij (by omega) hm
   have h2 : GH x i j (HU ((j,m) :: (Fs x i f (j + 1)).1,(Fs x i f (j + 1)).2)).1 = true:=by simp [HU,GH,h1]
   simp only [h2,if_pos]
   exact ih
  |none =>
   have h0 : ¬ GH x i j (HU ((Fs x i f (j + 1)).1,(j,HD x x (Bh i j)) :: (Fs x i f (j + 1)).2)).1 = true:=by
    have hge:=Sc x i f (j + 1)
    unfold HU
    cases hl : (Fs x i f (j + 1)).1 with
    |nil=>simp [GH]
    |cons y l =>
     rw [hl] at hge
     have:=hge y List.mem_cons_self
     simp only [List.map_cons,GH,Bool.and_eq_true,decide_eq_true_eq]
     intro ⟨e,_⟩;omega
   have h1:=Aa4 hx.v7 hij (by omega) hm
   have h2 : LO x i j (HU ((Fs x i f (j + 1)).1,(j,HD x x (Bh i j)) :: (Fs x i f (j + 1)).2)).2 = true:=by simp [HU,LO,h1]
   simp only [if_neg h0,h2,if_pos]
   exact ih
theorem P5 {x : Inc} (hx : x.Fam) : ∀ f i,i + f = x.V → GQ x i (DX x i) ((List.range' i f).map fun i=>HU (DL x i (x.V - i))) = DX x x.V
 |0,i,h=>by simp at h;subst h;rfl
 |f + 1,i,h=>by
  rw [List.range'_succ,List.map_cons,GQ]
  have h1:=Ux hx (i:=i) (x.V - i) i (Nat.le_refl _) (by omega)
  rw [← ZZ] at h1
  rw [if_pos h1]
  have e : DX x i * (HU (DL x i (x.V - i))).1.length = DX x (i + 1):=by rw [DX];simp [HU]
  rw [e]
  exact P5 hx f (i + 1) (by omega)
theorem ZP {x : Inc} (hx : x.Fam) : Kw x ((List.range x.V).map fun i=>HU (DL x i (x.V - i))) = DX x x.V:=by
 unfold Kw
 rw [if_pos (by simp),List.range_eq_range']
 exact P5 hx x.V 0 (by omega)
theorem AeW (x : Inc) : VL x = TJ ((List.range x.V).map fun i=>HU (DL x i (x.V - i))):=by
 unfold VL TJ IU Gp
 rw [List.map_map]
 congr 3
 exact List.map_congr_left fun i _=>AeV _
open Go
theorem Inc.Fam.bits {x : Inc} (h : x.Fam) : ∀ s ∈ x.B,∀ p ∈ Ac s,p < x.V:=fun s hs p hp=>B2 (h.lt s hs) ((Bf _ _).1 hp).2
open Go
open Go
open Go
def AfA (l : List (Nat × List Int)) : List (List Int):=l.map fun y=>y.2
open Go
abbrev LG:=List (Option (List Int))
def Aci (h : LG) : List D:=h.map SQ
@[simp] theorem Af4 (h : LG) : (Aci h).length = h.length:=by simp [Aci]
def AfH (x : Nat) (g : List Int) (s : LG × List Int) : LG × List Int :=
 match s.1[(g.getD x 0).toNat]? with
 |some none=>(s.1.set (g.getD x 0).toNat (some (BW ((s.1.getD x none).getD []) g)),s.2 ++ [g.getD x 0])
 |_=>s
def AbS (gens : List (List Int)) (x : Nat) (s : LG × List Int) : Nat → LG × List Int
 |0=>s
 |k + 1=>AfH x (gens.getD k []) (AbS gens x s k)
def AbZ (gens : List (List Int)) : Nat → LG × List Int → LG
 |0,s=>s.1
 |f + 1,s=>match s.2 with
  |[]=>s.1
  |x :: q=>AbZ gens f (AbS gens x.toNat (s.1,q) gens.length)
def AgO (n p : Nat) : LG:=(List.replicate n none).set p (some (Bg n))
def Ahs (n p : Nat) (gens : List (List Int)) : LG:=AbZ gens (2 * n) (AgO n p,[(p : Int)])
structure OrbOk (n : Nat) (s : LG × List Int) : Prop where
 len : s.1.length = n
 pm : ∀ l,some l ∈ s.1 → Pm l n
 q : ∀ y ∈ s.2,0 ≤ y ∧ y < n ∧ ∃ l,s.1[y.toNat]? = some (some l)
theorem Gb {n : Nat} {a b : List Int} (ha : Pm a n) (hb : Pm b n) : Pm (BW a b) n:=by
 have hal : a.length = n:=ha.1
 have e : BW a b = (List.range a.length).map (Qp a b):=OK a b a.length
 have hF : ∀ i,i < n → ∃ (h1 : i < a.length) (h2 : (a[i]).toNat < b.length),Qp a b i = b[(a[i]).toNat]:=fun i hi=>by
  have h1 : i < a.length:=by omega
  have hr:=ha.2.1 _ (List.getElem_mem h1)
  have h2 : (a[i]).toNat < b.length:=by rw [hb.1];omega
  exact ⟨h1,h2,by unfold Qp;rw [Bt (List.getElem?_eq_getElem h1),Bt (List.getElem?_eq_getElem h2)]⟩
 refine ⟨by rw [e];simp [hal],fun x hx=>?_,?_⟩
 ·rw [e] at hx
  obtain ⟨i,hi,rfl⟩:=List.mem_map.1 hx
  obtain ⟨h1,h2,h3⟩:=hF i (by have:=List.mem_range.1 hi;omega)
  rw [h3]
  exact hb.2.1 _ (List.getElem_mem h2)
 ·rw [e,hal]
  refine (CZ fun i hi j hj hij=>?_).2 List.nodup_range
  obtain ⟨h1,h2,h3⟩:=hF i (List.mem_range.1 hi)
  obtain ⟨g1,g2,g3⟩:=hF j (List.mem_range.1 hj)
  rw [h3,g3] at hij
  have h4:=(List.getElem_inj hb.2.2).1 hij
  have r1:=ha.2.1 _ (List.getElem_mem h1)
  have r2:=ha.2.1 _ (List.getElem_mem g1)
  exact (List.getElem_inj ha.2.2).1 (by omega)
theorem I3 (n : Nat) : Pm (Bg n) n:=⟨Cz n,KP n n (Nat.le_refl _)⟩
open Go
def lK (h : LG) : Nat → List Int
 |0=>[]
 |i + 1=>if (h.getD i none).isSome = true then lK h i ++ [(i : Int)] else lK h i
def WS (l : List Bool) : List D:=l.map D.bool
@[simp] theorem AcW (l : List Bool) : (WS l).length = l.length:=by simp [WS]
def Aad (x : Inc) : Nat → List (List Int)
 |0=>[]
 |k + 1=>Aad x k ++ AfA (DL x k (x.V - k)).1
open Go
open Go
open Go
open Go
def RT (x : Inc) : List NC:=(List.range x.V).map fun i=>HU (DL x i (x.V - i))
theorem Ab5 {x : Inc} (hx : x.V ≤ 7) : ∀ l ∈ RT x,l.1.length ≤ 7 ∧ l.2.length ≤ 7:=by
 intro l hl
 obtain ⟨i,_,rfl⟩:=List.mem_map.1 hl
 have:=Nc x i (x.V - i)
 simp only [HU,List.length_map]
 omega
open Go
theorem Qt {n : Nat} {d : D} (h : Gf (cx 0 0) (n + 1) 5 d) : ∃ x : Nat,d = .int .u8 (x : Int) ∧ x < 256:=by
 obtain ⟨x,rfl,hx⟩:=h
 have hx : (decide (IntKind.u8.min ≤ x) && decide (x ≤ IntKind.u8.max)) = true:=hx
 simp only [Bool.and_eq_true,decide_eq_true_eq] at hx
 have h1 : IntKind.u8.min = 0:=by decide
 have h2 : IntKind.u8.max = 255:=by decide
 exact ⟨x.toNat,by rw [Int.toNat_of_nonneg (by omega)],by omega⟩
open Go
def pk : Nat → List Int → Nat → List Int
 |0,_,_=>[]
 |m + 1,rest,k=>rest.getD (k / By m % (m + 1)) 0 :: pk m (rest.take (k / By m % (m + 1)) ++ rest.drop (k / By m % (m + 1) + 1)) k
theorem UP (n k : Nat) : ∀ m t,t + m = n → (Lz n k n).2 = (Lz n k t).2 ++ pk m (Lz n k t).1 k
 |0,t,h=>by simp at h;subst h;simp [pk]
 |m + 1,t,h=>by
  rw [UP n k m (t + 1) (by omega)]
  have hp : SI n k t = k / By m % (m + 1):=by unfold SI;rw [show n - t - 1 = m by omega,show n - t = m + 1 by omega]
  simp only [Lz,pk,hp,List.append_assoc,List.cons_append,List.nil_append]
def JX (n k : Nat) : List Int:=(Lz n k n).2
theorem Y8 (n k : Nat) : JX n k = pk n (Bg n) k:=by unfold JX;rw [UP n k n 0 (by omega)];rfl
theorem Z9 {m k i : Nat} : (i * By (m + 1) + k) / By m % (m + 1) = k / By m % (m + 1):=by
 have h0:=L9 m
 rw [show i * By (m + 1) + k = k + By m * (i * (m + 1)) by rw [By];rw [show i * ((m + 1) * By m) = By m * (i * (m + 1)) by rw [← Nat.mul_assoc,Nat.mul_comm]];omega]
 rw [Nat.add_mul_div_left _ _ h0,show k / By m + i * (m + 1) = k / By m + (m + 1) * i by rw [Nat.mul_comm i],Nat.add_mul_mod_self_left]
theorem Sd (j : Nat) : ∀ m,j ≤ m → ∃ c,By m = c * By j
 |0,h=>⟨1,by rw [Nat.le_zero.1 h];simp⟩
 |m + 1,h=>by
  rcases Nat.lt_or_ge m j with h1|h1
  ·exact ⟨1,by rw [show j = m + 1 by omega];simp⟩
  ·obtain ⟨c,hc⟩:=Sd j m h1
   exact ⟨(m + 1) * c,by rw [By,hc,Nat.mul_assoc]⟩
theorem Ye (M i : Nat) : ∀ (m : Nat) (rest : List Int) (k : Nat),m ≤ M → pk m rest (i * By M + k) = pk m rest k
 |0,_,_,_=>rfl
 |m + 1,rest,k,h=>by
  obtain ⟨c,hc⟩:=Sd (m + 1) M h
  have e : (i * By M + k) / By m % (m + 1) = k / By m % (m + 1):=by
   rw [hc,← Nat.mul_assoc];exact Z9
  unfold pk
  rw [e,Ye M i m _ k (by omega)]
def Gz : Nat → List Int → List (List Int)
 |0,_=>[[]]
 |m + 1,rest=>(List.range (m + 1)).flatMap fun i=>(Gz m (rest.take i ++ rest.drop (i + 1))).map (rest.getD i 0 :: ·)
theorem Ri {β : Type} (f : Nat → β) (b : Nat) : ∀ a,(List.range (a * b)).map f = (List.range a).flatMap fun i=>(List.range b).map fun r=>f (i * b + r)
 |0=>by simp
 |a + 1=>by
  rw [Nat.add_mul,Nat.one_mul,List.range_add,List.map_append,Ri f b a,List.range_succ,List.flatMap_append]
  simp [List.map_map,Function.comp_def]
theorem P7 {α β : Type} {f g : α → List β} : ∀ {l : List α},(∀ a ∈ l,f a = g a) → l.flatMap f = l.flatMap g
 |[],_=>rfl
 |a :: l,h=>by rw [List.flatMap_cons,List.flatMap_cons,h a List.mem_cons_self,P7 fun b hb=>h b (List.mem_cons_of_mem _ hb)]
theorem Q3 : ∀ (m : Nat) (rest : List Int),(List.range (By m)).map (pk m rest) = Gz m rest
 |0,_=>rfl
 |m + 1,rest=>by
  have h0:=L9 m
  rw [show By (m + 1) = (m + 1) * By m from rfl,Ri]
  unfold Gz
  refine P7 fun i hi=>?_
  have hi:=List.mem_range.1 hi
  rw [← Q3 m,List.map_map]
  refine List.map_congr_left fun r hr=>?_
  have hr:=List.mem_range.1 hr
  have e : (i * By m + r) / By m % (m + 1) = i:=by
   rw [Nat.mul_comm,Nat.mul_add_div h0,Nat.div_eq_of_lt hr,Nat.add_zero,Nat.mod_eq_of_lt hi]
  show pk (m + 1) rest (i * By m + r) = _
  rw [pk,e,Ye m i m _ r (Nat.le_refl _)]
  rfl
theorem If {l : List Int} {i : Nat} {a : Int} (h : l[i]? = some a) : l.Perm (a :: (l.take i ++ l.drop (i + 1))):=by
 have hi : i < l.length:=(List.getElem?_eq_some_iff.1 h).1
 have e : l = l.take i ++ a :: l.drop (i + 1):=by
  conv=>lhs;rw [← List.take_append_drop i l]
  rw [List.drop_eq_getElem_cons hi]
  rw [List.getElem?_eq_getElem hi] at h
  rw [Option.some.inj h]
 conv=>lhs;rw [e]
 exact List.perm_middle
theorem Lu : ∀ (m : Nat) (rest g : List Int),rest.length = m → (g ∈ Gz m rest ↔ g.Perm rest)
 |0,rest,g,h=>by
  have : rest = []:=List.eq_nil_of_length_eq_zero h
  subst this
  simp [Gz]
 |m + 1,rest,g,h=>by
  unfold Gz
  rw [List.mem_flatMap]
  constructor
  ·rintro ⟨i,hi,hg⟩
   have hi:=List.mem_range.1 hi
   obtain ⟨g',hg',rfl⟩:=List.mem_map.1 hg
   have ha : rest[i]? = some (rest.getD i 0):=by
    have : rest[i]? = some rest[i]:=List.getElem?_eq_getElem (by omega)
    rw [this,Bt this]
   have hp:=If ha
   have:=(Lu m _ g' (by simp;omega)).1 hg'
   exact (this.cons _).trans hp.symm
  ·intro hp
   cases g with
   |nil=>have:=hp.length_eq;simp at this;omega
   |cons a g' =>
    have ha : a ∈ rest:=hp.mem_iff.1 List.mem_cons_self
    obtain ⟨i,hi,e⟩:=List.getElem_of_mem ha
    have ha2 : rest[i]? = some a:=by rw [List.getElem?_eq_getElem hi,e]
    refine ⟨i,List.mem_range.2 (by omega),List.mem_map.2 ⟨g',?_,by rw [Bt ha2]⟩⟩
    exact (Lu m _ g' (by simp;omega)).2 (List.Perm.cons_inv (hp.trans (If ha2)))
theorem Py : ∀ (m : Nat) (rest : List Int),rest.length = m → rest.Nodup → (Gz m rest).Nodup
 |0,_,_,_=>by simp [Gz]
 |m + 1,rest,h,hn=>by
  unfold Gz List.Nodup
  rw [List.pairwise_flatMap]
  constructor
  ·intro i hi
   have hi:=List.mem_range.1 hi
   have ha : rest[i]? = some (rest.getD i 0):=by
    have : rest[i]? = some rest[i]:=List.getElem?_eq_getElem (by omega)
    rw [this,Bt this]
   have hn2:=(List.nodup_cons.1 ((If ha).nodup_iff.1 hn)).2
   exact List.Pairwise.map _ (fun a b (hab : a ≠ b)=>by intro e;exact hab (List.cons.inj e).2) (Py m _ (by simp;omega) hn2)
  ·refine List.Pairwise.imp_of_mem (fun {i j} hi hj hij=>?_) (List.nodup_range (n:=m + 1))
   intro x hx y hy
   obtain ⟨x',_,rfl⟩:=List.mem_map.1 hx
   obtain ⟨y',_,rfl⟩:=List.mem_map.1 hy
   have hi:=List.mem_range.1 hi
   have hj:=List.mem_range.1 hj
   intro e
   have e1:=(List.cons.inj e).1
   rw [Bt (List.getElem?_eq_getElem (by omega : i < rest.length)),Bt (List.getElem?_eq_getElem (by omega : j < rest.length))] at e1
   exact hij ((List.getElem_inj hn).1 e1)
theorem KC {g : List Int} {n : Nat} : Pm g n ↔ g.Perm (Bg n):=by
 have h1:=I3 n
 constructor
 ·intro hg
  refine (List.perm_ext_iff_of_nodup hg.2.2 h1.2.2).2 fun a=>⟨fun ha=>?_,fun ha=>?_⟩
  ·have:=hg.2.1 a ha
   simp only [Bg,E7,List.mem_map,List.mem_range]
   exact ⟨a.toNat,by omega,by omega⟩
  ·have hnd : (g.map Int.toNat).Nodup:=(CZ (fun a ha b hb e=>by have:=hg.2.1 a ha;have:=hg.2.1 b hb;omega)).2 hg.2.2
   have h2:=(OF n (g.map Int.toNat) (fun x hx=>by
    obtain ⟨y,hy,rfl⟩:=List.mem_map.1 hx
    have:=hg.2.1 y hy;omega) (by rw [List.length_map];exact hg.1)).2 hnd
   have h3:=h1.2.1 a ha
   obtain ⟨y,hy,e⟩:=List.mem_map.1 (h2 a.toNat (by omega))
   have:=hg.2.1 y hy
   have : y = a:=by omega
   rw [← this];exact hy
 ·intro hp
  exact ⟨by rw [hp.length_eq];exact h1.1,fun a ha=>h1.2.1 a (hp.mem_iff.1 ha),hp.nodup_iff.2 h1.2.2⟩
def CJ (n : Nat) : List (List Int):=Gz n (Bg n)
theorem C0 (n : Nat) (g : List Int) : g ∈ CJ n ↔ Pm g n:=by
 unfold CJ;rw [Lu n _ g (Cz n),KC]
theorem J6 (n : Nat) : (CJ n).Nodup:=Py n _ (Cz n) (I3 n).2.2
theorem IA (n : Nat) : (List.range (By n)).map (JX n) = CJ n:=by
 unfold CJ
 rw [← Q3]
 exact List.map_congr_left fun k _=>Y8 n k
theorem Sm {n k : Nat} (h : k < By n) : Pm (JX n k) n:=by
 rw [← C0,← IA]
 exact List.mem_map.2 ⟨k,List.mem_range.2 h,rfl⟩
open Go
theorem Ie (a b : List Int) : (BW a b).length = a.length:=Tl a b _
theorem CM {a b : List Int} {k : Nat} (hk : k < a.length) : (BW a b).getD k 0 = b.getD (a.getD k 0).toNat 0:=by
 have e : BW a b = (List.range a.length).map (Qp a b):=OK a b a.length
 rw [e,List.getD,List.getElem?_map,List.getElem?_range hk];rfl
theorem GU {g : List Int} {n k : Nat} (hg : Pm g n) (hk : k < n) : 0 ≤ g.getD k 0 ∧ g.getD k 0 < n:=by
 have h : k < g.length:=by rw [hg.1];exact hk
 rw [Bt (List.getElem?_eq_getElem h)]
 exact hg.2.1 _ (List.getElem_mem h)
theorem ext_get {a b : List Int} {n : Nat} (ha : a.length = n) (hb : b.length = n) (h : ∀ k,k < n → a.getD k 0 = b.getD k 0) : a = b:=by
 apply List.ext_getElem?
 intro k
 rcases Nat.lt_or_ge k n with hk|hk
 ·have:=h k hk
  have h1 : a[k]? = some a[k]:=List.getElem?_eq_getElem (by omega)
  have h2 : b[k]? = some b[k]:=List.getElem?_eq_getElem (by omega)
  rw [Bt h1,Bt h2] at this
  rw [h1,h2,this]
 ·rw [List.getElem?_eq_none (by omega),List.getElem?_eq_none (by omega)]
theorem Aam {g : List Int} {n p q : Nat} (hg : Pm g n) (hp : p < n) (hq : q < n) (h : g.getD p 0 = g.getD q 0) : p = q:=Mf hg hp hq (by rw [h])
theorem L7 {a b c : List Int} {n : Nat} (ha : Pm a n) (hb : Pm b n) (hc : Pm c n) (h : BW a c = BW b c) : a = b:=by
 refine ext_get ha.1 hb.1 fun k hk=>?_
 have e : (BW a c).getD k 0 = (BW b c).getD k 0:=by rw [h]
 rw [CM (by rw [ha.1];exact hk),CM (by rw [hb.1];exact hk)] at e
 have h1:=GU ha hk
 have h2:=GU hb hk
 have:=Aam hc (by omega) (by omega) e
 omega
theorem K2 {a b c : List Int} {n : Nat} (ha : Pm a n) (hb : Pm b n) (hc : Pm c n) (h : BW c a = BW c b) : a = b:=by
 have hs : ∀ q,q < n → ∃ p,p < n ∧ c.getD p 0 = (q : Int):=by
  intro q hq
  have hm : (q : Int) ∈ c:=(KC.1 hc).mem_iff.2 (by simp only [Bg,E7,List.mem_map,List.mem_range];exact ⟨q,hq,rfl⟩)
  obtain ⟨p,hp,e⟩:=List.getElem_of_mem hm
  exact ⟨p,by rw [← hc.1];exact hp,by rw [Bt (List.getElem?_eq_getElem hp)];exact e⟩
 refine ext_get ha.1 hb.1 fun k hk=>?_
 obtain ⟨p,hp,e⟩:=hs k hk
 have e2 : (BW c a).getD p 0 = (BW c b).getD p 0:=by rw [h]
 rw [CM (by rw [hc.1];exact hp),CM (by rw [hc.1];exact hp),e] at e2
 simpa using e2
theorem Mm {a b : List Int} {V : Nat} (ha : Pm a V) (hb : Pm b V) (s : Nat) : Br (BW a b) s = Br a (Br b s):=by
 apply Nat.eq_of_testBit_eq
 intro q
 rw [Ep,Ep,Ep,Ie,ha.1,hb.1]
 by_cases h : q < V
 ·have h1:=GU ha h
  rw [CM (by rw [ha.1];exact h)]
  have h2 : (a.getD q 0).toNat < V:=by omega
  rw [decide_eq_true h,decide_eq_true h2];rfl
 ·simp [h]
theorem U7 {x : Inc} (hx : x.Fam) {g : List Int} : Hm x g ↔ Pm g x.V ∧ x.B.Perm (x.B.map (Br g)):=by
 have h1:=Oi hx
 unfold Hm Od
 constructor
 ·rintro ⟨hg,h⟩
  refine ⟨hg,?_⟩
  rw [hg.1,h1] at h
  exact h
 ·rintro ⟨hg,h⟩
  refine ⟨hg,?_⟩
  rw [hg.1,h1]
  exact h
theorem Vv {x : Inc} (hx : x.Fam) {a b : List Int} (ha : Hm x a) (hb : Hm x b) : Hm x (BW a b):=by
 rw [U7 hx] at ha hb ⊢
 refine ⟨Gb ha.1 hb.1,?_⟩
 have h1:=hb.2.map (Br a)
 rw [List.map_map] at h1
 refine (ha.2.trans h1).trans (List.Perm.of_eq ?_)
 exact List.map_congr_left fun s _=>(Mm ha.1 hb.1 s).symm
theorem Q7 {x : Inc} (hx : x.Fam) : Hm x (Bg x.V):=⟨I3 x.V,Qv x x.V⟩
theorem Mr {m : List Int} {n : Nat} (hm : Pm m n) : ∃ h,Pm h n ∧ BW m h = Bg n:=by
 have h1 : ((CJ n).map (BW m ·)).Nodup:=(CZ (fun a ha b hb e=>K2 ((C0 n a).1 ha) ((C0 n b).1 hb) hm e)).2 (J6 n)
 have h2 : ∀ a ∈ (CJ n).map (BW m ·),a ∈ CJ n:=by
  intro a ha
  obtain ⟨b,hb,rfl⟩:=List.mem_map.1 ha
  exact (C0 n _).2 (Gb hm ((C0 n b).1 hb))
 have h4 : Bg n ∈ (CJ n).map (BW m ·):=by
  refine Classical.byContradiction fun hn=>?_
  have:=D8 (Bg n :: (CJ n).map (BW m ·)) (CJ n) (List.nodup_cons.2 ⟨hn,h1⟩) (by
   intro a ha
   rcases List.mem_cons.1 ha with rfl|ha
   ·exact (C0 n _).2 (I3 n)
   ·exact h2 a ha)
  simp at this
  omega
 obtain ⟨b,hb,e⟩:=List.mem_map.1 h4
 exact ⟨b,(C0 n b).1 hb,e⟩
theorem Abk {x : Inc} (hx : x.Fam) {m h : List Int} (hm : Hm x m) (hh : Pm h x.V) (e : BW m h = Bg x.V) : Hm x h:=by
 rw [U7 hx] at hm ⊢
 refine ⟨hh,?_⟩
 have hv:=hx.v7
 have h1 : (x.B.map (Br h)).map (Br m) = x.B:=by
  rw [List.map_map]
  conv=>rhs;rw [← Oi hx]
  exact List.map_congr_left fun s _=>by show Br m (Br h s) = _;rw [← Mm hm.1 hh,e]
 have h2 : ((x.B.map (Br h)).map (Br m)).Perm (x.B.map (Br m)):=by rw [h1];exact hm.2
 have h3:=h2.map (fun b=>Eb m (Ac b))
 have e1 : ((x.B.map (Br h)).map (Br m)).map (fun b=>Eb m (Ac b)) = x.B.map (Br h):=by
  rw [List.map_map]
  conv=>rhs;rw [← List.map_id (x.B.map (Br h))]
  refine List.map_congr_left fun b hb=>?_
  obtain ⟨s,_,rfl⟩:=List.mem_map.1 hb
  exact LU (by omega) hm.1 (by have:=SC h s;rwa [hh.1] at this)
 have e2 : (x.B.map (Br m)).map (fun b=>Eb m (Ac b)) = x.B:=by
  rw [List.map_map]
  conv=>rhs;rw [← List.map_id x.B]
  exact List.map_congr_left fun b hb=>LU (by omega) hm.1 (hx.lt b hb)
 rw [e1,e2] at h3
 exact h3.symm
def CE (x : Inc) : List (List Int):=(CJ x.V).filter (LT x)
def HI (i j : Nat) (g : List Int) : Bool:=decide (g.take (i + 1) = Bh i j)
def LI (i : Nat) (g : List Int) : Bool:=decide (g.take i = Bg i)
theorem Ge {x : Inc} (hx : x.Fam) (g : List Int) : g ∈ CE x ↔ Hm x g:=by
 unfold CE
 rw [List.mem_filter,C0,MW hx]
 exact ⟨fun h=>h.2,fun h=>⟨h.1,h⟩⟩
theorem NX (x : Inc) : (CE x).Nodup:=(J6 x.V).filter _
theorem HX {g : List Int} {i : Nat} (hl : i ≤ g.length) : g.take i = Bg i ↔ ∀ k,k < i → g.getD k 0 = (k : Int):=by
 constructor
 ·intro h k hk
  have e : (g.take i).getD k 0 = g.getD k 0:=by simp [List.getD,List.getElem?_take,hk]
  rw [← e,h,FA i k hk]
 ·intro h
  refine ext_get (n:=i) (by simp;omega) (Cz i) fun k hk=>?_
  have e : (g.take i).getD k 0 = g.getD k 0:=by simp [List.getD,List.getElem?_take,hk]
  rw [e,h k hk,FA i k hk]
theorem H4 {g : List Int} {i j : Nat} (hl : i < g.length) : g.take (i + 1) = Bh i j ↔ g.take i = Bg i ∧ g.getD i 0 = (j : Int):=by
 have h1 : g[i]? = some g[i]:=List.getElem?_eq_getElem hl
 rw [List.take_add_one,h1,Bt h1]
 unfold Bh
 constructor
 ·intro h
  have:=List.append_inj' h (by simp)
  exact ⟨this.1,by simpa using this.2⟩
 ·rintro ⟨h2,h3⟩
  rw [h2,h3];rfl
theorem QM {α : Type} (f : α → Nat) : ∀ (J : List Nat) (L : List α),J.Nodup → (∀ a ∈ L,f a ∈ J) → L.length = (J.map fun j=>(L.filter fun a=>decide (f a = j)).length).sum
 |[],L,_,h=>by
  cases L with
  |nil=>rfl
  |cons a L=>have:=h a List.mem_cons_self;cases this
 |j :: J,L,hJ,h=>by
  obtain ⟨hj,hJ2⟩:=List.nodup_cons.1 hJ
  have ih:=QM f J (L.filter fun a=>!decide (f a = j)) hJ2 (by
   intro a ha
   obtain ⟨h1,h2⟩:=List.mem_filter.1 ha
   rcases List.mem_cons.1 (h a h1) with h3|h3
   ·simp [h3] at h2
   ·exact h3)
  have e : (J.map fun j'=>((L.filter fun a=>!decide (f a = j)).filter fun a=>decide (f a = j')).length) = J.map fun j'=>(L.filter fun a=>decide (f a = j')).length:=by
   refine List.map_congr_left fun j' hj'=>?_
   rw [List.filter_filter]
   congr 1
   refine List.filter_congr fun a _=>?_
   by_cases h4 : f a = j'
   ·have : ¬ j' = j:=fun e=>hj (e ▸ hj')
    simp [h4,this]
   ·simp [h4]
  rw [e] at ih
  rw [List.map_cons,List.sum_cons,← ih]
  have:=List.length_eq_countP_add_countP (fun a=>decide (f a = j)) (l:=L)
  rw [List.countP_eq_length_filter,List.countP_eq_length_filter] at this
  rw [this]
  congr 2
  refine List.filter_congr fun a _=>?_
  simp
theorem W6 (p : Nat → Bool) (c : Nat) : ∀ J : List Nat,(J.map fun j=>if p j = true then c else 0).sum = J.countP p * c
 |[]=>by simp
 |j :: J=>by
  rw [List.map_cons,List.sum_cons,W6 p c J,List.countP_cons]
  by_cases h : p j = true
  ·simp [h,Nat.add_mul];omega
  ·simp [h]
theorem Ab0 {x : Inc} (hx : x.Fam) {i j : Nat} (hij : i ≤ j) (hj : j < x.V) : ((CE x).filter (HI i j)).length = if (DY x x (Bh i j)).isSome = true then ((CE x).filter (HI i i)).length else 0:=by
 by_cases hr : (DY x x (Bh i j)).isSome = true
 ·rw [if_pos hr]
  obtain ⟨m,hm,hmt⟩:=(SJ hx.v7 hij hj).1 hr
  obtain ⟨h,hh,he⟩:=Mr hm.1
  have hha:=Abk hx hm hh he
  have hl : ∀ g,Hm x g → i < g.length:=fun g hg=>by rw [hg.1.1];omega
  obtain ⟨hm1,hm2⟩:=(H4 (hl m hm)).1 hmt
  have hm3:=(HX (by have:=hl m hm;omega)).1 hm1
  have hh3 : ∀ k,k < i → h.getD k 0 = (k : Int):=fun k hk=>by
   have e : (BW m h).getD k 0 = (k : Int):=by rw [he,FA _ _ (by omega)]
   rw [CM (by have:=hl m hm;omega),hm3 k hk] at e
   simpa using e
  have hh4 : h.getD j 0 = (i : Int):=by
   have e : (BW m h).getD i 0 = (i : Int):=by rw [he,FA _ _ (by omega)]
   rw [CM (hl m hm),hm2] at e
   simpa using e
  have mem : ∀ (j' : Nat) (g : List Int),g ∈ (CE x).filter (HI i j') ↔ Hm x g ∧ (∀ k,k < i → g.getD k 0 = (k : Int)) ∧ g.getD i 0 = (j' : Int):=by
   intro j' g
   rw [List.mem_filter,Ge hx]
   constructor
   ·rintro ⟨ha,hb⟩
    obtain ⟨h1,h2⟩:=(H4 (hl g ha)).1 (of_decide_eq_true hb)
    exact ⟨ha,(HX (by have:=hl g ha;omega)).1 h1,h2⟩
   ·rintro ⟨ha,h1,h2⟩
    exact ⟨ha,decide_eq_true ((H4 (hl g ha)).2 ⟨(HX (by have:=hl g ha;omega)).2 h1,h2⟩)⟩
  have nd : ∀ j',((CE x).filter (HI i j')).Nodup:=fun j'=>(NX x).filter _
  have leq : ∀ (a b : Nat) (c : List Int),Hm x c → (∀ g,g ∈ (CE x).filter (HI i a) → BW g c ∈ (CE x).filter (HI i b)) → ((CE x).filter (HI i a)).length ≤ ((CE x).filter (HI i b)).length:=by
   intro a b c hc hmap
   have h1:=D8 (((CE x).filter (HI i a)).map (BW · c)) ((CE x).filter (HI i b)) ((CZ (fun u hu v hv e=>L7 ((mem a u).1 hu).1.1 ((mem a v).1 hv).1.1 hc.1 e)).2 (nd a)) (by
    intro u hu
    obtain ⟨v,hv,rfl⟩:=List.mem_map.1 hu
    exact hmap v hv)
   rwa [List.length_map] at h1
  refine Nat.le_antisymm (leq j i h hha fun g hg=>?_) (leq i j m hm fun g hg=>?_)
  ·obtain ⟨h1,h2,h3⟩:=(mem j g).1 hg
   refine (mem i _).2 ⟨Vv hx h1 hha,fun k hk=>?_,?_⟩
   ·rw [CM (by have:=hl g h1;omega),h2 k hk]
    simpa using hh3 k hk
   ·rw [CM (hl g h1),h3]
    simpa using hh4
  ·obtain ⟨h1,h2,h3⟩:=(mem i g).1 hg
   refine (mem j _).2 ⟨Vv hx h1 hm,fun k hk=>?_,?_⟩
   ·rw [CM (by have:=hl g h1;omega),h2 k hk]
    simpa using hm3 k hk
   ·rw [CM (hl g h1),h3]
    simpa using hm2
 ·rw [if_neg hr]
  rw [List.length_eq_zero_iff,List.filter_eq_nil_iff]
  intro g hg hb
  exact hr ((SJ hx.v7 hij hj).2 ⟨g,(Ge hx g).1 hg,of_decide_eq_true hb⟩)
theorem AcG {x : Inc} (hx : x.Fam) {i : Nat} (hi : i < x.V) : ((CE x).filter (LI i)).length = V6 x i i (x.V - i) * ((CE x).filter (LI (i + 1))).length:=by
 have e1 : ((CE x).filter (LI (i + 1))) = (CE x).filter (HI i i):=List.filter_congr fun g _=>by unfold LI HI;rw [show Bh i i = Bg (i + 1) from by unfold Bh;exact Jn i]
 rw [e1]
 have hl : ∀ g,Hm x g → i < g.length:=fun g hg=>by rw [hg.1.1];omega
 have h1:=QM (fun g : List Int=>(g.getD i 0).toNat) (List.range' i (x.V - i)) ((CE x).filter (LI i)) (show (List.range' i (x.V - i)).Nodup from List.nodup_range') (by
  intro g hg
  obtain ⟨ha,hb⟩:=List.mem_filter.1 hg
  have ha:=(Ge hx g).1 ha
  have h2:=(HX (by have:=hl g ha;omega)).1 (of_decide_eq_true hb)
  have h3:=GU ha.1 hi
  rw [List.mem_range'_1]
  refine ⟨?_,by omega⟩
  rcases Nat.lt_or_ge (g.getD i 0).toNat i with h4|h4
  ·have h5:=h2 _ h4
   have:=Aam ha.1 (p:=(g.getD i 0).toNat) (q:=i) (by omega) hi (by rw [h5];omega)
   omega
  ·exact h4)
 rw [h1]
 have h2 : ((List.range' i (x.V - i)).map fun j=>(((CE x).filter (LI i)).filter fun a=>decide ((a.getD i 0).toNat = j)).length) = (List.range' i (x.V - i)).map fun j=>if (fun q=>(DY x x (Bh i q)).isSome) j = true then ((CE x).filter (HI i i)).length else 0:=by
  refine List.map_congr_left fun j hj=>?_
  obtain ⟨hj1,hj2⟩:=List.mem_range'_1.1 hj
  rw [← Ab0 hx hj1 (by omega),List.filter_filter]
  congr 1
  refine List.filter_congr fun g hg=>?_
  have ha:=(Ge hx g).1 hg
  have h3:=GU ha.1 hi
  have h4:=H4 (j:=j) (hl g ha)
  unfold HI LI
  rw [Bool.eq_iff_iff,Bool.and_eq_true,decide_eq_true_eq,decide_eq_true_eq,decide_eq_true_eq,h4]
  constructor
  ·rintro ⟨h5,h6⟩;exact ⟨h6,by omega⟩
  ·rintro ⟨h5,h6⟩;exact ⟨by omega,h5⟩
 rw [h2,W6]
 rfl
theorem M7 {x : Inc} (hx : x.Fam) : (CE x).length = DX x x.V:=by
 have key : ∀ i,i ≤ x.V → (CE x).length = DX x i * ((CE x).filter (LI i)).length:=by
  intro i
  induction i with
  |zero =>
   intro _
   rw [show DX x 0 = 1 from rfl,Nat.one_mul]
   congr 1
   refine (List.filter_eq_self.2 fun g _=>?_).symm
   simp [LI,Bg,E7]
  |succ i ih =>
   intro h
   rw [ih (by omega),AcG hx (by omega),Xx,Nat.mul_assoc]
 rw [key x.V (Nat.le_refl _)]
 have : ((CE x).filter (LI x.V)).length = 1:=by
  have hn : ((CE x).filter (LI x.V)).Nodup:=(NX x).filter _
  have h1:=D8 _ [Bg x.V] hn (by
   intro g hg
   obtain ⟨ha,hb⟩:=List.mem_filter.1 hg
   have ha:=(Ge hx g).1 ha
   have:=of_decide_eq_true hb
   rw [List.take_of_length_le (by rw [ha.1.1];omega)] at this
   rw [this];exact List.mem_singleton.2 rfl)
  have h2 : Bg x.V ∈ (CE x).filter (LI x.V):=List.mem_filter.2 ⟨(Ge hx _).2 (Q7 hx),decide_eq_true (List.take_of_length_le (by rw [Cz];omega))⟩
  have h3:=List.length_pos_of_mem h2
  simp at h1
  omega
 rw [this,Nat.mul_one]
open Go
theorem Rc (b : Nat) (g : List Int) (q : Nat) : ∀ k,(Dz b g k).testBit q = true ↔ ∃ p,p < k ∧ b.testBit p = true ∧ (g.getD p 0).toNat = q
 |0=>by simp [Dz]
 |k + 1=>by
  have ih:=Rc b g q k
  unfold Dz
  by_cases hb : b.testBit k = true
  ·rw [if_pos hb,Nat.testBit_or,Bool.or_eq_true,ih,Nat.one_shiftLeft,Nat.testBit_two_pow,decide_eq_true_eq]
   constructor
   ·rintro (⟨p,h1,h2⟩|h)
    ·exact ⟨p,by omega,h2⟩
    ·exact ⟨k,by omega,hb,h⟩
   ·rintro ⟨p,h1,h2,h3⟩
    rcases Nat.lt_succ_iff_lt_or_eq.1 h1 with h|rfl
    ·exact .inl ⟨p,h,h2,h3⟩
    ·exact .inr h3
  ·rw [if_neg hb,ih]
   constructor
   ·rintro ⟨p,h1,h2⟩;exact ⟨p,by omega,h2⟩
   ·rintro ⟨p,h1,h2,h3⟩
    rcases Nat.lt_succ_iff_lt_or_eq.1 h1 with h|rfl
    ·exact ⟨p,h,h2,h3⟩
    ·exact absurd h2 hb
theorem SW {b V : Nat} {g : List Int} (hg : Pm g V) (hV : V ≤ 64) (hb : b < 2 ^ V) : Cy b g = Eb g (Ac b):=by
 apply Nat.eq_of_testBit_eq
 intro q
 rw [Bool.eq_iff_iff]
 unfold Cy Eb
 rw [Rc,KK]
 simp only [Nat.zero_testBit,Bool.false_eq_true,false_or]
 constructor
 ·rintro ⟨p,h1,h2,h3⟩
  exact ⟨p,(Bf _ _).2 ⟨by rw [hg.1] at h1;omega,h2⟩,h3⟩
 ·rintro ⟨p,h1,h2⟩
  have h3:=((Bf _ _).1 h1).2
  exact ⟨p,by rw [hg.1];exact B2 hb h3,h3,h2⟩
theorem Tr (B : List Nat) (g : List Int) : ∀ k,H5 (Ha B g k)
 |0=>List.Pairwise.nil
 |k + 1=>Ho (Tr B g k) _
theorem QT (B : List Nat) (g : List Int) : ∀ k,k ≤ B.length → (Ha B g k).Perm ((B.take k).map (Cy · g))
 |0,_=>by simp [Ha]
 |k + 1,h=>by
  have ih:=QT B g k (by omega)
  have hk : B[k]? = some B[k]:=List.getElem?_eq_getElem (by omega)
  rw [Ha,Bt hk,List.take_add_one,hk,List.map_append]
  refine (DO _ _).trans ?_
  refine ((ih.cons _).trans ?_)
  exact (List.perm_append_singleton _ _).symm
theorem Fj {x : Inc} (hx : x.Fam) {g : List Int} (hg : Pm g x.V) : Bn x g = ⟨x.V,Cl (CI g x.B)⟩:=by
 have hv:=hx.v7
 unfold Bn
 rw [if_pos hg]
 congr 1
 refine Kc ?_ (Tr _ _ _)
 have h:=QT x.B g x.B.length (Nat.le_refl _)
 rw [List.take_length] at h
 refine h.trans (List.Perm.of_eq ?_)
 exact List.map_congr_left fun b hb=>SW hg (by omega) (hx.lt b hb)
theorem Tb {x : Inc} (hx : x.Fam) {g : List Int} (hg : Pm g x.V) : Bn x g = x ↔ Hm x g:=by
 have hv:=hx.v7
 have hv1:=hx.ok.v1
 rw [Fj hx hg,← MW hx]
 unfold LT Jq
 rw [decide_eq_true_eq,if_pos hg]
 constructor
 ·intro h
  exact ⟨hg.1,⟨by rw [hg.1];omega,by rw [hg.1];omega,by rw [hg.1];exact hg.2⟩,congrArg Inc.B h⟩
 ·rintro ⟨_,_,h⟩
  have : (⟨x.V,Cl (CI g x.B)⟩ : Inc) = ⟨x.V,x.B⟩:=by rw [show Cl (CI g x.B) = x.B from h]
  exact this
open Go
theorem Qi {x : Inc} (hx : x.Fam) : 1 ≤ DX x x.V:=by
 rw [← M7 hx]
 exact List.length_pos_of_mem ((Ge hx _).2 (Q7 hx))
theorem Nb : ∀ n,n ≤ 7 → By n ≤ 5040:=by decide
open Go
theorem Aei (v : Nat) (hv : v ≤ 63) : Ah Tryz.prog 89 [iD v] (fun r=>r = sD (2 ^ v - 1)):=by
 refine Ah.ofV ?_
 refine Ad (okc Tryz.f89.ntmps 0) (fn:=Tryz.f89) (cd:=_) rfl rfl rfl rfl rfl rfl (fun hbd=>?_)
 repeat' (
  conv=>whnf
  first
  |((with_reducible apply EZ);(rfl);(rfl);(omega);(exact wA))
  |((with_reducible apply Fv);(rfl);(rfl);(first|exact DH _|omega);(exact wA))
  |((with_reducible apply ob);(exact oT)))
 all_goals (conv=>whnf)
 exact fC rfl (by rw [Nat.shiftLeft_eq,Nat.one_mul];rfl)
open Go
def DT (g : List Int) (s : Nat) : Nat:=Eb g (Ac s)
theorem JU {g : List Int} {V s : Nat} (hg : Pm g V) (hs : s < 2 ^ V) : DT g s < 2 ^ V:=Xm hg _ fun p hp=>B2 hs ((Bf s p).1 hp).2
theorem mul_assoc {a b c : List Int} {n : Nat} (ha : Pm a n) (hb : Pm b n) (hc : Pm c n) : BW (BW a b) c = BW a (BW b c):=by
 refine ext_get (n:=n) (by rw [Ie,Ie];exact ha.1) (by rw [Ie];exact ha.1) fun k hk=>?_
 have ea:=ha.1
 have eb:=hb.1
 have h1:=GU ha hk
 rw [CM (by rw [Ie];omega),CM (by omega),CM (by omega),CM (by omega)]
theorem mul_one {a : List Int} {n : Nat} (ha : Pm a n) : BW a (Bg n) = a:=by
 refine ext_get (n:=n) (by rw [Ie];exact ha.1) ha.1 fun k hk=>?_
 have ea:=ha.1
 have h1:=GU ha hk
 rw [CM (by omega),FA _ _ (by omega)]
 omega
theorem one_mul {a : List Int} {n : Nat} (ha : Pm a n) : BW (Bg n) a = a:=by
 refine ext_get (n:=n) (by rw [Ie,Cz]) ha.1 fun k hk=>?_
 rw [CM (by rw [Cz];omega),FA _ _ hk]
 rfl
theorem Te {g h : List Int} {n : Nat} (hg : Pm g n) (hh : Pm h n) (e : BW g h = Bg n) : BW h g = Bg n:=by
 refine L7 (Gb hh hg) (I3 n) hh ?_
 rw [mul_assoc hh hg hh,e,mul_one hh,one_mul hh]
theorem AbX {a b : List Int} {V s : Nat} (hV : V ≤ 64) (ha : Pm a V) (hb : Pm b V) (hs : s < 2 ^ V) : DT b (DT a s) = DT (BW a b) s:=by
 have hab:=Gb ha hb
 refine Rt hab hV (JU hb (JU ha hs)) (JU hab hs) ?_
 rw [Mm ha hb]
 have h1 : Br b (DT b (DT a s)) = DT a s:=I8 hV hb (JU ha hs)
 have h2 : Br a (DT a s) = s:=I8 hV ha hs
 have h3 : Br (BW a b) (DT (BW a b) s) = s:=I8 hV hab hs
 rw [h1,h2,h3]
theorem GC {x : Inc} {g : List Int} : (Bn x g).V = x.V:=by unfold Bn;split <;> rfl
theorem Iq {x : Inc} (hx : x.Fam) {g : List Int} (hg : Pm g x.V) : (Bn x g).Fam:=by
 rw [Fj hx hg]
 have hlt : ∀ b ∈ Cl (CI g x.B),b < 2 ^ x.V:=by
  intro b hb
  obtain ⟨s,hs,rfl⟩:=List.mem_map.1 ((Ca _).mem_iff.1 hb)
  exact JU hg (hx.lt s hs)
 have h2 : 2 ^ x.V ≤ 2 ^ 7:=Nat.pow_le_pow_right (by decide) hx.v7
 refine ⟨⟨hx.ok.v1,hx.ok.v,fun b hb=>?_,?_⟩,hx.v7,Hj _,hlt⟩
 ·have:=hlt b hb;unfold A8;omega
 ·show (Cl _).length ≤ 12
  rw [(Ca _).length_eq]
  have:=hx.ok.n
  simpa [CI] using this
theorem Hn {x : Inc} (hx : x.Fam) {a b : List Int} (ha : Pm a x.V) (hb : Pm b x.V) : Bn (Bn x a) b = Bn x (BW a b):=by
 have hf:=Iq hx ha
 have hv:=hx.v7
 rw [Fj hf (g:=b) (by rw [GC];exact hb),Fj hx (Gb ha hb),Fj hx ha]
 have e : Cl (CI b (Cl (CI a x.B))) = Cl (CI (BW a b) x.B):=by
  refine (Rm _ _).2 ?_
  have h1 : (CI b (Cl (CI a x.B))).Perm (CI b (CI a x.B)):=(Ca _).map _
  refine h1.trans (List.Perm.of_eq ?_)
  unfold CI
  rw [List.map_map]
  exact List.map_congr_left fun s hs=>AbX (by omega) ha hb (hx.lt s hs)
 show (⟨x.V,_⟩ : Inc) = _
 rw [e]
theorem UK {x : Inc} (hx : x.Fam) : Bn x (Bg x.V) = x:=(Tb hx (I3 _)).2 (Q7 hx)
def Gg (x y : Inc) : List (List Int):=(CJ x.V).filter fun g=>decide (Bn x g = y)
theorem G7 (x y : Inc) (g : List Int) : g ∈ Gg x y ↔ Pm g x.V ∧ Bn x g = y:=by
 unfold Gg;rw [List.mem_filter,C0,decide_eq_true_eq]
theorem Sj (x y : Inc) : (Gg x y).Nodup:=(J6 x.V).filter _
theorem QK {x : Inc} (hx : x.Fam) : CE x = Gg x x:=by
 unfold CE Gg
 refine List.filter_congr fun g hg=>?_
 have hp:=(C0 _ _).1 hg
 rw [Bool.eq_iff_iff,MW hx,decide_eq_true_eq,Tb hx hp]
theorem X8 {x y z : Inc} (hx : x.Fam) {c : List Int} (hc : Pm c x.V) (h : Bn y c = z) (hy : y.Fam) (hyx : y.V = x.V) : (Gg x y).length ≤ (Gg x z).length:=by
 have h1:=D8 ((Gg x y).map (BW · c)) (Gg x z) ((CZ (fun u hu v hv e=>L7 ((G7 x y u).1 hu).1 ((G7 x y v).1 hv).1 hc e)).2 (Sj x y)) (by
  intro u hu
  obtain ⟨v,hv,rfl⟩:=List.mem_map.1 hu
  obtain ⟨h2,h3⟩:=(G7 x y v).1 hv
  refine (G7 x z _).2 ⟨Gb h2 hc,?_⟩
  rw [← Hn hx h2 hc,h3,h])
 rwa [List.length_map] at h1
theorem Aa9 {x : Inc} (hx : x.Fam) {g : List Int} (hg : Pm g x.V) : (Gg x (Bn x g)).length = (Gg x x).length:=by
 obtain ⟨h,hh,e⟩:=Mr hg
 refine Nat.le_antisymm (X8 hx hh ?_ (Iq hx hg) GC) (X8 hx hg rfl hx rfl)
 rw [Hn hx hg hh,e,UK hx]
theorem V1 {x : Inc} (hx : x.Fam) {g : List Int} (hg : Pm g x.V) : (Gg x (Bn x g)).length = DX x x.V:=by
 rw [Aa9 hx hg,← QK hx,M7 hx]
theorem Ru {α β : Type} [DecidableEq β] (f : α → β) (c : Nat) : ∀ (J : List β) (L : List α),J.Nodup → (∀ a ∈ L,f a ∈ J) → (∀ j ∈ J,(L.filter fun a=>decide (f a = j)).length = c) → L.length = c * J.length
 |[],L,_,h,_=>by
  cases L with
  |nil=>rfl
  |cons a L=>have:=h a List.mem_cons_self;cases this
 |j :: J,L,hJ,h,hc=>by
  obtain ⟨hj,hJ2⟩:=List.nodup_cons.1 hJ
  have e : ∀ j' ∈ J,((L.filter fun a=>!decide (f a = j)).filter fun a=>decide (f a = j')).length = (L.filter fun a=>decide (f a = j')).length:=by
   intro j' hj'
   rw [List.filter_filter]
   congr 1
   refine List.filter_congr fun a _=>?_
   by_cases h4 : f a = j'
   ·have : ¬ j' = j:=fun e=>hj (e ▸ hj')
    simp [h4,this]
   ·simp [h4]
  have ih:=Ru f c J (L.filter fun a=>!decide (f a = j)) hJ2 (by
   intro a ha
   obtain ⟨h1,h2⟩:=List.mem_filter.1 ha
   rcases List.mem_cons.1 (h a h1) with h3|h3
   ·simp [h3] at h2
   ·exact h3) (fun j' hj'=>by rw [e j' hj'];exact hc j' (List.mem_cons_of_mem _ hj'))
  have h0:=hc j List.mem_cons_self
  have h5:=List.length_eq_countP_add_countP (fun a=>decide (f a = j)) (l:=L)
  rw [List.countP_eq_length_filter,List.countP_eq_length_filter,h0] at h5
  have h6 : (L.filter fun a=>decide ¬(decide (f a = j)) = true) = L.filter fun a=>!decide (f a = j):=List.filter_congr fun a _=>by simp
  rw [h6,ih] at h5
  rw [h5,List.length_cons,Nat.mul_add,Nat.mul_one]
  omega
def G0 (x : Inc) : Nat → List Inc
 |0=>[]
 |k + 1=>if Bn x (JX x.V k) ∈ G0 x k then G0 x k else G0 x k ++ [Bn x (JX x.V k)]
theorem Qo (x : Inc) : ∀ k,(G0 x k).Nodup
 |0=>List.nodup_nil
 |k + 1=>by
  have ih:=Qo x k
  unfold G0
  split
  ·exact ih
  ·rename_i h
   exact List.nodup_append.2 ⟨ih,by simp,by rintro a ha b hb rfl;rw [List.mem_singleton.1 hb] at ha;exact h ha⟩
theorem Lr (x : Inc) (y : Inc) : ∀ k,y ∈ G0 x k ↔ ∃ r,r < k ∧ Bn x (JX x.V r) = y
 |0=>by simp [G0]
 |k + 1=>by
  have ih:=Lr x y k
  have hs : y ∈ G0 x (k + 1) ↔ y ∈ G0 x k ∨ Bn x (JX x.V k) = y:=by
   rw [G0]
   split
   ·rename_i h
    constructor
    ·exact Or.inl
    ·rintro (h1|h1)
     ·exact h1
     ·rw [← h1];exact h
   ·rw [List.mem_append,List.mem_singleton]
    constructor
    ·rintro (h1|h1)
     ·exact .inl h1
     ·exact .inr h1.symm
    ·rintro (h1|h1)
     ·exact .inl h1
     ·exact .inr h1.symm
  rw [hs,ih]
  constructor
  ·rintro (⟨r,h1,h2⟩|h1)
   ·exact ⟨r,by omega,h2⟩
   ·exact ⟨k,by omega,h1⟩
  ·rintro ⟨r,h1,h2⟩
   rcases Nat.lt_or_ge r k with h3|h3
   ·exact .inl ⟨r,h3,h2⟩
   ·have : r = k:=by omega
    subst this
    exact .inr h2
theorem Tt (x : Inc) : ∀ k,(G0 x k).length ≤ k
 |0=>Nat.le_refl _
 |k + 1=>by
  have:=Tt x k
  unfold G0
  split
  ·omega
  ·rw [List.length_append];simp;omega
theorem AaK {x : Inc} (hx : x.Fam) : DX x x.V * (G0 x (By x.V)).length = By x.V:=by
 have hl : (CJ x.V).length = By x.V:=by rw [← IA,List.length_map,List.length_range]
 rw [← hl]
 refine (Ru (Bn x) (DX x x.V) (G0 x (CJ x.V).length) (CJ x.V) (Qo _ _) ?_ ?_).symm
 ·intro g hg
  rw [← IA] at hg
  obtain ⟨r,hr,rfl⟩:=List.mem_map.1 hg
  rw [hl]
  exact (Lr x _ _).2 ⟨r,List.mem_range.1 hr,rfl⟩
 ·intro y hy
  rw [hl] at hy
  obtain ⟨r,hr,rfl⟩:=(Lr x _ _).1 hy
  exact V1 hx (Sm hr)
theorem AaW {x : Inc} (hx : x.Fam) {g : List Int} (hg : Pm g x.V) : DX (Bn x g) (Bn x g).V = DX x x.V:=by
 have hy:=Iq hx hg
 rw [← M7 hy,QK hy,← V1 hx hg]
 obtain ⟨h,hh,e⟩:=Mr hg
 have mem : ∀ b,b ∈ Gg (Bn x g) (Bn x g) ↔ Pm b x.V ∧ Bn x (BW g b) = Bn x g:=by
  intro b
  rw [G7,GC]
  constructor
  ·rintro ⟨h1,h2⟩;exact ⟨h1,by rw [← Hn hx hg h1];exact h2⟩
  ·rintro ⟨h1,h2⟩;exact ⟨h1,by rw [Hn hx hg h1];exact h2⟩
 refine Nat.le_antisymm ?_ ?_
 ·have h1:=D8 ((Gg (Bn x g) (Bn x g)).map (BW g ·)) (Gg x (Bn x g)) ((CZ (fun u hu v hv e=>K2 ((mem u).1 hu).1 ((mem v).1 hv).1 hg e)).2 (Sj _ _)) (by
   intro u hu
   obtain ⟨v,hv,rfl⟩:=List.mem_map.1 hu
   obtain ⟨h2,h3⟩:=(mem v).1 hv
   exact (G7 _ _ _).2 ⟨Gb hg h2,h3⟩)
  rwa [List.length_map] at h1
 ·have h1:=D8 ((Gg x (Bn x g)).map (BW h ·)) (Gg (Bn x g) (Bn x g)) ((CZ (fun u hu v hv e=>K2 ((G7 _ _ u).1 hu).1 ((G7 _ _ v).1 hv).1 hh e)).2 (Sj _ _)) (by
   intro u hu
   obtain ⟨v,hv,rfl⟩:=List.mem_map.1 hu
   obtain ⟨h2,h3⟩:=(G7 _ _ v).1 hv
   refine (mem _).2 ⟨Gb hh h2,?_⟩
   rw [← mul_assoc hg hh h2,e,one_mul h2,h3])
  rwa [List.length_map] at h1
open Go
def Bu : List Nat → List Nat → Bool
 |[],[]=>false
 |[],_ :: _=>true
 |_ :: _,[]=>false
 |a :: l,b :: m=>if a < b then true else if b < a then false else Bu l m
theorem Jx : ∀ l,Bu l l = false
 |[]=>rfl
 |a :: l=>by simp [Bu,Jx l]
theorem J2 : ∀ {l m : List Nat},Bu l m = false → Bu m l = false → l = m
 |[],[],_,_=>rfl
 |[],_ :: _,h,_=>by simp [Bu] at h
 |_ :: _,[],_,h=>by simp [Bu] at h
 |a :: l,b :: m,h,h2=>by
  unfold Bu at h h2
  by_cases h3 : a < b
  ·simp [h3] at h
  ·by_cases h4 : b < a
   ·simp [h4] at h2
   ·simp only [h3,h4,if_false] at h h2
    rw [J2 h h2,show a = b by omega]
theorem JD : ∀ {l m : List Nat},Bu l m = true → Bu m l = false
 |[],[],h=>by simp [Bu] at h
 |[],_ :: _,_=>rfl
 |_ :: _,[],h=>by simp [Bu] at h
 |a :: l,b :: m,h=>by
  unfold Bu at h ⊢
  by_cases h3 : a < b
  ·simp [h3,show ¬ b < a by omega]
  ·by_cases h4 : b < a
   ·simp [h3,h4] at h
   ·simp only [h3,h4,if_false] at h ⊢
    exact JD h
theorem Qn : ∀ {l m n : List Nat},Bu l m = true → Bu m n = true → Bu l n = true
 |[],_,[],h,h2=>by
  rename_i m
  cases m <;> simp [Bu] at h h2
 |[],_,_ :: _,_,_=>rfl
 |_ :: _,[],_,h,_=>by simp [Bu] at h
 |_ :: _,_ :: _,[],_,h=>by simp [Bu] at h
 |a :: l,b :: m,c :: n,h,h2=>by
  unfold Bu at h h2 ⊢
  by_cases h3 : a < b
  ·by_cases h5 : b < c
   ·simp [show a < c by omega]
   ·by_cases h6 : c < b
    ·simp [h5,h6] at h2
    ·simp [show a < c by omega]
  ·by_cases h4 : b < a
   ·simp [h3,h4] at h
   ·simp only [h3,h4,if_false] at h
    by_cases h5 : b < c
    ·simp [show a < c by omega]
    ·by_cases h6 : c < b
     ·simp [h5,h6] at h2
     ·simp only [h5,h6,if_false] at h2
      simp only [show ¬ a < c by omega,show ¬ c < a by omega,if_false]
      exact Qn h h2
def Ko : List (List Nat) → List Nat → List Nat
 |[],b=>b
 |y :: l,b=>Ko l (if Bu y b then y else b)
theorem Sx : ∀ (l : List (List Nat)) (b : List Nat),Ko l b = b ∨ Ko l b ∈ l
 |[],b=>.inl rfl
 |y :: l,b=>by
  unfold Ko
  rcases Sx l (if Bu y b then y else b) with h|h
  ·rw [h]
   split
   ·exact .inr List.mem_cons_self
   ·exact .inl rfl
  ·exact .inr (List.mem_cons_of_mem _ h)
theorem KL {a b c : List Nat} (h : Bu b a = false) (h2 : Bu c b = false) : Bu c a = false:=by
 cases h3 : Bu c a with
 |false=>rfl
 |true =>
  exfalso
  cases h4 : Bu a b with
  |true=>have:=Qn h3 h4;rw [h2] at this;cases this
  |false =>
   have:=J2 h h4
   subst this
   rw [h3] at h2;cases h2
theorem U4 : ∀ (l : List (List Nat)) (b : List Nat),Bu b (Ko l b) = false ∧ ∀ y ∈ l,Bu y (Ko l b) = false
 |[],b=>⟨Jx b,fun y hy=>by cases hy⟩
 |y :: l,b=>by
  unfold Ko
  obtain ⟨h1,h2⟩:=U4 l (if Bu y b then y else b)
  have key : Bu b (Ko l (if Bu y b then y else b)) = false ∧ Bu y (Ko l (if Bu y b then y else b)) = false:=by
   cases hc : Bu y b with
   |true =>
    rw [hc,if_pos rfl] at h1
    exact ⟨by rw [if_pos rfl];exact KL h1 (JD hc),by rw [if_pos rfl];exact h1⟩
   |false =>
    rw [hc] at h1
    simp only [Bool.false_eq_true,if_false] at h1 ⊢
    exact ⟨h1,KL h1 hc⟩
  exact ⟨key.1,fun z hz=>by
   rcases List.mem_cons.1 hz with rfl|hz
   ·exact key.2
   ·exact h2 z hz⟩
def L3 (x : Inc) : List (List Nat):=(CJ x.V).map fun g=>(Bn x g).B
def RI (x : Inc) : List Nat:=match L3 x with
 |[]=>x.B
 |y :: l=>Ko l y
def Ak (x : Inc) : Inc:=⟨x.V,RI x⟩
theorem OH (x : Inc) (B : List Nat) : B ∈ L3 x ↔ ∃ g,Pm g x.V ∧ (Bn x g).B = B:=by
 unfold L3
 rw [List.mem_map]
 constructor
 ·rintro ⟨g,hg,rfl⟩;exact ⟨g,(C0 _ _).1 hg,rfl⟩
 ·rintro ⟨g,hg,rfl⟩;exact ⟨g,(C0 _ _).2 hg,rfl⟩
theorem PA (x : Inc) : RI x ∈ L3 x ∧ ∀ y ∈ L3 x,Bu y (RI x) = false:=by
 have h0 : (Bn x (Bg x.V)).B ∈ L3 x:=(OH x _).2 ⟨_,I3 _,rfl⟩
 unfold RI
 cases h : L3 x with
 |nil=>rw [h] at h0;cases h0
 |cons y l =>
  dsimp only
  obtain ⟨h1,h2⟩:=U4 l y
  refine ⟨?_,fun z hz=>?_⟩
  ·rcases Sx l y with e|e
   ·rw [e];exact List.mem_cons_self
   ·exact List.mem_cons_of_mem _ e
  ·rcases List.mem_cons.1 hz with rfl|hz
   ·exact h1
   ·exact h2 z hz
theorem Eu (x : Inc) : ∃ g,Pm g x.V ∧ Ak x = Bn x g:=by
 obtain ⟨g,hg,e⟩:=(OH x _).1 (PA x).1
 refine ⟨g,hg,?_⟩
 have hv : (Bn x g).V = x.V:=GC
 cases hi : Bn x g with
 |mk V B=>rw [hi] at e hv;simp only at e hv;unfold Ak;rw [e,hv]
theorem Nu (x : Inc) {g : List Int} (hg : Pm g x.V) : Bu (Bn x g).B (Ak x).B = false:=(PA x).2 _ ((OH x _).2 ⟨g,hg,rfl⟩)
theorem Rz {x y : Inc} {g : List Int} (hg : Pm g x.V) (e : y = Bn x g) (h : ∀ k,Pm k x.V → Bu (Bn x k).B y.B = false) : y = Ak x:=by
 obtain ⟨k,hk,e2⟩:=Eu x
 have h1:=h k hk
 rw [← e2] at h1
 have h2:=Nu x hg
 rw [← e] at h2
 have hB:=J2 h1 h2
 have hv : y.V = x.V:=by rw [e];exact GC
 cases y with
 |mk V B=>simp only at hB hv;subst hB hv;rfl
theorem Qz {x : Inc} (hx : x.Fam) {g : List Int} (hg : Pm g x.V) : ∃ h,Pm h x.V ∧ Bn (Bn x g) h = x:=by
 obtain ⟨h,hh,e⟩:=Mr hg
 exact ⟨h,hh,by rw [Hn hx hg hh,e,UK hx]⟩
theorem Jz {x : Inc} (hx : x.Fam) {g : List Int} (hg : Pm g x.V) : Ak (Bn x g) = Ak x:=by
 have hv : (Bn x g).V = x.V:=GC
 obtain ⟨h,hh,e⟩:=Eu (Bn x g)
 rw [hv] at hh
 rw [Hn hx hg hh] at e
 refine Rz (Gb hg hh) e fun k hk=>?_
 obtain ⟨i,hi,e2⟩:=Qz hx hg
 have : Bn x k = Bn (Bn x g) (BW i k):=by
  rw [← Hn (Iq hx hg) (hv ▸ hi) (hv ▸ hk),e2]
 rw [this]
 exact Nu _ (hv ▸ Gb hi hk)
theorem Y3 {x : Inc} (hx : x.Fam) : (Ak x).Fam:=by
 obtain ⟨g,hg,e⟩:=Eu x
 rw [e];exact Iq hx hg
theorem Hp {x : Inc} (hx : x.Fam) : Ak (Ak x) = Ak x:=by
 obtain ⟨g,hg,e⟩:=Eu x
 rw [e,Jz hx hg,← e]
theorem Qb {x y : Inc} (hx : x.Fam) (hy : y.Fam) (hv : x.V = y.V) (h : Ak x = Ak y) : ∃ g,Pm g x.V ∧ Bn x g = y:=by
 obtain ⟨g,hg,e⟩:=Eu x
 obtain ⟨k,hk,e2⟩:=Eu y
 obtain ⟨i,hi,e3⟩:=Qz hy hk
 rw [← hv] at hi
 refine ⟨BW g i,Gb hg hi,?_⟩
 rw [← Hn hx hg hi,← e,h,e2,e3]
open Go
theorem QG (b : Nat) : ∀ k,Fx b k = ((List.range k).filter b.testBit).length
 |0=>rfl
 |k + 1=>by
  rw [List.range_succ,List.filter_append,List.length_append,Fx,QG b k]
  cases h : b.testBit k <;> simp [h]
theorem L2 (b : Nat) : Cv b = (Ac b).length:=QG b 64
theorem Jd {g : List Int} {V s q : Nat} (hg : Pm g V) (hV : V ≤ 64) (hs : s < 2 ^ V) : (DT g s).testBit q = true ↔ ∃ p,p < V ∧ s.testBit p = true ∧ (g.getD p 0).toNat = q:=by
 unfold DT Eb
 rw [KK]
 simp only [Nat.zero_testBit,Bool.false_eq_true,false_or]
 constructor
 ·rintro ⟨p,hp,e⟩
  have:=(Bf s p).1 hp
  exact ⟨p,B2 hs this.2,this.2,e⟩
 ·rintro ⟨p,hp,h,e⟩
  exact ⟨p,(Bf s p).2 ⟨by omega,h⟩,e⟩
theorem Yf {g : List Int} {V s : Nat} (hg : Pm g V) (hV : V ≤ 64) (hs : s < 2 ^ V) : (Ac (DT g s)).Perm ((Ac s).map fun p=>(g.getD p 0).toNat):=by
 have hnd : ((Ac s).map fun p=>(g.getD p 0).toNat).Nodup:=(CZ (fun a ha b hb e=>by
  have h1:=(Bf s a).1 ha
  have h2:=(Bf s b).1 hb
  exact Mf hg (B2 hs h1.2) (B2 hs h2.2) e)).2 (List.nodup_range.filter _)
 refine (List.perm_ext_iff_of_nodup (List.nodup_range.filter _) hnd).2 fun q=>?_
 rw [List.mem_map]
 constructor
 ·intro h
  obtain ⟨p,hp,h1,e⟩:=(Jd hg hV hs).1 ((Bf _ q).1 h).2
  exact ⟨p,(Bf s p).2 ⟨by omega,h1⟩,e⟩
 ·rintro ⟨p,hp,rfl⟩
  have h1:=(Bf s p).1 hp
  have h2:=GU hg (B2 hs h1.2)
  exact (Bf _ _).2 ⟨by omega,(Jd hg hV hs).2 ⟨p,B2 hs h1.2,h1.2,rfl⟩⟩
theorem O0 {g : List Int} {V s : Nat} (hg : Pm g V) (hV : V ≤ 64) (hs : s < 2 ^ V) : Cv (DT g s) = Cv s:=by
 rw [L2,L2,(Yf hg hV hs).length_eq,List.length_map]
theorem U3 {g : List Int} {V s t : Nat} (hg : Pm g V) (hV : V ≤ 64) (hs : s < 2 ^ V) (ht : t < 2 ^ V) (h : DT g s = DT g t) : s = t:=by
 apply Nat.eq_of_testBit_eq
 intro q
 have key : ∀ {s t : Nat},s < 2 ^ V → t < 2 ^ V → DT g s = DT g t → s.testBit q = true → t.testBit q = true:=by
  intro s t hs ht h hq
  have hqV:=B2 hs hq
  have h1 : (DT g s).testBit (g.getD q 0).toNat = true:=(Jd hg hV hs).2 ⟨q,hqV,hq,rfl⟩
  rw [h] at h1
  obtain ⟨p,hp,h2,e⟩:=(Jd hg hV ht).1 h1
  rw [← Mf hg hp hqV e];exact h2
 cases h1 : s.testBit q with
 |true=>exact (key hs ht h h1).symm
 |false =>
  cases h2 : t.testBit q with
  |false=>rfl
  |true=>rw [key ht hs h.symm h2] at h1;cases h1
def GI (B : List Nat) (p q : Nat) : Nat:=B.countP fun b=>b.testBit p && b.testBit q
theorem TA {g : List Int} {V s p : Nat} (hg : Pm g V) (hV : V ≤ 64) (hs : s < 2 ^ V) (hp : p < V) : (DT g s).testBit (g.getD p 0).toNat = s.testBit p:=by
 cases h : s.testBit p with
 |true=>exact (Jd hg hV hs).2 ⟨p,hp,h,rfl⟩
 |false =>
  cases h2 : (DT g s).testBit (g.getD p 0).toNat with
  |false=>rfl
  |true =>
   obtain ⟨q,hq,h3,e⟩:=(Jd hg hV hs).1 h2
   rw [Mf hg hq hp e] at h3
   rw [h3] at h;cases h
theorem Ack {g : List Int} {V : Nat} {B : List Nat} (hg : Pm g V) (hV : V ≤ 64) (hB : ∀ b ∈ B,b < 2 ^ V) {p q : Nat} (hp : p < V) (hq : q < V) : GI (B.map (DT g)) (g.getD p 0).toNat (g.getD q 0).toNat = GI B p q:=by
 unfold GI
 rw [List.countP_map]
 refine List.countP_congr fun b hb=>?_
 simp only [Function.comp,TA hg hV (hB b hb) hp,TA hg hV (hB b hb) hq]
structure Kd where
 V : Nat
 K : Nat
 L : Nat
structure Kd.Ok (k : Kd) : Prop where
 v3 : 3 ≤ k.V
 v6 : k.V ≤ 6
 k2 : 2 ≤ k.K
 k4 : k.K ≤ 4
 kv : k.K ≤ k.V
 l1 : 1 ≤ k.L
 l2 : k.L ≤ 2
structure IsF (k : Kd) (x : Inc) : Prop where
 ok : k.Ok
 v : x.V = k.V
 s : x.B.Pairwise (· < ·)
 lt : ∀ b ∈ x.B,b < 2 ^ k.V
 sz : ∀ b ∈ x.B,Cv b = k.K
 pr : ∀ p q,p < k.V → q < k.V → p ≠ q → GI x.B p q ≤ k.L
theorem IsF.fam {k : Kd} {x : Inc} (h : IsF k x) (hl : x.B.length ≤ 12) : x.Fam:=by
 have:=h.ok.v3
 have:=h.ok.v6
 have hv:=h.v
 refine ⟨⟨by omega,by omega,fun b hb=>?_,hl⟩,by omega,h.s.imp fun h=>Nat.le_of_lt h,fun b hb=>by rw [hv];exact h.lt b hb⟩
 have h1:=h.lt b hb
 have h2 : 2 ^ k.V ≤ 2 ^ 6:=Nat.pow_le_pow_right (by decide) h.ok.v6
 unfold A8;omega
theorem Xt {l : List Nat} (h : H5 l) (hn : l.Nodup) : l.Pairwise (· < ·):=by
 have:=List.Pairwise.and h hn
 exact this.imp fun ⟨h1,h2⟩=>Nat.lt_of_le_of_ne h1 h2
theorem Ja {k : Kd} {x : Inc} (h : IsF k x) (hl : x.B.length ≤ 12) {g : List Int} (hg : Pm g x.V) : IsF k (Bn x g):=by
 have hf:=h.fam hl
 have hv:=h.v
 have hV : x.V ≤ 64:=by have:=h.ok.v6;omega
 have hlt : ∀ b ∈ x.B,b < 2 ^ x.V:=by rw [hv];exact h.lt
 have hi:=Fj hf hg
 have hm : CI g x.B = x.B.map (DT g):=rfl
 rw [hm] at hi
 have hp : (Bn x g).B.Perm (x.B.map (DT g)):=by rw [hi];exact Ca _
 refine ⟨h.ok,by rw [GC,hv],?_,fun b hb=>?_,fun b hb=>?_,fun p q hp1 hq1 hne=>?_⟩
 ·rw [hi]
  refine Xt (Hj _) ((Ca _).nodup_iff.2 ?_)
  exact (CZ fun a ha b hb e=>U3 hg hV (hlt a ha) (hlt b hb) e).2 (h.s.imp fun h=>Nat.ne_of_lt h)
 ·obtain ⟨c,hc,rfl⟩:=List.mem_map.1 (hp.mem_iff.1 hb)
  rw [← hv];exact JU hg (hlt c hc)
 ·obtain ⟨c,hc,rfl⟩:=List.mem_map.1 (hp.mem_iff.1 hb)
  rw [O0 hg hV (hlt c hc)];exact h.sz c hc
 ·obtain ⟨i,hi2,e⟩:=Mr hg
  have h1:=GU hi2 (k:=p) (by omega)
  have h2:=GU hi2 (k:=q) (by omega)
  have ep : (g.getD (i.getD p 0).toNat 0).toNat = p:=by
   have:=Te hg hi2 e
   have e2 : (BW i g).getD p 0 = (p : Int):=by rw [this,FA _ _ (by omega)]
   rw [CM (by rw [hi2.1];omega)] at e2
   omega
  have eq : (g.getD (i.getD q 0).toNat 0).toNat = q:=by
   have:=Te hg hi2 e
   have e2 : (BW i g).getD q 0 = (q : Int):=by rw [this,FA _ _ (by omega)]
   rw [CM (by rw [hi2.1];omega)] at e2
   omega
  have e3 : GI (Bn x g).B p q = GI (x.B.map (DT g)) p q:=by unfold GI;exact hp.countP_eq _
  rw [e3]
  have:=Ack hg hV hlt (p:=(i.getD p 0).toNat) (q:=(i.getD q 0).toNat) (by omega) (by omega)
  rw [ep,eq] at this
  rw [this]
  refine h.pr _ _ (by omega) (by omega) fun e4=>hne ?_
  rw [← ep,← eq,e4]
theorem Ng {k : Kd} {x : Inc} (h : IsF k x) {B : List Nat} (hs : B.Sublist x.B) : IsF k ⟨x.V,B⟩ :=
 ⟨h.ok,h.v,h.s.sublist hs,fun b hb=>h.lt b (hs.subset hb),fun b hb=>h.sz b (hs.subset hb),fun p q hp hq hne=>Nat.le_trans (hs.countP_le) (h.pr p q hp hq hne)⟩
theorem Hd {k : Kd} {x : Inc} (h : IsF k x) (hl : x.B.length ≤ 12) : IsF k (Ak x):=by
 obtain ⟨g,hg,e⟩:=Eu x
 rw [e];exact Ja h hl hg
theorem K5 {x : Inc} (hx : x.Fam) {g : List Int} (hg : Pm g x.V) : (Bn x g).B.length = x.B.length:=by
 rw [Fj hx hg]
 show (Cl _).length = _
 rw [(Ca _).length_eq]
 simp [CI]
theorem DK {x : Inc} (hx : x.Fam) : (Ak x).B.length = x.B.length:=by
 obtain ⟨g,hg,e⟩:=Eu x
 rw [e,K5 hx hg]
end Go.Proofs.YtbpifoakbkmblaaGreatDoor.Pw
