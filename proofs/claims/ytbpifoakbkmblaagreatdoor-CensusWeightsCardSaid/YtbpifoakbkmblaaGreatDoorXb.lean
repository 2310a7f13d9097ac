/- Parts of the proof, merged: XU XV XW XY XZ YA YB YC YD YE YF YG YH YI. -/
import Derived.Test.YtbpifoakbkmblaaGreatDoorXa

set_option linter.unusedVariables false
set_option linter.unusedSimpArgs false
set_option maxHeartbeats 40000000
set_option maxRecDepth 10000
namespace Go.Proofs.YtbpifoakbkmblaaGreatDoor.Pw
open Go
theorem Cz {ρ : List Nat} {n n0 g s : Nat} {H : List Ob} {e e2 : Ae} (h : get e s = .yld g) (ht : ρ.take n0 = List.range n0) (hg : g < n0) (hn : n0 ≤ n) (h2 : Gu ρ n H e e2) : Gu ρ n H e ((s,.yld g) :: e2) :=
 Au (by rw [h];show D.yld g = D.yld _;rw [He ht hg]) (by show Nat.blt g n = true;exact Nat.ble_eq_true_of_le (by omega)) h2
theorem Xa (
         x : Inc) (hx : x.Ok) (hx7 : x.V ≤ 7) (g : Nat) (hg : g < 3) (J : Nat → List Ob → Prop) (Q : D → List Ob → Prop)
  (hdp : ∀ i j,i ≤ j → j < x.V → CH (Az i j) x.V)
  (hJ : ∀ k H,J k H → ((∃ o0 o1 o2,H = [o0,o1,o2]) ∨ (∃ o0 o1 o2 o3,H = [o0,o1,o2,o3])) ∧ ∀ o ∈ H,As H.length o = true)
  (hyl : ∀ k H,J k H → k < x.V → YC Tryz.prog g [iD k,Lg (Cm x k (x.V - k))] H (fun r H'=>Bz (Bu r = true ∧ ∃ σ O2,Sits H' σ O2 ∧ σ.take 3 = List.range 3 ∧ ((r = .bool true ∧ J (k + 1) O2) ∨ (r = .bool false ∧ Q (.tuple []) O2)))))
  (hend : ∀ H,J x.V H → Q (.tuple []) H) (H0 : List Ob) (hH0 : ∃ o0 o1 o2,H0 = [o0,o1,o2]) (h0 : J 0 H0) :
  HC Tryz.prog 74 [.yld g,.ref (.agg [.leaf,.leaf]) x.D] H0 Q:=by
 obtain ⟨o0,o1,o2,rfl⟩:=hH0
 have hv:=hx.v
 refine HC.move (Q0:=fun r H'=>Bz (∃ σ O2,Sits H' σ O2 ∧ σ.take 3 = List.range 3 ∧ r = .tuple [] ∧ Q r O2)) ?_ ?_
 ·refine Ai (okc Tryz.f74.ntmps 3) (fn:=Tryz.f74) (cd:=_) rfl rfl rfl rfl rfl rfl (fun hbd=>?_)
  all_goals (conv=>whnf)
  refine Bt (X:=Nat × List Ob) (fun y=>[(0,.yld g),(1,.ref (.agg [.leaf,.leaf]) x.D),(11,iD x.V),(12,iD y.1)]) (fun y=>y.2) (fun y=>J y.1 y.2 ∧ y.1 ≤ x.V) (fun y=>x.V - y.1) ⟨_,A4 (0,[o0,o1,o2]) Bn rfl (Nat.lt_succ_self _) ⟨h0,Nat.zero_le _⟩⟩ ?_
  rintro ⟨i,Hc⟩ ⟨hj,hi⟩
  dsimp only at hj hi ⊢
  clear h0
  obtain ⟨hcs,hin⟩:=hJ _ _ hj
  rcases hcs with ⟨o0,o1,o2,rfl⟩|⟨o0,o1,o2,o3,rfl⟩
  ·have hi0 : As 3 o0 = true:=hin _ (by simp)
   have hi1 : As 3 o1 = true:=hin _ (by simp)
   have hi2 : As 3 o2 = true:=hin _ (by simp)
   repeat' (
    conv=>whnf
    first
    |refine Ap (fun h=>?_) (fun h=>?_))
   all_goals (conv=>whnf)
   ·refine Bt (X:=Nat × List (Nat × List Int) × List (Nat × Tree)) (fun y=>[(0,.yld g),(1,.ref (.agg [.leaf,.leaf]) x.D),(3,iD i),(4,.ptr 3 []),(5,iD (i + y.1)),(11,iD x.V),(12,iD i)]) (fun y=>[o0,o1,o2] ++ Ck 3 y.2.1 y.2.2) (fun y=>i + y.1 ≤ x.V ∧ Cm x i y.1 = (y.2.1,y.2.2)) (fun y=>x.V - i - y.1) ⟨_,A4 (0,[],[]) Bn rfl (Nat.lt_succ_self _) ⟨by dsimp only;omega,rfl⟩⟩ ?_
    rintro ⟨k,ys,ns⟩ ⟨hk,hlv⟩
    dsimp only at hk hlv ⊢
    have hlen:=Hf x i k
    rw [hlv] at hlen
    dsimp only at hlen
    rcases Nat.lt_or_ge (i + k) x.V with hlt|hge
    ·have hd:=hdp i (i + k) (by omega) hlt
     have hpl:=Ff i (i + k)
     have hmp:=Tr x x (Az i (i + k)) hx hx hx7 hx7 (NI _ _) hd (by omega)
     have hpr:=NH x x (Az i (i + k)) hx hx hx7 hx7 hd (by omega)
     obtain ⟨ec,hec⟩:=NQ x x (Az i (i + k))
     rw [hec] at hpr
     cases hm : Dz x x (Az i (i + k)) with
     |some m =>
      rw [hm] at hmp
      have hstep : Cm x i (k + 1) = (ys ++ [(i + k,m)],ns):=by rw [Cm,hm,hlv]
      cases ys with
      |nil =>
       cases ns with
       |nil =>
        simp only [List.length_cons,List.length_nil] at hlen
        repeat' (
         conv=>whnf
         first
         |refine Ap (fun h=>?_) (fun h=>?_)
         |with_reducible refine Ao ?_
         |((with_reducible refine A0 ?_);refine A3 hmp ?_)
         |((with_reducible refine A0 ?_);refine A3 (Bg _ _ (by omega)) ?_)
         |((with_reducible apply A1 9);rfl)
         |((with_reducible apply ob);(exact oT))
         |refine BW ?_)
        all_goals (conv=>whnf)
        all_goals (first|exact Br (by unfold A9;simp;omega)|exact absurd (by assumption : ¬ _) (by omega)|skip)
        ·refine nx (k + 1,[] ++ [(i + k,m)],[]) [0,1,2,3,5] (by (repeat (first|exact trivial|refine Au rfl rfl ?_|refine Cz (n0:=3) rfl rfl hg (by simp only [List.length_append,List.length_cons,List.length_nil];omega) ?_))) ?_ rfl rfl (by dsimp only;omega) ⟨by dsimp only;omega,hstep⟩
         dsimp only [Ck]
         simp only [List.length_append,List.length_cons,List.length_nil,Nat.zero_add]
         (repeat (first|exact trivial|refine DW (n0:=3) (by assumption) rfl (by omega) rfl ?_|refine A8 rfl rfl ?_|refine Bb rfl (by first|rfl|(dsimp only;rw [DX,List.map_append];rfl)) (by first|exact Bj _|exact By _) ?_))
       |cons n0 ns =>
        simp only [List.length_cons,List.length_nil] at hlen
        repeat' (
         conv=>whnf
         first
         |refine Ap (fun h=>?_) (fun h=>?_)
         |with_reducible refine Ao ?_
         |((with_reducible refine A0 ?_);refine A3 hmp ?_)
         |((with_reducible refine A0 ?_);refine A3 (Bg _ _ (by omega)) ?_)
         |((with_reducible apply A1 9);rfl)
         |((with_reducible apply ob);(exact oT))
         |refine BW ?_)
        all_goals (conv=>whnf)
        all_goals (first|exact Br (by unfold A9;simp;omega)|exact absurd (by assumption : ¬ _) (by omega)|skip)
        ·refine nx (k + 1,[] ++ [(i + k,m)],(n0 :: ns)) [0,1,2,3,6,4] (by (repeat (first|exact trivial|refine Au rfl rfl ?_|refine Cz (n0:=3) rfl rfl hg (by simp only [List.length_append,List.length_cons,List.length_nil];omega) ?_))) ?_ rfl rfl (by dsimp only;omega) ⟨by dsimp only;omega,hstep⟩
         dsimp only [Ck]
         simp only [List.length_append,List.length_cons,List.length_nil,Nat.zero_add]
         (repeat (first|exact trivial|refine DW (n0:=3) (by assumption) rfl (by omega) rfl ?_|refine A8 rfl rfl ?_|refine Bb rfl (by first|rfl|(dsimp only;rw [DX,List.map_append];rfl)) (by first|exact Bj _|exact By _) ?_))
      |cons y0 ys =>
       cases ns with
       |nil =>
        simp only [List.length_cons,List.length_nil] at hlen
        repeat' (
         conv=>whnf
         first
         |refine Ap (fun h=>?_) (fun h=>?_)
         |with_reducible refine Ao ?_
         |((with_reducible refine A0 ?_);refine A3 hmp ?_)
         |((with_reducible refine A0 ?_);refine A3 (Bg _ _ (by omega)) ?_)
         |((with_reducible apply A1 9);rfl)
         |((with_reducible apply ob);(exact oT))
         |refine BW ?_)
        all_goals (conv=>whnf)
        all_goals (first|exact Br (by unfold A9;simp;omega)|exact absurd (by assumption : ¬ _) (by omega)|skip)
        ·refine nx (k + 1,(y0 :: ys) ++ [(i + k,m)],[]) [0,1,2,3,6] (by (repeat (first|exact trivial|refine Au rfl rfl ?_|refine Cz (n0:=3) rfl rfl hg (by simp only [List.length_append,List.length_cons,List.length_nil];omega) ?_))) ?_ rfl rfl (by dsimp only;omega) ⟨by dsimp only;omega,hstep⟩
         dsimp only [Ck]
         simp only [List.length_append,List.length_cons,List.length_nil,Nat.zero_add]
         (repeat (first|exact trivial|refine DW (n0:=3) (by assumption) rfl (by omega) rfl ?_|refine A8 rfl rfl ?_|refine Bb rfl (by first|rfl|(dsimp only;rw [DX,List.map_append];rfl)) (by first|exact Bj _|exact By _) ?_))
       |cons n0 ns =>
        simp only [List.length_cons,List.length_nil] at hlen
        repeat' (
         conv=>whnf
         first
         |refine Ap (fun h=>?_) (fun h=>?_)
         |with_reducible refine Ao ?_
         |((with_reducible refine A0 ?_);refine A3 hmp ?_)
         |((with_reducible refine A0 ?_);refine A3 (Bg _ _ (by omega)) ?_)
         |((with_reducible apply A1 9);rfl)
         |((with_reducible apply ob);(exact oT))
         |refine BW ?_)
        all_goals (conv=>whnf)
        all_goals (first|exact Br (by unfold A9;simp;omega)|exact absurd (by assumption : ¬ _) (by omega)|skip)
        ·refine nx (k + 1,(y0 :: ys) ++ [(i + k,m)],(n0 :: ns)) [0,1,2,3,7,5] (by (repeat (first|exact trivial|refine Au rfl rfl ?_|refine Cz (n0:=3) rfl rfl hg (by simp only [List.length_append,List.length_cons,List.length_nil];omega) ?_))) ?_ rfl rfl (by dsimp only;omega) ⟨by dsimp only;omega,hstep⟩
         dsimp only [Ck]
         simp only [List.length_append,List.length_cons,List.length_nil,Nat.zero_add]
         (repeat (first|exact trivial|refine DW (n0:=3) (by assumption) rfl (by omega) rfl ?_|refine A8 rfl rfl ?_|refine Bb rfl (by first|rfl|(dsimp only;rw [DX,List.map_append];rfl)) (by first|exact Bj _|exact By _) ?_))
     |none =>
      rw [hm] at hmp
      have hstep : Cm x i (k + 1) = (ys,ns ++ [(i + k,Fq x x (Az i (i + k)))]):=by rw [Cm,hm,hlv]
      cases hT : Fq x x (Az i (i + k)) with
      |node kids =>
      rw [hT] at hpr hstep
      cases ys with
      |nil =>
       cases ns with
       |nil =>
        simp only [List.length_cons,List.length_nil] at hlen
        repeat' (
         conv=>whnf
         first
         |refine Ap (fun h=>?_) (fun h=>?_)
         |with_reducible refine Ao ?_
         |((with_reducible refine A0 ?_);refine A3 hmp ?_)
         |((with_reducible refine A0 ?_);refine A3 hpr ?_)
         |((with_reducible refine A0 ?_);refine A3 (Bg _ _ (by omega)) ?_)
         |((with_reducible apply A1 9);rfl)
         |((with_reducible apply A1 10);rfl)
         |((with_reducible apply ob);(exact oT))
         |refine BW ?_)
        all_goals (conv=>whnf)
        all_goals (first|exact Br (by unfold A9;simp;omega)|exact absurd (by assumption : ¬ _) (by omega)|skip)
        ·refine nx (k + 1,[],[] ++ [(i + k,Tree.node kids)]) [0,1,2,3,6] (by (repeat (first|exact trivial|refine Au rfl rfl ?_|refine Cz (n0:=3) rfl rfl hg (by simp only [List.length_append,List.length_cons,List.length_nil];omega) ?_))) ?_ rfl rfl (by dsimp only;omega) ⟨by dsimp only;omega,hstep⟩
         dsimp only [Ck]
         simp only [List.length_append,List.length_cons,List.length_nil,Nat.zero_add]
         (repeat (first|exact trivial|refine DW (n0:=3) (by assumption) rfl (by omega) rfl ?_|refine A8 rfl rfl ?_|refine Bb rfl (by first|rfl|(dsimp only;rw [DX,List.map_append];rfl)) (by first|exact Bj _|exact By _) ?_))
       |cons n0 ns =>
        simp only [List.length_cons,List.length_nil] at hlen
        repeat' (
         conv=>whnf
         first
         |refine Ap (fun h=>?_) (fun h=>?_)
         |with_reducible refine Ao ?_
         |((with_reducible refine A0 ?_);refine A3 hmp ?_)
         |((with_reducible refine A0 ?_);refine A3 hpr ?_)
         |((with_reducible refine A0 ?_);refine A3 (Bg _ _ (by omega)) ?_)
         |((with_reducible apply A1 9);rfl)
         |((with_reducible apply A1 10);rfl)
         |((with_reducible apply ob);(exact oT))
         |refine BW ?_)
        all_goals (conv=>whnf)
        all_goals (first|exact Br (by unfold A9;simp;omega)|exact absurd (by assumption : ¬ _) (by omega)|skip)
        ·refine nx (k + 1,[],(n0 :: ns) ++ [(i + k,Tree.node kids)]) [0,1,2,3,7] (by (repeat (first|exact trivial|refine Au rfl rfl ?_|refine Cz (n0:=3) rfl rfl hg (by simp only [List.length_append,List.length_cons,List.length_nil];omega) ?_))) ?_ rfl rfl (by dsimp only;omega) ⟨by dsimp only;omega,hstep⟩
         dsimp only [Ck]
         simp only [List.length_append,List.length_cons,List.length_nil,Nat.zero_add]
         (repeat (first|exact trivial|refine DW (n0:=3) (by assumption) rfl (by omega) rfl ?_|refine A8 rfl rfl ?_|refine Bb rfl (by first|rfl|(dsimp only;rw [DX,List.map_append];rfl)) (by first|exact Bj _|exact By _) ?_))
      |cons y0 ys =>
       cases ns with
       |nil =>
        simp only [List.length_cons,List.length_nil] at hlen
        repeat' (
         conv=>whnf
         first
         |refine Ap (fun h=>?_) (fun h=>?_)
         |with_reducible refine Ao ?_
         |((with_reducible refine A0 ?_);refine A3 hmp ?_)
         |((with_reducible refine A0 ?_);refine A3 hpr ?_)
         |((with_reducible refine A0 ?_);refine A3 (Bg _ _ (by omega)) ?_)
         |((with_reducible apply A1 9);rfl)
         |((with_reducible apply A1 10);rfl)
         |((with_reducible apply ob);(exact oT))
         |refine BW ?_)
        all_goals (conv=>whnf)
        all_goals (first|exact Br (by unfold A9;simp;omega)|exact absurd (by assumption : ¬ _) (by omega)|skip)
        ·refine nx (k + 1,(y0 :: ys),[] ++ [(i + k,Tree.node kids)]) [0,1,2,3,4,7] (by (repeat (first|exact trivial|refine Au rfl rfl ?_|refine Cz (n0:=3) rfl rfl hg (by simp only [List.length_append,List.length_cons,List.length_nil];omega) ?_))) ?_ rfl rfl (by dsimp only;omega) ⟨by dsimp only;omega,hstep⟩
         dsimp only [Ck]
         simp only [List.length_append,List.length_cons,List.length_nil,Nat.zero_add]
         (repeat (first|exact trivial|refine DW (n0:=3) (by assumption) rfl (by omega) rfl ?_|refine A8 rfl rfl ?_|refine Bb rfl (by first|rfl|(dsimp only;rw [DX,List.map_append];rfl)) (by first|exact Bj _|exact By _) ?_))
       |cons n0 ns =>
        simp only [List.length_cons,List.length_nil] at hlen
        repeat' (
         conv=>whnf
         first
         |refine Ap (fun h=>?_) (fun h=>?_)
         |with_reducible refine Ao ?_
         |((with_reducible refine A0 ?_);refine A3 hmp ?_)
         |((with_reducible refine A0 ?_);refine A3 hpr ?_)
         |((with_reducible refine A0 ?_);refine A3 (Bg _ _ (by omega)) ?_)
         |((with_reducible apply A1 9);rfl)
         |((with_reducible apply A1 10);rfl)
         |((with_reducible apply ob);(exact oT))
         |refine BW ?_)
        all_goals (conv=>whnf)
        all_goals (first|exact Br (by unfold A9;simp;omega)|exact absurd (by assumption : ¬ _) (by omega)|skip)
        ·refine nx (k + 1,(y0 :: ys),(n0 :: ns) ++ [(i + k,Tree.node kids)]) [0,1,2,3,4,8] (by (repeat (first|exact trivial|refine Au rfl rfl ?_|refine Cz (n0:=3) rfl rfl hg (by simp only [List.length_append,List.length_cons,List.length_nil];omega) ?_))) ?_ rfl rfl (by dsimp only;omega) ⟨by dsimp only;omega,hstep⟩
         dsimp only [Ck]
         simp only [List.length_append,List.length_cons,List.length_nil,Nat.zero_add]
         (repeat (first|exact trivial|refine DW (n0:=3) (by assumption) rfl (by omega) rfl ?_|refine A8 rfl rfl ?_|refine Bb rfl (by first|rfl|(dsimp only;rw [DX,List.map_append];rfl)) (by first|exact Bj _|exact By _) ?_))
    ·have hiV : i < x.V:=by omega
     have hkV : k = x.V - i:=by omega
     have hY:=hyl i _ hj hiV
     rw [← hkV,hlv] at hY
     cases ys with
     |nil =>
      cases ns with
      |nil =>
       repeat' (
        conv=>whnf
        first
        |refine Ap (fun h=>?_) (fun h=>?_)
        |((with_reducible refine A0 ?_);refine A3 (Bg _ _ (by omega)) ?_)
        |((with_reducible apply A1 9);rfl)
        |refine BW ?_)
       all_goals (conv=>whnf)
       all_goals (first|exact absurd (by assumption : (_ : Int) < _) (by omega)|skip)
       refine Cr 3 (Hc:=[o0,o1,o2]) (Y:=Ck 3 [] []) (Y1:=[_]) hY (by simp;omega) (by simp) (.refl _) hin (.cons _ _ _ _ (.refl _) (.cons _ _ _ _ (.agg _ _ (.cons _ _ _ _ (.nils _) (.cons _ _ _ _ (.nils _) .nil)) rfl) .nil)) rfl ?_
       intro r H' σ O2 hs hσ hcase
       rcases hcase with ⟨rfl,hJ'⟩|⟨rfl,hQ'⟩
       ·repeat' (
         conv=>whnf
         first
         |with_reducible refine Ao ?_)
        all_goals (conv=>whnf)
        exact nx (i + 1,O2) σ (by have:=take_len hσ;have:=BZ hs;(repeat (first|exact trivial|refine Au rfl rfl ?_|refine Cz rfl hσ hg (by dsimp only;omega) ?_))) hs.sub hs.nd hσ (by dsimp only;omega) ⟨hJ',by dsimp only;omega⟩
       ·all_goals (conv=>whnf)
        exact Ac ⟨σ,O2,hs,hσ,rfl,hQ'⟩
      |cons n0 ns =>
       repeat' (
        conv=>whnf
        first
        |refine Ap (fun h=>?_) (fun h=>?_)
        |((with_reducible refine A0 ?_);refine A3 (Bg _ _ (by omega)) ?_)
        |((with_reducible apply A1 9);rfl)
        |refine BW ?_)
       all_goals (conv=>whnf)
       all_goals (first|exact absurd (by assumption : (_ : Int) < _) (by omega)|skip)
       refine Cr 3 (Hc:=[o0,o1,o2]) (Y:=Ck 3 [] (n0 :: ns)) (Y1:=[_,.frz (.agg [.leaf,.agg [.leaf]]) ((n0 :: ns).map EV)]) hY (by simp;omega) (by simp) (.step 4 (.agg [.leaf,.agg [.leaf]]) ((n0 :: ns).map EV) rfl (By _) (.refl _)) hin (.cons _ _ _ _ (.refl _) (.cons _ _ _ _ (.agg _ _ (.cons _ _ _ _ (.nils _) (.cons _ _ _ _ (Bi rfl (by simp)) .nil)) rfl) .nil)) rfl ?_
       intro r H' σ O2 hs hσ hcase
       rcases hcase with ⟨rfl,hJ'⟩|⟨rfl,hQ'⟩
       ·repeat' (
         conv=>whnf
         first
         |with_reducible refine Ao ?_)
        all_goals (conv=>whnf)
        exact nx (i + 1,O2) σ (by have:=take_len hσ;have:=BZ hs;(repeat (first|exact trivial|refine Au rfl rfl ?_|refine Cz rfl hσ hg (by dsimp only;omega) ?_))) hs.sub hs.nd hσ (by dsimp only;omega) ⟨hJ',by dsimp only;omega⟩
       ·all_goals (conv=>whnf)
        exact Ac ⟨σ,O2,hs,hσ,rfl,hQ'⟩
     |cons y0 ys =>
      cases ns with
      |nil =>
       repeat' (
        conv=>whnf
        first
        |refine Ap (fun h=>?_) (fun h=>?_)
        |((with_reducible refine A0 ?_);refine A3 (Bg _ _ (by omega)) ?_)
        |((with_reducible apply A1 9);rfl)
        |refine BW ?_)
       all_goals (conv=>whnf)
       all_goals (first|exact absurd (by assumption : (_ : Int) < _) (by omega)|skip)
       refine Cr 3 (Hc:=[o0,o1,o2]) (Y:=Ck 3 (y0 :: ys) []) (Y1:=[_,.frz (.agg [.leaf,.leaf]) ((y0 :: ys).map CY)]) hY (by simp;omega) (by simp) (.step 4 (.agg [.leaf,.leaf]) ((y0 :: ys).map CY) rfl (Bj _) (.refl _)) hin (.cons _ _ _ _ (.refl _) (.cons _ _ _ _ (.agg _ _ (.cons _ _ _ _ (Bi rfl (by simp)) (.cons _ _ _ _ (.nils _) .nil)) rfl) .nil)) rfl ?_
       intro r H' σ O2 hs hσ hcase
       rcases hcase with ⟨rfl,hJ'⟩|⟨rfl,hQ'⟩
       ·repeat' (
         conv=>whnf
         first
         |with_reducible refine Ao ?_)
        all_goals (conv=>whnf)
        exact nx (i + 1,O2) σ (by have:=take_len hσ;have:=BZ hs;(repeat (first|exact trivial|refine Au rfl rfl ?_|refine Cz rfl hσ hg (by dsimp only;omega) ?_))) hs.sub hs.nd hσ (by dsimp only;omega) ⟨hJ',by dsimp only;omega⟩
       ·all_goals (conv=>whnf)
        exact Ac ⟨σ,O2,hs,hσ,rfl,hQ'⟩
      |cons n0 ns =>
       repeat' (
        conv=>whnf
        first
        |refine Ap (fun h=>?_) (fun h=>?_)
        |((with_reducible refine A0 ?_);refine A3 (Bg _ _ (by omega)) ?_)
        |((with_reducible apply A1 9);rfl)
        |refine BW ?_)
       all_goals (conv=>whnf)
       all_goals (first|exact absurd (by assumption : (_ : Int) < _) (by omega)|skip)
       refine Cr 3 (Hc:=[o0,o1,o2]) (Y:=Ck 3 (y0 :: ys) (n0 :: ns)) (Y1:=[_,.frz (.agg [.leaf,.leaf]) ((y0 :: ys).map CY),.frz (.agg [.leaf,.agg [.leaf]]) ((n0 :: ns).map EV)]) hY (by simp;omega) (by simp) (.step 4 (.agg [.leaf,.leaf]) ((y0 :: ys).map CY) rfl (Bj _) (.step 5 (.agg [.leaf,.agg [.leaf]]) ((n0 :: ns).map EV) rfl (By _) (.refl _))) hin (.cons _ _ _ _ (.refl _) (.cons _ _ _ _ (.agg _ _ (.cons _ _ _ _ (Bi rfl (by simp)) (.cons _ _ _ _ (Bi rfl (by simp)) .nil)) rfl) .nil)) rfl ?_
       intro r H' σ O2 hs hσ hcase
       rcases hcase with ⟨rfl,hJ'⟩|⟨rfl,hQ'⟩
       ·repeat' (
         conv=>whnf
         first
         |with_reducible refine Ao ?_)
        all_goals (conv=>whnf)
        exact nx (i + 1,O2) σ (by have:=take_len hσ;have:=BZ hs;(repeat (first|exact trivial|refine Au rfl rfl ?_|refine Cz rfl hσ hg (by dsimp only;omega) ?_))) hs.sub hs.nd hσ (by dsimp only;omega) ⟨hJ',by dsimp only;omega⟩
       ·all_goals (conv=>whnf)
        exact Ac ⟨σ,O2,hs,hσ,rfl,hQ'⟩
   ·have hiV : i = x.V:=by omega
    subst hiV
    exact Ac ⟨List.range 3,[o0,o1,o2],⟨by have:=DD [o0,o1,o2] [] hin;simpa using this,Ce _,by simp⟩,rfl,rfl,hend _ hj⟩
  ·have hi0 : As 4 o0 = true:=hin _ (by simp)
   have hi1 : As 4 o1 = true:=hin _ (by simp)
   have hi2 : As 4 o2 = true:=hin _ (by simp)
   have hi3 : As 4 o3 = true:=hin _ (by simp)
   repeat' (
    conv=>whnf
    first
    |refine Ap (fun h=>?_) (fun h=>?_))
   all_goals (conv=>whnf)
   ·refine Bt (X:=Nat × List (Nat × List Int) × List (Nat × Tree)) (fun y=>[(0,.yld g),(1,.ref (.agg [.leaf,.leaf]) x.D),(3,iD i),(4,.ptr 4 []),(5,iD (i + y.1)),(11,iD x.V),(12,iD i)]) (fun y=>[o0,o1,o2,o3] ++ Ck 4 y.2.1 y.2.2) (fun y=>i + y.1 ≤ x.V ∧ Cm x i y.1 = (y.2.1,y.2.2)) (fun y=>x.V - i - y.1) ⟨_,A4 (0,[],[]) Bn rfl (Nat.lt_succ_self _) ⟨by dsimp only;omega,rfl⟩⟩ ?_
    rintro ⟨k,ys,ns⟩ ⟨hk,hlv⟩
    dsimp only at hk hlv ⊢
    have hlen:=Hf x i k
    rw [hlv] at hlen
    dsimp only at hlen
    rcases Nat.lt_or_ge (i + k) x.V with hlt|hge
    ·have hd:=hdp i (i + k) (by omega) hlt
     have hpl:=Ff i (i + k)
     have hmp:=Tr x x (Az i (i + k)) hx hx hx7 hx7 (NI _ _) hd (by omega)
     have hpr:=NH x x (Az i (i + k)) hx hx hx7 hx7 hd (by omega)
     obtain ⟨ec,hec⟩:=NQ x x (Az i (i + k))
     rw [hec] at hpr
     cases hm : Dz x x (Az i (i + k)) with
     |some m =>
      rw [hm] at hmp
      have hstep : Cm x i (k + 1) = (ys ++ [(i + k,m)],ns):=by rw [Cm,hm,hlv]
      cases ys with
      |nil =>
       cases ns with
       |nil =>
        simp only [List.length_cons,List.length_nil] at hlen
        repeat' (
         conv=>whnf
         first
         |refine Ap (fun h=>?_) (fun h=>?_)
         |with_reducible refine Ao ?_
         |((with_reducible refine A0 ?_);refine A3 hmp ?_)
         |((with_reducible refine A0 ?_);refine A3 (Bg _ _ (by omega)) ?_)
         |((with_reducible apply A1 9);rfl)
         |((with_reducible apply ob);(exact oT))
         |refine BW ?_)
        all_goals (conv=>whnf)
        all_goals (first|exact Br (by unfold A9;simp;omega)|exact absurd (by assumption : ¬ _) (by omega)|skip)
        ·refine nx (k + 1,[] ++ [(i + k,m)],[]) [0,1,2,3,4,6] (by (repeat (first|exact trivial|refine Au rfl rfl ?_|refine Cz (n0:=3) rfl rfl hg (by simp only [List.length_append,List.length_cons,List.length_nil];omega) ?_))) ?_ rfl rfl (by dsimp only;omega) ⟨by dsimp only;omega,hstep⟩
         dsimp only [Ck]
         simp only [List.length_append,List.length_cons,List.length_nil,Nat.zero_add]
         (repeat (first|exact trivial|refine DW (n0:=4) (by assumption) rfl (by omega) rfl ?_|refine A8 rfl rfl ?_|refine Bb rfl (by first|rfl|(dsimp only;rw [DX,List.map_append];rfl)) (by first|exact Bj _|exact By _) ?_))
       |cons n0 ns =>
        simp only [List.length_cons,List.length_nil] at hlen
        repeat' (
         conv=>whnf
         first
         |refine Ap (fun h=>?_) (fun h=>?_)
         |with_reducible refine Ao ?_
         |((with_reducible refine A0 ?_);refine A3 hmp ?_)
         |((with_reducible refine A0 ?_);refine A3 (Bg _ _ (by omega)) ?_)
         |((with_reducible apply A1 9);rfl)
         |((with_reducible apply ob);(exact oT))
         |refine BW ?_)
        all_goals (conv=>whnf)
        all_goals (first|exact Br (by unfold A9;simp;omega)|exact absurd (by assumption : ¬ _) (by omega)|skip)
        ·refine nx (k + 1,[] ++ [(i + k,m)],(n0 :: ns)) [0,1,2,3,4,7,5] (by (repeat (first|exact trivial|refine Au rfl rfl ?_|refine Cz (n0:=3) rfl rfl hg (by simp only [List.length_append,List.length_cons,List.length_nil];omega) ?_))) ?_ rfl rfl (by dsimp only;omega) ⟨by dsimp only;omega,hstep⟩
         dsimp only [Ck]
         simp only [List.length_append,List.length_cons,List.length_nil,Nat.zero_add]
         (repeat (first|exact trivial|refine DW (n0:=4) (by assumption) rfl (by omega) rfl ?_|refine A8 rfl rfl ?_|refine Bb rfl (by first|rfl|(dsimp only;rw [DX,List.map_append];rfl)) (by first|exact Bj _|exact By _) ?_))
      |cons y0 ys =>
       cases ns with
       |nil =>
        simp only [List.length_cons,List.length_nil] at hlen
        repeat' (
         conv=>whnf
         first
         |refine Ap (fun h=>?_) (fun h=>?_)
         |with_reducible refine Ao ?_
         |((with_reducible refine A0 ?_);refine A3 hmp ?_)
         |((with_reducible refine A0 ?_);refine A3 (Bg _ _ (by omega)) ?_)
         |((with_reducible apply A1 9);rfl)
         |((with_reducible apply ob);(exact oT))
         |refine BW ?_)
        all_goals (conv=>whnf)
        all_goals (first|exact Br (by unfold A9;simp;omega)|exact absurd (by assumption : ¬ _) (by omega)|skip)
        ·refine nx (k + 1,(y0 :: ys) ++ [(i + k,m)],[]) [0,1,2,3,4,7] (by (repeat (first|exact trivial|refine Au rfl rfl ?_|refine Cz (n0:=3) rfl rfl hg (by simp only [List.length_append,List.length_cons,List.length_nil];omega) ?_))) ?_ rfl rfl (by dsimp only;omega) ⟨by dsimp only;omega,hstep⟩
         dsimp only [Ck]
         simp only [List.length_append,List.length_cons,List.length_nil,Nat.zero_add]
         (repeat (first|exact trivial|refine DW (n0:=4) (by assumption) rfl (by omega) rfl ?_|refine A8 rfl rfl ?_|refine Bb rfl (by first|rfl|(dsimp only;rw [DX,List.map_append];rfl)) (by first|exact Bj _|exact By _) ?_))
       |cons n0 ns =>
        simp only [List.length_cons,List.length_nil] at hlen
        repeat' (
         conv=>whnf
         first
         |refine Ap (fun h=>?_) (fun h=>?_)
         |with_reducible refine Ao ?_
         |((with_reducible refine A0 ?_);refine A3 hmp ?_)
         |((with_reducible refine A0 ?_);refine A3 (Bg _ _ (by omega)) ?_)
         |((with_reducible apply A1 9);rfl)
         |((with_reducible apply ob);(exact oT))
         |refine BW ?_)
        all_goals (conv=>whnf)
        all_goals (first|exact Br (by unfold A9;simp;omega)|exact absurd (by assumption : ¬ _) (by omega)|skip)
        ·refine nx (k + 1,(y0 :: ys) ++ [(i + k,m)],(n0 :: ns)) [0,1,2,3,4,8,6] (by (repeat (first|exact trivial|refine Au rfl rfl ?_|refine Cz (n0:=3) rfl rfl hg (by simp only [List.length_append,List.length_cons,List.length_nil];omega) ?_))) ?_ rfl rfl (by dsimp only;omega) ⟨by dsimp only;omega,hstep⟩
         dsimp only [Ck]
         simp only [List.length_append,List.length_cons,List.length_nil,Nat.zero_add]
         (repeat (first|exact trivial|refine DW (n0:=4) (by assumption) rfl (by omega) rfl ?_|refine A8 rfl rfl ?_|refine Bb rfl (by first|rfl|(dsimp only;rw [DX,List.map_append];rfl)) (by first|exact Bj _|exact By _) ?_))
     |none =>
      rw [hm] at hmp
      have hstep : Cm x i (k + 1) = (ys,ns ++ [(i + k,Fq x x (Az i (i + k)))]):=by rw [Cm,hm,hlv]
      cases hT : Fq x x (Az i (i + k)) with
      |node kids =>
      rw [hT] at hpr hstep
      cases ys with
      |nil =>
       cases ns with
       |nil =>
        simp only [List.length_cons,List.length_nil] at hlen
        repeat' (
         conv=>whnf
         first
         |refine Ap (fun h=>?_) (fun h=>?_)
         |with_reducible refine Ao ?_
         |((with_reducible refine A0 ?_);refine A3 hmp ?_)
         |((with_reducible refine A0 ?_);refine A3 hpr ?_)
         |((with_reducible refine A0 ?_);refine A3 (Bg _ _ (by omega)) ?_)
         |((with_reducible apply A1 9);rfl)
         |((with_reducible apply A1 10);rfl)
         |((with_reducible apply ob);(exact oT))
         |refine BW ?_)
        all_goals (conv=>whnf)
        all_goals (first|exact Br (by unfold A9;simp;omega)|exact absurd (by assumption : ¬ _) (by omega)|skip)
        ·refine nx (k + 1,[],[] ++ [(i + k,Tree.node kids)]) [0,1,2,3,4,7] (by (repeat (first|exact trivial|refine Au rfl rfl ?_|refine Cz (n0:=3) rfl rfl hg (by simp only [List.length_append,List.length_cons,List.length_nil];omega) ?_))) ?_ rfl rfl (by dsimp only;omega) ⟨by dsimp only;omega,hstep⟩
         dsimp only [Ck]
         simp only [List.length_append,List.length_cons,List.length_nil,Nat.zero_add]
         (repeat (first|exact trivial|refine DW (n0:=4) (by assumption) rfl (by omega) rfl ?_|refine A8 rfl rfl ?_|refine Bb rfl (by first|rfl|(dsimp only;rw [DX,List.map_append];rfl)) (by first|exact Bj _|exact By _) ?_))
       |cons n0 ns =>
        simp only [List.length_cons,List.length_nil] at hlen
        repeat' (
         conv=>whnf
         first
         |refine Ap (fun h=>?_) (fun h=>?_)
         |with_reducible refine Ao ?_
         |((with_reducible refine A0 ?_);refine A3 hmp ?_)
         |((with_reducible refine A0 ?_);refine A3 hpr ?_)
         |((with_reducible refine A0 ?_);refine A3 (Bg _ _ (by omega)) ?_)
         |((with_reducible apply A1 9);rfl)
         |((with_reducible apply A1 10);rfl)
         |((with_reducible apply ob);(exact oT))
         |refine BW ?_)
        all_goals (conv=>whnf)
        all_goals (first|exact Br (by unfold A9;simp;omega)|exact absurd (by assumption : ¬ _) (by omega)|skip)
        ·refine nx (k + 1,[],(n0 :: ns) ++ [(i + k,Tree.node kids)]) [0,1,2,3,4,8] (by (repeat (first|exact trivial|refine Au rfl rfl ?_|refine Cz (n0:=3) rfl rfl hg (by simp only [List.length_append,List.length_cons,List.length_nil];omega) ?_))) ?_ rfl rfl (by dsimp only;omega) ⟨by dsimp only;omega,hstep⟩
         dsimp only [Ck]
         simp only [List.length_append,List.length_cons,List.length_nil,Nat.zero_add]
         (repeat (first|exact trivial|refine DW (n0:=4) (by assumption) rfl (by omega) rfl ?_|refine A8 rfl rfl ?_|refine Bb rfl (by first|rfl|(dsimp only;rw [DX,List.map_append];rfl)) (by first|exact Bj _|exact By _) ?_))
      |cons y0 ys =>
       cases ns with
       |nil =>
        simp only [List.length_cons,List.length_nil] at hlen
        repeat' (
         conv=>whnf
         first
         |refine Ap (fun h=>?_) (fun h=>?_)
         |with_reducible refine Ao ?_
         |((with_reducible refine A0 ?_);refine A3 hmp ?_)
         |((with_reducible refine A0 ?_);refine A3 hpr ?_)
         |((with_reducible refine A0 ?_);refine A3 (Bg _ _ (by omega)) ?_)
         |((with_reducible apply A1 9);rfl)
         |((with_reducible apply A1 10);rfl)
         |((with_reducible apply ob);(exact oT))
         |refine BW ?_)
        all_goals (conv=>whnf)
        all_goals (first|exact Br (by unfold A9;simp;omega)|exact absurd (by assumption : ¬ _) (by omega)|skip)
        ·refine nx (k + 1,(y0 :: ys),[] ++ [(i + k,Tree.node kids)]) [0,1,2,3,4,5,8] (by (repeat (first|exact trivial|refine Au rfl rfl ?_|refine Cz (n0:=3) rfl rfl hg (by simp only [List.length_append,List.length_cons,List.length_nil];omega) ?_))) ?_ rfl rfl (by dsimp only;omega) ⟨by dsimp only;omega,hstep⟩
         dsimp only [Ck]
         simp only [List.length_append,List.length_cons,List.length_nil,Nat.zero_add]
         (repeat (first|exact trivial|refine DW (n0:=4) (by assumption) rfl (by omega) rfl ?_|refine A8 rfl rfl ?_|refine Bb rfl (by first|rfl|(dsimp only;rw [DX,List.map_append];rfl)) (by first|exact Bj _|exact By _) ?_))
       |cons n0 ns =>
        simp only [List.length_cons,List.length_nil] at hlen
        repeat' (
         conv=>whnf
         first
         |refine Ap (fun h=>?_) (fun h=>?_)
         |with_reducible refine Ao ?_
         |((with_reducible refine A0 ?_);refine A3 hmp ?_)
         |((with_reducible refine A0 ?_);refine A3 hpr ?_)
         |((with_reducible refine A0 ?_);refine A3 (Bg _ _ (by omega)) ?_)
         |((with_reducible apply A1 9);rfl)
         |((with_reducible apply A1 10);rfl)
         |((with_reducible apply ob);(exact oT))
         |refine BW ?_)
        all_goals (conv=>whnf)
        all_goals (first|exact Br (by unfold A9;simp;omega)|exact absurd (by assumption : ¬ _) (by omega)|skip)
        ·refine nx (k + 1,(y0 :: ys),(n0 :: ns) ++ [(i + k,Tree.node kids)]) [0,1,2,3,4,5,9] (by (repeat (first|exact trivial|refine Au rfl rfl ?_|refine Cz (n0:=3) rfl rfl hg (by simp only [List.length_append,List.length_cons,List.length_nil];omega) ?_))) ?_ rfl rfl (by dsimp only;omega) ⟨by dsimp only;omega,hstep⟩
         dsimp only [Ck]
         simp only [List.length_append,List.length_cons,List.length_nil,Nat.zero_add]
         (repeat (first|exact trivial|refine DW (n0:=4) (by assumption) rfl (by omega) rfl ?_|refine A8 rfl rfl ?_|refine Bb rfl (by first|rfl|(dsimp only;rw [DX,List.map_append];rfl)) (by first|exact Bj _|exact By _) ?_))
    ·have hiV : i < x.V:=by omega
     have hkV : k = x.V - i:=by omega
     have hY:=hyl i _ hj hiV
     rw [← hkV,hlv] at hY
     cases ys with
     |nil =>
      cases ns with
      |nil =>
       repeat' (
        conv=>whnf
        first
        |refine Ap (fun h=>?_) (fun h=>?_)
        |((with_reducible refine A0 ?_);refine A3 (Bg _ _ (by omega)) ?_)
        |((with_reducible apply A1 9);rfl)
        |refine BW ?_)
       all_goals (conv=>whnf)
       all_goals (first|exact absurd (by assumption : (_ : Int) < _) (by omega)|skip)
       refine Cr 3 (Hc:=[o0,o1,o2,o3]) (Y:=Ck 4 [] []) (Y1:=[_]) hY (by simp;omega) (by simp) (.refl _) hin (.cons _ _ _ _ (.refl _) (.cons _ _ _ _ (.agg _ _ (.cons _ _ _ _ (.nils _) (.cons _ _ _ _ (.nils _) .nil)) rfl) .nil)) rfl ?_
       intro r H' σ O2 hs hσ hcase
       rcases hcase with ⟨rfl,hJ'⟩|⟨rfl,hQ'⟩
       ·repeat' (
         conv=>whnf
         first
         |with_reducible refine Ao ?_)
        all_goals (conv=>whnf)
        exact nx (i + 1,O2) σ (by have:=take_len hσ;have:=BZ hs;(repeat (first|exact trivial|refine Au rfl rfl ?_|refine Cz rfl hσ hg (by dsimp only;omega) ?_))) hs.sub hs.nd hσ (by dsimp only;omega) ⟨hJ',by dsimp only;omega⟩
       ·all_goals (conv=>whnf)
        exact Ac ⟨σ,O2,hs,hσ,rfl,hQ'⟩
      |cons n0 ns =>
       repeat' (
        conv=>whnf
        first
        |refine Ap (fun h=>?_) (fun h=>?_)
        |((with_reducible refine A0 ?_);refine A3 (Bg _ _ (by omega)) ?_)
        |((with_reducible apply A1 9);rfl)
        |refine BW ?_)
       all_goals (conv=>whnf)
       all_goals (first|exact absurd (by assumption : (_ : Int) < _) (by omega)|skip)
       refine Cr 3 (Hc:=[o0,o1,o2,o3]) (Y:=Ck 4 [] (n0 :: ns)) (Y1:=[_,.frz (.agg [.leaf,.agg [.leaf]]) ((n0 :: ns).map EV)]) hY (by simp;omega) (by simp) (.step 5 (.agg [.leaf,.agg [.leaf]]) ((n0 :: ns).map EV) rfl (By _) (.refl _)) hin (.cons _ _ _ _ (.refl _) (.cons _ _ _ _ (.agg _ _ (.cons _ _ _ _ (.nils _) (.cons _ _ _ _ (Bi rfl (by simp)) .nil)) rfl) .nil)) rfl ?_
       intro r H' σ O2 hs hσ hcase
       rcases hcase with ⟨rfl,hJ'⟩|⟨rfl,hQ'⟩
       ·repeat' (
         conv=>whnf
         first
         |with_reducible refine Ao ?_)
        all_goals (conv=>whnf)
        exact nx (i + 1,O2) σ (by have:=take_len hσ;have:=BZ hs;(repeat (first|exact trivial|refine Au rfl rfl ?_|refine Cz rfl hσ hg (by dsimp only;omega) ?_))) hs.sub hs.nd hσ (by dsimp only;omega) ⟨hJ',by dsimp only;omega⟩
       ·all_goals (conv=>whnf)
        exact Ac ⟨σ,O2,hs,hσ,rfl,hQ'⟩
     |cons y0 ys =>
      cases ns with
      |nil =>
       repeat' (
        conv=>whnf
        first
        |refine Ap (fun h=>?_) (fun h=>?_)
        |((with_reducible refine A0 ?_);refine A3 (Bg _ _ (by omega)) ?_)
        |((with_reducible apply A1 9);rfl)
        |refine BW ?_)
       all_goals (conv=>whnf)
       all_goals (first|exact absurd (by assumption : (_ : Int) < _) (by omega)|skip)
       refine Cr 3 (Hc:=[o0,o1,o2,o3]) (Y:=Ck 4 (y0 :: ys) []) (Y1:=[_,.frz (.agg [.leaf,.leaf]) ((y0 :: ys).map CY)]) hY (by simp;omega) (by simp) (.step 5 (.agg [.leaf,.leaf]) ((y0 :: ys).map CY) rfl (Bj _) (.refl _)) hin (.cons _ _ _ _ (.refl _) (.cons _ _ _ _ (.agg _ _ (.cons _ _ _ _ (Bi rfl (by simp)) (.cons _ _ _ _ (.nils _) .nil)) rfl) .nil)) rfl ?_
       intro r H' σ O2 hs hσ hcase
       rcases hcase with ⟨rfl,hJ'⟩|⟨rfl,hQ'⟩
       ·repeat' (
         conv=>whnf
         first
         |with_reducible refine Ao ?_)
        all_goals (conv=>whnf)
        exact nx (i + 1,O2) σ (by have:=take_len hσ;have:=BZ hs;(repeat (first|exact trivial|refine Au rfl rfl ?_|refine Cz rfl hσ hg (by dsimp only;omega) ?_))) hs.sub hs.nd hσ (by dsimp only;omega) ⟨hJ',by dsimp only;omega⟩
       ·all_goals (conv=>whnf)
        exact Ac ⟨σ,O2,hs,hσ,rfl,hQ'⟩
      |cons n0 ns =>
       repeat' (
        conv=>whnf
        first
        |refine Ap (fun h=>?_) (fun h=>?_)
        |((with_reducible refine A0 ?_);refine A3 (Bg _ _ (by omega)) ?_)
        |((with_reducible apply A1 9);rfl)
        |refine BW ?_)
       all_goals (conv=>whnf)
       all_goals (first|exact absurd (by assumption : (_ : Int) < _) (by omega)|skip)
       refine Cr 3 (Hc:=[o0,o1,o2,o3]) (Y:=Ck 4 (y0 :: ys) (n0 :: ns)) (Y1:=[_,.frz (.agg [.leaf,.leaf]) ((y0 :: ys).map CY),.frz (.agg [.leaf,.agg [.leaf]]) ((n0 :: ns).map EV)]) hY (by simp;omega) (by simp) (.step 5 (.agg [.leaf,.leaf]) ((y0 :: ys).map CY) rfl (Bj _) (.step 6 (.agg [.leaf,.agg [.leaf]]) ((n0 :: ns).map EV) rfl (By _) (.refl _))) hin (.cons _ _ _ _ (.refl _) (.cons _ _ _ _ (.agg _ _ (.cons _ _ _ _ (Bi rfl (by simp)) (.cons _ _ _ _ (Bi rfl (by simp)) .nil)) rfl) .nil)) rfl ?_
       intro r H' σ O2 hs hσ hcase
       rcases hcase with ⟨rfl,hJ'⟩|⟨rfl,hQ'⟩
       ·repeat' (
         conv=>whnf
         first
         |with_reducible refine Ao ?_)
        all_goals (conv=>whnf)
        exact nx (i + 1,O2) σ (by have:=take_len hσ;have:=BZ hs;(repeat (first|exact trivial|refine Au rfl rfl ?_|refine Cz rfl hσ hg (by dsimp only;omega) ?_))) hs.sub hs.nd hσ (by dsimp only;omega) ⟨hJ',by dsimp only;omega⟩
       ·all_goals (conv=>whnf)
        exact Ac ⟨σ,O2,hs,hσ,rfl,hQ'⟩
   ·have hiV : i = x.V:=by omega
    subst hiV
    exact Ac ⟨List.range 4,[o0,o1,o2,o3],⟨by have:=DD [o0,o1,o2,o3] [] hin;simpa using this,Ce _,by simp⟩,rfl,rfl,hend _ hj⟩
 ·intro r H' hq
  obtain ⟨σ,O2,hs,hσ,rfl,hq⟩:=A2 hq
  refine ⟨H',O2,σ,.tuple [],.refl _,hs.sub,hs.nd,by have:=take_len hσ;have:=BZ hs;simp;omega,fun i hi=>.inl (He hσ hi),rfl,.refl _,hq⟩
theorem Wx (
         x : Inc) (hx : x.Ok) (hx7 : x.V ≤ 7) (g : Nat) (hg : g < 4) (J : Nat → List Ob → Prop) (Q : D → List Ob → Prop)
  (hdp : ∀ i j,i ≤ j → j < x.V → CH (Az i j) x.V)
  (hJ : ∀ k H,J k H → ((∃ o0 o1 o2 o3,H = [o0,o1,o2,o3]) ∨ (∃ o0 o1 o2 o3 o4,H = [o0,o1,o2,o3,o4])) ∧ ∀ o ∈ H,As H.length o = true)
  (hyl : ∀ k H,J k H → k < x.V → YC Tryz.prog g [iD k,Lg (Cm x k (x.V - k))] H (fun r H'=>Bz (Bu r = true ∧ ∃ σ O2,Sits H' σ O2 ∧ σ.take 4 = List.range 4 ∧ ((r = .bool true ∧ J (k + 1) O2) ∨ (r = .bool false ∧ Q (.tuple []) O2)))))
  (hend : ∀ H,J x.V H → Q (.tuple []) H) (H0 : List Ob) (hH0 : ∃ o0 o1 o2 o3,H0 = [o0,o1,o2,o3]) (h0 : J 0 H0) :
  HC Tryz.prog 74 [.yld g,.ref (.agg [.leaf,.leaf]) x.D] H0 Q:=by
 obtain ⟨o0,o1,o2,o3,rfl⟩:=hH0
 have hv:=hx.v
 refine HC.move (Q0:=fun r H'=>Bz (∃ σ O2,Sits H' σ O2 ∧ σ.take 4 = List.range 4 ∧ r = .tuple [] ∧ Q r O2)) ?_ ?_
 ·refine Ai (okc Tryz.f74.ntmps 4) (fn:=Tryz.f74) (cd:=_) rfl rfl rfl rfl rfl rfl (fun hbd=>?_)
  all_goals (conv=>whnf)
  refine Bt (X:=Nat × List Ob) (fun y=>[(0,.yld g),(1,.ref (.agg [.leaf,.leaf]) x.D),(11,iD x.V),(12,iD y.1)]) (fun y=>y.2) (fun y=>J y.1 y.2 ∧ y.1 ≤ x.V) (fun y=>x.V - y.1) ⟨_,A4 (0,[o0,o1,o2,o3]) Bn rfl (Nat.lt_succ_self _) ⟨h0,Nat.zero_le _⟩⟩ ?_
  rintro ⟨i,Hc⟩ ⟨hj,hi⟩
  dsimp only at hj hi ⊢
  clear h0
  obtain ⟨hcs,hin⟩:=hJ _ _ hj
  rcases hcs with ⟨o0,o1,o2,o3,rfl⟩|⟨o0,o1,o2,o3,o4,rfl⟩
  ·have hi0 : As 4 o0 = true:=hin _ (by simp)
   have hi1 : As 4 o1 = true:=hin _ (by simp)
   have hi2 : As 4 o2 = true:=hin _ (by simp)
   have hi3 : As 4 o3 = true:=hin _ (by simp)
   repeat' (
    conv=>whnf
    first
    |refine Ap (fun h=>?_) (fun h=>?_))
   all_goals (conv=>whnf)
   ·refine Bt (X:=Nat × List (Nat × List Int) × List (Nat × Tree)) (fun y=>[(0,.yld g),(1,.ref (.agg [.leaf,.leaf]) x.D),(3,iD i),(4,.ptr 4 []),(5,iD (i + y.1)),(11,iD x.V),(12,iD i)]) (fun y=>[o0,o1,o2,o3] ++ Ck 4 y.2.1 y.2.2) (fun y=>i + y.1 ≤ x.V ∧ Cm x i y.1 = (y.2.1,y.2.2)) (fun y=>x.V - i - y.1) ⟨_,A4 (0,[],[]) Bn rfl (Nat.lt_succ_self _) ⟨by dsimp only;omega,rfl⟩⟩ ?_
    rintro ⟨k,ys,ns⟩ ⟨hk,hlv⟩
    dsimp only at hk hlv ⊢
    have hlen:=Hf x i k
    rw [hlv] at hlen
    dsimp only at hlen
    rcases Nat.lt_or_ge (i + k) x.V with hlt|hge
    ·have hd:=hdp i (i + k) (by omega) hlt
     have hpl:=Ff i (i + k)
     have hmp:=Tr x x (Az i (i + k)) hx hx hx7 hx7 (NI _ _) hd (by omega)
     have hpr:=NH x x (Az i (i + k)) hx hx hx7 hx7 hd (by omega)
     obtain ⟨ec,hec⟩:=NQ x x (Az i (i + k))
     rw [hec] at hpr
     cases hm : Dz x x (Az i (i + k)) with
     |some m =>
      rw [hm] at hmp
      have hstep : Cm x i (k + 1) = (ys ++ [(i + k,m)],ns):=by rw [Cm,hm,hlv]
      cases ys with
      |nil =>
       cases ns with
       |nil =>
        simp only [List.length_cons,List.length_nil] at hlen
        repeat' (
         conv=>whnf
         first
         |refine Ap (fun h=>?_) (fun h=>?_)
         |with_reducible refine Ao ?_
         |((with_reducible refine A0 ?_);refine A3 hmp ?_)
         |((with_reducible refine A0 ?_);refine A3 (Bg _ _ (by omega)) ?_)
         |((with_reducible apply A1 9);rfl)
         |((with_reducible apply ob);(exact oT))
         |refine BW ?_)
        all_goals (conv=>whnf)
        all_goals (first|exact Br (by unfold A9;simp;omega)|exact absurd (by assumption : ¬ _) (by omega)|skip)
        ·refine nx (k + 1,[] ++ [(i + k,m)],[]) [0,1,2,3,4,6] (by (repeat (first|exact trivial|refine Au rfl rfl ?_|refine Cz (n0:=4) rfl rfl hg (by simp only [List.length_append,List.length_cons,List.length_nil];omega) ?_))) ?_ rfl rfl (by dsimp only;omega) ⟨by dsimp only;omega,hstep⟩
         dsimp only [Ck]
         simp only [List.length_append,List.length_cons,List.length_nil,Nat.zero_add]
         (repeat (first|exact trivial|refine DW (n0:=4) (by assumption) rfl (by omega) rfl ?_|refine A8 rfl rfl ?_|refine Bb rfl (by first|rfl|(dsimp only;rw [DX,List.map_append];rfl)) (by first|exact Bj _|exact By _) ?_))
       |cons n0 ns =>
        simp only [List.length_cons,List.length_nil] at hlen
        repeat' (
         conv=>whnf
         first
         |refine Ap (fun h=>?_) (fun h=>?_)
         |with_reducible refine Ao ?_
         |((with_reducible refine A0 ?_);refine A3 hmp ?_)
         |((with_reducible refine A0 ?_);refine A3 (Bg _ _ (by omega)) ?_)
         |((with_reducible apply A1 9);rfl)
         |((with_reducible apply ob);(exact oT))
         |refine BW ?_)
        all_goals (conv=>whnf)
        all_goals (first|exact Br (by unfold A9;simp;omega)|exact absurd (by assumption : ¬ _) (by omega)|skip)
        ·refine nx (k + 1,[] ++ [(i + k,m)],(n0 :: ns)) [0,1,2,3,4,7,5] (by (repeat (first|exact trivial|refine Au rfl rfl ?_|refine Cz (n0:=4) rfl rfl hg (by simp only [List.length_append,List.length_cons,List.length_nil];omega) ?_))) ?_ rfl rfl (by dsimp only;omega) ⟨by dsimp only;omega,hstep⟩
         dsimp only [Ck]
         simp only [List.length_append,List.length_cons,List.length_nil,Nat.zero_add]
         (repeat (first|exact trivial|refine DW (n0:=4) (by assumption) rfl (by omega) rfl ?_|refine A8 rfl rfl ?_|refine Bb rfl (by first|rfl|(dsimp only;rw [DX,List.map_append];rfl)) (by first|exact Bj _|exact By _) ?_))
      |cons y0 ys =>
       cases ns with
       |nil =>
        simp only [List.length_cons,List.length_nil] at hlen
        repeat' (
         conv=>whnf
         first
         |refine Ap (fun h=>?_) (fun h=>?_)
         |with_reducible refine Ao ?_
         |((with_reducible refine A0 ?_);refine A3 hmp ?_)
         |((with_reducible refine A0 ?_);refine A3 (Bg _ _ (by omega)) ?_)
         |((with_reducible apply A1 9);rfl)
         |((with_reducible apply ob);(exact oT))
         |refine BW ?_)
        all_goals (conv=>whnf)
        all_goals (first|exact Br (by unfold A9;simp;omega)|exact absurd (by assumption : ¬ _) (by omega)|skip)
        ·refine nx (k + 1,(y0 :: ys) ++ [(i + k,m)],[]) [0,1,2,3,4,7] (by (repeat (first|exact trivial|refine Au rfl rfl ?_|refine Cz (n0:=4) rfl rfl hg (by simp only [List.length_append,List.length_cons,List.length_nil];omega) ?_))) ?_ rfl rfl (by dsimp only;omega) ⟨by dsimp only;omega,hstep⟩
         dsimp only [Ck]
         simp only [List.length_append,List.length_cons,List.length_nil,Nat.zero_add]
         (repeat (first|exact trivial|refine DW (n0:=4) (by assumption) rfl (by omega) rfl ?_|refine A8 rfl rfl ?_|refine Bb rfl (by first|rfl|(dsimp only;rw [DX,List.map_append];rfl)) (by first|exact Bj _|exact By _) ?_))
       |cons n0 ns =>
        simp only [List.length_cons,List.length_nil] at hlen
        repeat' (
         conv=>whnf
         first
         |refine Ap (fun h=>?_) (fun h=>?_)
         |with_reducible refine Ao ?_
         |((with_reducible refine A0 ?_);refine A3 hmp ?_)
         |((with_reducible refine A0 ?_);refine A3 (Bg _ _ (by omega)) ?_)
         |((with_reducible apply A1 9);rfl)
         |((with_reducible apply ob);(exact oT))
         |refine BW ?_)
        all_goals (conv=>whnf)
        all_goals (first|exact Br (by unfold A9;simp;omega)|exact absurd (by assumption : ¬ _) (by omega)|skip)
        ·refine nx (k + 1,(y0 :: ys) ++ [(i + k,m)],(n0 :: ns)) [0,1,2,3,4,8,6] (by (repeat (first|exact trivial|refine Au rfl rfl ?_|refine Cz (n0:=4) rfl rfl hg (by simp only [List.length_append,List.length_cons,List.length_nil];omega) ?_))) ?_ rfl rfl (by dsimp only;omega) ⟨by dsimp only;omega,hstep⟩
         dsimp only [Ck]
         simp only [List.length_append,List.length_cons,List.length_nil,Nat.zero_add]
         (repeat (first|exact trivial|refine DW (n0:=4) (by assumption) rfl (by omega) rfl ?_|refine A8 rfl rfl ?_|refine Bb rfl (by first|rfl|(dsimp only;rw [DX,List.map_append];rfl)) (by first|exact Bj _|exact By _) ?_))
     |none =>
      rw [hm] at hmp
      have hstep : Cm x i (k + 1) = (ys,ns ++ [(i + k,Fq x x (Az i (i + k)))]):=by rw [Cm,hm,hlv]
      cases hT : Fq x x (Az i (i + k)) with
      |node kids =>
      rw [hT] at hpr hstep
      cases ys with
      |nil =>
       cases ns with
       |nil =>
        simp only [List.length_cons,List.length_nil] at hlen
        repeat' (
         conv=>whnf
         first
         |refine Ap (fun h=>?_) (fun h=>?_)
         |with_reducible refine Ao ?_
         |((with_reducible refine A0 ?_);refine A3 hmp ?_)
         |((with_reducible refine A0 ?_);refine A3 hpr ?_)
         |((with_reducible refine A0 ?_);refine A3 (Bg _ _ (by omega)) ?_)
         |((with_reducible apply A1 9);rfl)
         |((with_reducible apply A1 10);rfl)
         |((with_reducible apply ob);(exact oT))
         |refine BW ?_)
        all_goals (conv=>whnf)
        all_goals (first|exact Br (by unfold A9;simp;omega)|exact absurd (by assumption : ¬ _) (by omega)|skip)
        ·refine nx (k + 1,[],[] ++ [(i + k,Tree.node kids)]) [0,1,2,3,4,7] (by (repeat (first|exact trivial|refine Au rfl rfl ?_|refine Cz (n0:=4) rfl rfl hg (by simp only [List.length_append,List.length_cons,List.length_nil];omega) ?_))) ?_ rfl rfl (by dsimp only;omega) ⟨by dsimp only;omega,hstep⟩
         dsimp only [Ck]
         simp only [List.length_append,List.length_cons,List.length_nil,Nat.zero_add]
         (repeat (first|exact trivial|refine DW (n0:=4) (by assumption) rfl (by omega) rfl ?_|refine A8 rfl rfl ?_|refine Bb rfl (by first|rfl|(dsimp only;rw [DX,List.map_append];rfl)) (by first|exact Bj _|exact By _) ?_))
       |cons n0 ns =>
        simp only [List.length_cons,List.length_nil] at hlen
        repeat' (
         conv=>whnf
         first
         |refine Ap (fun h=>?_) (fun h=>?_)
         |with_reducible refine Ao ?_
         |((with_reducible refine A0 ?_);refine A3 hmp ?_)
         |((with_reducible refine A0 ?_);refine A3 hpr ?_)
         |((with_reducible refine A0 ?_);refine A3 (Bg _ _ (by omega)) ?_)
         |((with_reducible apply A1 9);rfl)
         |((with_reducible apply A1 10);rfl)
         |((with_reducible apply ob);(exact oT))
         |refine BW ?_)
        all_goals (conv=>whnf)
        all_goals (first|exact Br (by unfold A9;simp;omega)|exact absurd (by assumption : ¬ _) (by omega)|skip)
        ·refine nx (k + 1,[],(n0 :: ns) ++ [(i + k,Tree.node kids)]) [0,1,2,3,4,8] (by (repeat (first|exact trivial|refine Au rfl rfl ?_|refine Cz (n0:=4) rfl rfl hg (by simp only [List.length_append,List.length_cons,List.length_nil];omega) ?_))) ?_ rfl rfl (by dsimp only;omega) ⟨by dsimp only;omega,hstep⟩
         dsimp only [Ck]
         simp only [List.length_append,List.length_cons,List.length_nil,Nat.zero_add]
         (repeat (first|exact trivial|refine DW (n0:=4) (by assumption) rfl (by omega) rfl ?_|refine A8 rfl rfl ?_|refine Bb rfl (by first|rfl|(dsimp only;rw [DX,List.map_append];rfl)) (by first|exact Bj _|exact By _) ?_))
      |cons y0 ys =>
       cases ns with
       |nil =>
        simp only [List.length_cons,List.length_nil] at hlen
        repeat' (
         conv=>whnf
         first
         |refine Ap (fun h=>?_) (fun h=>?_)
         |with_reducible refine Ao ?_
         |((with_reducible refine A0 ?_);refine A3 hmp ?_)
         |((with_reducible refine A0 ?_);refine A3 hpr ?_)
         |((with_reducible refine A0 ?_);refine A3 (Bg _ _ (by omega)) ?_)
         |((with_reducible apply A1 9);rfl)
         |((with_reducible apply A1 10);rfl)
         |((with_reducible apply ob);(exact oT))
         |refine BW ?_)
        all_goals (conv=>whnf)
        all_goals (first|exact Br (by unfold A9;simp;omega)|exact absurd (by assumption : ¬ _) (by omega)|skip)
        ·refine nx (k + 1,(y0 :: ys),[] ++ [(i + k,Tree.node kids)]) [0,1,2,3,4,5,8] (by (repeat (first|exact trivial|refine Au rfl rfl ?_|refine Cz (n0:=4) rfl rfl hg (by simp only [List.length_append,List.length_cons,List.length_nil];omega) ?_))) ?_ rfl rfl (by dsimp only;omega) ⟨by dsimp only;omega,hstep⟩
         dsimp only [Ck]
         simp only [List.length_append,List.length_cons,List.length_nil,Nat.zero_add]
         (repeat (first|exact trivial|refine DW (n0:=4) (by assumption) rfl (by omega) rfl ?_|refine A8 rfl rfl ?_|refine Bb rfl (by first|rfl|(dsimp only;rw [DX,List.map_append];rfl)) (by first|exact Bj _|exact By _) ?_))
       |cons n0 ns =>
        simp only [List.length_cons,List.length_nil] at hlen
        repeat' (
         conv=>whnf
         first
         |refine Ap (fun h=>?_) (fun h=>?_)
         |with_reducible refine Ao ?_
         |((with_reducible refine A0 ?_);refine A3 hmp ?_)
         |((with_reducible refine A0 ?_);refine A3 hpr ?_)
         |((with_reducible refine A0 ?_);refine A3 (Bg _ _ (by omega)) ?_)
         |((with_reducible apply A1 9);rfl)
         |((with_reducible apply A1 10);rfl)
         |((with_reducible apply ob);(exact oT))
         |refine BW ?_)
        all_goals (conv=>whnf)
        all_goals (first|exact Br (by unfold A9;simp;omega)|exact absurd (by assumption : ¬ _) (by omega)|skip)
        ·refine nx (k + 1,(y0 :: ys),(n0 :: ns) ++ [(i + k,Tree.node kids)]) [0,1,2,3,4,5,9] (by (repeat (first|exact trivial|refine Au rfl rfl ?_|refine Cz (n0:=4) rfl rfl hg (by simp only [List.length_append,List.length_cons,List.length_nil];omega) ?_))) ?_ rfl rfl (by dsimp only;omega) ⟨by dsimp only;omega,hstep⟩
         dsimp only [Ck]
         simp only [List.length_append,List.length_cons,List.length_nil,Nat.zero_add]
         (repeat (first|exact trivial|refine DW (n0:=4) (by assumption) rfl (by omega) rfl ?_|refine A8 rfl rfl ?_|refine Bb rfl (by first|rfl|(dsimp only;rw [DX,List.map_append];rfl)) (by first|exact Bj _|exact By _) ?_))
    ·have hiV : i < x.V:=by omega
     have hkV : k = x.V - i:=by omega
     have hY:=hyl i _ hj hiV
     rw [← hkV,hlv] at hY
     cases ys with
     |nil =>
      cases ns with
      |nil =>
       repeat' (
        conv=>whnf
        first
        |refine Ap (fun h=>?_) (fun h=>?_)
        |((with_reducible refine A0 ?_);refine A3 (Bg _ _ (by omega)) ?_)
        |((with_reducible apply A1 9);rfl)
        |refine BW ?_)
       all_goals (conv=>whnf)
       all_goals (first|exact absurd (by assumption : (_ : Int) < _) (by omega)|skip)
       refine Cr 4 (Hc:=[o0,o1,o2,o3]) (Y:=Ck 4 [] []) (Y1:=[_]) hY (by simp;omega) (by simp) (.refl _) hin (.cons _ _ _ _ (.refl _) (.cons _ _ _ _ (.agg _ _ (.cons _ _ _ _ (.nils _) (.cons _ _ _ _ (.nils _) .nil)) rfl) .nil)) rfl ?_
       intro r H' σ O2 hs hσ hcase
       rcases hcase with ⟨rfl,hJ'⟩|⟨rfl,hQ'⟩
       ·repeat' (
         conv=>whnf
         first
         |with_reducible refine Ao ?_)
        all_goals (conv=>whnf)
        exact nx (i + 1,O2) σ (by have:=take_len hσ;have:=BZ hs;(repeat (first|exact trivial|refine Au rfl rfl ?_|refine Cz rfl hσ hg (by dsimp only;omega) ?_))) hs.sub hs.nd hσ (by dsimp only;omega) ⟨hJ',by dsimp only;omega⟩
       ·all_goals (conv=>whnf)
        exact Ac ⟨σ,O2,hs,hσ,rfl,hQ'⟩
      |cons n0 ns =>
       repeat' (
        conv=>whnf
        first
        |refine Ap (fun h=>?_) (fun h=>?_)
        |((with_reducible refine A0 ?_);refine A3 (Bg _ _ (by omega)) ?_)
        |((with_reducible apply A1 9);rfl)
        |refine BW ?_)
       all_goals (conv=>whnf)
       all_goals (first|exact absurd (by assumption : (_ : Int) < _) (by omega)|skip)
       refine Cr 4 (Hc:=[o0,o1,o2,o3]) (Y:=Ck 4 [] (n0 :: ns)) (Y1:=[_,.frz (.agg [.leaf,.agg [.leaf]]) ((n0 :: ns).map EV)]) hY (by simp;omega) (by simp) (.step 5 (.agg [.leaf,.agg [.leaf]]) ((n0 :: ns).map EV) rfl (By _) (.refl _)) hin (.cons _ _ _ _ (.refl _) (.cons _ _ _ _ (.agg _ _ (.cons _ _ _ _ (.nils _) (.cons _ _ _ _ (Bi rfl (by simp)) .nil)) rfl) .nil)) rfl ?_
       intro r H' σ O2 hs hσ hcase
       rcases hcase with ⟨rfl,hJ'⟩|⟨rfl,hQ'⟩
       ·repeat' (
         conv=>whnf
         first
         |with_reducible refine Ao ?_)
        all_goals (conv=>whnf)
        exact nx (i + 1,O2) σ (by have:=take_len hσ;have:=BZ hs;(repeat (first|exact trivial|refine Au rfl rfl ?_|refine Cz rfl hσ hg (by dsimp only;omega) ?_))) hs.sub hs.nd hσ (by dsimp only;omega) ⟨hJ',by dsimp only;omega⟩
       ·all_goals (conv=>whnf)
        exact Ac ⟨σ,O2,hs,hσ,rfl,hQ'⟩
     |cons y0 ys =>
      cases ns with
      |nil =>
       repeat' (
        conv=>whnf
        first
        |refine Ap (fun h=>?_) (fun h=>?_)
        |((with_reducible refine A0 ?_);refine A3 (Bg _ _ (by omega)) ?_)
        |((with_reducible apply A1 9);rfl)
        |refine BW ?_)
       all_goals (conv=>whnf)
       all_goals (first|exact absurd (by assumption : (_ : Int) < _) (by omega)|skip)
       refine Cr 4 (Hc:=[o0,o1,o2,o3]) (Y:=Ck 4 (y0 :: ys) []) (Y1:=[_,.frz (.agg [.leaf,.leaf]) ((y0 :: ys).map CY)]) hY (by simp;omega) (by simp) (.step 5 (.agg [.leaf,.leaf]) ((y0 :: ys).map CY) rfl (Bj _) (.refl _)) hin (.cons _ _ _ _ (.refl _) (.cons _ _ _ _ (.agg _ _ (.cons _ _ _ _ (Bi rfl (by simp)) (.cons _ _ _ _ (.nils _) .nil)) rfl) .nil)) rfl ?_
       intro r H' σ O2 hs hσ hcase
       rcases hcase with ⟨rfl,hJ'⟩|⟨rfl,hQ'⟩
       ·repeat' (
         conv=>whnf
         first
         |with_reducible refine Ao ?_)
        all_goals (conv=>whnf)
        exact nx (i + 1,O2) σ (by have:=take_len hσ;have:=BZ hs;(repeat (first|exact trivial|refine Au rfl rfl ?_|refine Cz rfl hσ hg (by dsimp only;omega) ?_))) hs.sub hs.nd hσ (by dsimp only;omega) ⟨hJ',by dsimp only;omega⟩
       ·all_goals (conv=>whnf)
        exact Ac ⟨σ,O2,hs,hσ,rfl,hQ'⟩
      |cons n0 ns =>
       repeat' (
        conv=>whnf
        first
        |refine Ap (fun h=>?_) (fun h=>?_)
        |((with_reducible refine A0 ?_);refine A3 (Bg _ _ (by omega)) ?_)
        |((with_reducible apply A1 9);rfl)
        |refine BW ?_)
       all_goals (conv=>whnf)
       all_goals (first|exact absurd (by assumption : (_ : Int) < _) (by omega)|skip)
       refine Cr 4 (Hc:=[o0,o1,o2,o3]) (Y:=Ck 4 (y0 :: ys) (n0 :: ns)) (Y1:=[_,.frz (.agg [.leaf,.leaf]) ((y0 :: ys).map CY),.frz (.agg [.leaf,.agg [.leaf]]) ((n0 :: ns).map EV)]) hY (by simp;omega) (by simp) (.step 5 (.agg [.leaf,.leaf]) ((y0 :: ys).map CY) rfl (Bj _) (.step 6 (.agg [.leaf,.agg [.leaf]]) ((n0 :: ns).map EV) rfl (By _) (.refl _))) hin (.cons _ _ _ _ (.refl _) (.cons _ _ _ _ (.agg _ _ (.cons _ _ _ _ (Bi rfl (by simp)) (.cons _ _ _ _ (Bi rfl (by simp)) .nil)) rfl) .nil)) rfl ?_
       intro r H' σ O2 hs hσ hcase
       rcases hcase with ⟨rfl,hJ'⟩|⟨rfl,hQ'⟩
       ·repeat' (
         conv=>whnf
         first
         |with_reducible refine Ao ?_)
        all_goals (conv=>whnf)
        exact nx (i + 1,O2) σ (by have:=take_len hσ;have:=BZ hs;(repeat (first|exact trivial|refine Au rfl rfl ?_|refine Cz rfl hσ hg (by dsimp only;omega) ?_))) hs.sub hs.nd hσ (by dsimp only;omega) ⟨hJ',by dsimp only;omega⟩
       ·all_goals (conv=>whnf)
        exact Ac ⟨σ,O2,hs,hσ,rfl,hQ'⟩
   ·have hiV : i = x.V:=by omega
    subst hiV
    exact Ac ⟨List.range 4,[o0,o1,o2,o3],⟨by have:=DD [o0,o1,o2,o3] [] hin;simpa using this,Ce _,by simp⟩,rfl,rfl,hend _ hj⟩
  ·have hi0 : As 5 o0 = true:=hin _ (by simp)
   have hi1 : As 5 o1 = true:=hin _ (by simp)
   have hi2 : As 5 o2 = true:=hin _ (by simp)
   have hi3 : As 5 o3 = true:=hin _ (by simp)
   have hi4 : As 5 o4 = true:=hin _ (by simp)
   repeat' (
    conv=>whnf
    first
    |refine Ap (fun h=>?_) (fun h=>?_))
   all_goals (conv=>whnf)
   ·refine Bt (X:=Nat × List (Nat × List Int) × List (Nat × Tree)) (fun y=>[(0,.yld g),(1,.ref (.agg [.leaf,.leaf]) x.D),(3,iD i),(4,.ptr 5 []),(5,iD (i + y.1)),(11,iD x.V),(12,iD i)]) (fun y=>[o0,o1,o2,o3,o4] ++ Ck 5 y.2.1 y.2.2) (fun y=>i + y.1 ≤ x.V ∧ Cm x i y.1 = (y.2.1,y.2.2)) (fun y=>x.V - i - y.1) ⟨_,A4 (0,[],[]) Bn rfl (Nat.lt_succ_self _) ⟨by dsimp only;omega,rfl⟩⟩ ?_
    rintro ⟨k,ys,ns⟩ ⟨hk,hlv⟩
    dsimp only at hk hlv ⊢
    have hlen:=Hf x i k
    rw [hlv] at hlen
    dsimp only at hlen
    rcases Nat.lt_or_ge (i + k) x.V with hlt|hge
    ·have hd:=hdp i (i + k) (by omega) hlt
     have hpl:=Ff i (i + k)
     have hmp:=Tr x x (Az i (i + k)) hx hx hx7 hx7 (NI _ _) hd (by omega)
     have hpr:=NH x x (Az i (i + k)) hx hx hx7 hx7 hd (by omega)
     obtain ⟨ec,hec⟩:=NQ x x (Az i (i + k))
     rw [hec] at hpr
     cases hm : Dz x x (Az i (i + k)) with
     |some m =>
      rw [hm] at hmp
      have hstep : Cm x i (k + 1) = (ys ++ [(i + k,m)],ns):=by rw [Cm,hm,hlv]
      cases ys with
      |nil =>
       cases ns with
       |nil =>
        simp only [List.length_cons,List.length_nil] at hlen
        repeat' (
         conv=>whnf
         first
         |refine Ap (fun h=>?_) (fun h=>?_)
         |with_reducible refine Ao ?_
         |((with_reducible refine A0 ?_);refine A3 hmp ?_)
         |((with_reducible refine A0 ?_);refine A3 (Bg _ _ (by omega)) ?_)
         |((with_reducible apply A1 9);rfl)
         |((with_reducible apply ob);(exact oT))
         |refine BW ?_)
        all_goals (conv=>whnf)
        all_goals (first|exact Br (by unfold A9;simp;omega)|exact absurd (by assumption : ¬ _) (by omega)|skip)
        ·refine nx (k + 1,[] ++ [(i + k,m)],[]) [0,1,2,3,4,5,7] (by (repeat (first|exact trivial|refine Au rfl rfl ?_|refine Cz (n0:=4) rfl rfl hg (by simp only [List.length_append,List.length_cons,List.length_nil];omega) ?_))) ?_ rfl rfl (by dsimp only;omega) ⟨by dsimp only;omega,hstep⟩
         dsimp only [Ck]
         simp only [List.length_append,List.length_cons,List.length_nil,Nat.zero_add]
         (repeat (first|exact trivial|refine DW (n0:=5) (by assumption) rfl (by omega) rfl ?_|refine A8 rfl rfl ?_|refine Bb rfl (by first|rfl|(dsimp only;rw [DX,List.map_append];rfl)) (by first|exact Bj _|exact By _) ?_))
       |cons n0 ns =>
        simp only [List.length_cons,List.length_nil] at hlen
        repeat' (
         conv=>whnf
         first
         |refine Ap (fun h=>?_) (fun h=>?_)
         |with_reducible refine Ao ?_
         |((with_reducible refine A0 ?_);refine A3 hmp ?_)
         |((with_reducible refine A0 ?_);refine A3 (Bg _ _ (by omega)) ?_)
         |((with_reducible apply A1 9);rfl)
         |((with_reducible apply ob);(exact oT))
         |refine BW ?_)
        all_goals (conv=>whnf)
        all_goals (first|exact Br (by unfold A9;simp;omega)|exact absurd (by assumption : ¬ _) (by omega)|skip)
        ·refine nx (k + 1,[] ++ [(i + k,m)],(n0 :: ns)) [0,1,2,3,4,5,8,6] (by (repeat (first|exact trivial|refine Au rfl rfl ?_|refine Cz (n0:=4) rfl rfl hg (by simp only [List.length_append,List.length_cons,List.length_nil];omega) ?_))) ?_ rfl rfl (by dsimp only;omega) ⟨by dsimp only;omega,hstep⟩
         dsimp only [Ck]
         simp only [List.length_append,List.length_cons,List.length_nil,Nat.zero_add]
         (repeat (first|exact trivial|refine DW (n0:=5) (by assumption) rfl (by omega) rfl ?_|refine A8 rfl rfl ?_|refine Bb rfl (by first|rfl|(dsimp only;rw [DX,List.map_append];rfl)) (by first|exact Bj _|exact By _) ?_))
      |cons y0 ys =>
       cases ns with
       |nil =>
        simp only [List.length_cons,List.length_nil] at hlen
        repeat' (
         conv=>whnf
         first
         |refine Ap (fun h=>?_) (fun h=>?_)
         |with_reducible refine Ao ?_
         |((with_reducible refine A0 ?_);refine A3 hmp ?_)
         |((with_reducible refine A0 ?_);refine A3 (Bg _ _ (by omega)) ?_)
         |((with_reducible apply A1 9);rfl)
         |((with_reducible apply ob);(exact oT))
         |refine BW ?_)
        all_goals (conv=>whnf)
        all_goals (first|exact Br (by unfold A9;simp;omega)|exact absurd (by assumption : ¬ _) (by omega)|skip)
        ·refine nx (k + 1,(y0 :: ys) ++ [(i + k,m)],[]) [0,1,2,3,4,5,8] (by (repeat (first|exact trivial|refine Au rfl rfl ?_|refine Cz (n0:=4) rfl rfl hg (by simp only [List.length_append,List.length_cons,List.length_nil];omega) ?_))) ?_ rfl rfl (by dsimp only;omega) ⟨by dsimp only;omega,hstep⟩
         dsimp only [Ck]
         simp only [List.length_append,List.length_cons,List.length_nil,Nat.zero_add]
         (repeat (first|exact trivial|refine DW (n0:=5) (by assumption) rfl (by omega) rfl ?_|refine A8 rfl rfl ?_|refine Bb rfl (by first|rfl|(dsimp only;rw [DX,List.map_append];rfl)) (by first|exact Bj _|exact By _) ?_))
       |cons n0 ns =>
        simp only [List.length_cons,List.length_nil] at hlen
        repeat' (
         conv=>whnf
         first
         |refine Ap (fun h=>?_) (fun h=>?_)
         |with_reducible refine Ao ?_
         |((with_reducible refine A0 ?_);refine A3 hmp ?_)
         |((with_reducible refine A0 ?_);refine A3 (Bg _ _ (by omega)) ?_)
         |((with_reducible apply A1 9);rfl)
         |((with_reducible apply ob);(exact oT))
         |refine BW ?_)
        all_goals (conv=>whnf)
        all_goals (first|exact Br (by unfold A9;simp;omega)|exact absurd (by assumption : ¬ _) (by omega)|skip)
        ·refine nx (k + 1,(y0 :: ys) ++ [(i + k,m)],(n0 :: ns)) [0,1,2,3,4,5,9,7] (by (repeat (first|exact trivial|refine Au rfl rfl ?_|refine Cz (n0:=4) rfl rfl hg (by simp only [List.length_append,List.length_cons,List.length_nil];omega) ?_))) ?_ rfl rfl (by dsimp only;omega) ⟨by dsimp only;omega,hstep⟩
         dsimp only [Ck]
         simp only [List.length_append,List.length_cons,List.length_nil,Nat.zero_add]
         (repeat (first|exact trivial|refine DW (n0:=5) (by assumption) rfl (by omega) rfl ?_|refine A8 rfl rfl ?_|refine Bb rfl (by first|rfl|(dsimp only;rw [DX,List.map_append];rfl)) (by first|exact Bj _|exact By _) ?_))
     |none =>
      rw [hm] at hmp
      have hstep : Cm x i (k + 1) = (ys,ns ++ [(i + k,Fq x x (Az i (i + k)))]):=by rw [Cm,hm,hlv]
      cases hT : Fq x x (Az i (i + k)) with
      |node kids =>
      rw [hT] at hpr hstep
      cases ys with
      |nil =>
       cases ns with
       |nil =>
        simp only [List.length_cons,List.length_nil] at hlen
        repeat' (
         conv=>whnf
         first
         |refine Ap (fun h=>?_) (fun h=>?_)
         |with_reducible refine Ao ?_
         |((with_reducible refine A0 ?_);refine A3 hmp ?_)
         |((with_reducible refine A0 ?_);refine A3 hpr ?_)
         |((with_reducible refine A0 ?_);refine A3 (Bg _ _ (by omega)) ?_)
         |((with_reducible apply A1 9);rfl)
         |((with_reducible apply A1 10);rfl)
         |((with_reducible apply ob);(exact oT))
         |refine BW ?_)
        all_goals (conv=>whnf)
        all_goals (first|exact Br (by unfold A9;simp;omega)|exact absurd (by assumption : ¬ _) (by omega)|skip)
        ·refine nx (k + 1,[],[] ++ [(i + k,Tree.node kids)]) [0,1,2,3,4,5,8] (by (repeat (first|exact trivial|refine Au rfl rfl ?_|refine Cz (n0:=4) rfl rfl hg (by simp only [List.length_append,List.length_cons,List.length_nil];omega) ?_))) ?_ rfl rfl (by dsimp only;omega) ⟨by dsimp only;omega,hstep⟩
         dsimp only [Ck]
         simp only [List.length_append,List.length_cons,List.length_nil,Nat.zero_add]
         (repeat (first|exact trivial|refine DW (n0:=5) (by assumption) rfl (by omega) rfl ?_|refine A8 rfl rfl ?_|refine Bb rfl (by first|rfl|(dsimp only;rw [DX,List.map_append];rfl)) (by first|exact Bj _|exact By _) ?_))
       |cons n0 ns =>
        simp only [List.length_cons,List.length_nil] at hlen
        repeat' (
         conv=>whnf
         first
         |refine Ap (fun h=>?_) (fun h=>?_)
         |with_reducible refine Ao ?_
         |((with_reducible refine A0 ?_);refine A3 hmp ?_)
         |((with_reducible refine A0 ?_);refine A3 hpr ?_)
         |((with_reducible refine A0 ?_);refine A3 (Bg _ _ (by omega)) ?_)
         |((with_reducible apply A1 9);rfl)
         |((with_reducible apply A1 10);rfl)
         |((with_reducible apply ob);(exact oT))
         |refine BW ?_)
        all_goals (conv=>whnf)
        all_goals (first|exact Br (by unfold A9;simp;omega)|exact absurd (by assumption : ¬ _) (by omega)|skip)
        ·refine nx (k + 1,[],(n0 :: ns) ++ [(i + k,Tree.node kids)]) [0,1,2,3,4,5,9] (by (repeat (first|exact trivial|refine Au rfl rfl ?_|refine Cz (n0:=4) rfl rfl hg (by simp only [List.length_append,List.length_cons,List.length_nil];omega) ?_))) ?_ rfl rfl (by dsimp only;omega) ⟨by dsimp only;omega,hstep⟩
         dsimp only [Ck]
         simp only [List.length_append,List.length_cons,List.length_nil,Nat.zero_add]
         (repeat (first|exact trivial|refine DW (n0:=5) (by assumption) rfl (by omega) rfl ?_|refine A8 rfl rfl ?_|refine Bb rfl (by first|rfl|(dsimp only;rw [DX,List.map_append];rfl)) (by first|exact Bj _|exact By _) ?_))
      |cons y0 ys =>
       cases ns with
       |nil =>
        simp only [List.length_cons,List.length_nil] at hlen
        repeat' (
         conv=>whnf
         first
         |refine Ap (fun h=>?_) (fun h=>?_)
         |with_reducible refine Ao ?_
         |((with_reducible refine A0 ?_);refine A3 hmp ?_)
         |((with_reducible refine A0 ?_);refine A3 hpr ?_)
         |((with_reducible refine A0 ?_);refine A3 (Bg _ _ (by omega)) ?_)
         |((with_reducible apply A1 9);rfl)
         |((with_reducible apply A1 10);rfl)
         |((with_reducible apply ob);(exact oT))
         |refine BW ?_)
        all_goals (conv=>whnf)
        all_goals (first|exact Br (by unfold A9;simp;omega)|exact absurd (by assumption : ¬ _) (by omega)|skip)
        ·refine nx (k + 1,(y0 :: ys),[] ++ [(i + k,Tree.node kids)]) [0,1,2,3,4,5,6,9] (by (repeat (first|exact trivial|refine Au rfl rfl ?_|refine Cz (n0:=4) rfl rfl hg (by simp only [List.length_append,List.length_cons,List.length_nil];omega) ?_))) ?_ rfl rfl (by dsimp only;omega) ⟨by dsimp only;omega,hstep⟩
         dsimp only [Ck]
         simp only [List.length_append,List.length_cons,List.length_nil,Nat.zero_add]
         (repeat (first|exact trivial|refine DW (n0:=5) (by assumption) rfl (by omega) rfl ?_|refine A8 rfl rfl ?_|refine Bb rfl (by first|rfl|(dsimp only;rw [DX,List.map_append];rfl)) (by first|exact Bj _|exact By _) ?_))
       |cons n0 ns =>
        simp only [List.length_cons,List.length_nil] at hlen
        repeat' (
         conv=>whnf
         first
         |refine Ap (fun h=>?_) (fun h=>?_)
         |with_reducible refine Ao ?_
         |((with_reducible refine A0 ?_);refine A3 hmp ?_)
         |((with_reducible refine A0 ?_);refine A3 hpr ?_)
         |((with_reducible refine A0 ?_);refine A3 (Bg _ _ (by omega)) ?_)
         |((with_reducible apply A1 9);rfl)
         |((with_reducible apply A1 10);rfl)
         |((with_reducible apply ob);(exact oT))
         |refine BW ?_)
        all_goals (conv=>whnf)
        all_goals (first|exact Br (by unfold A9;simp;omega)|exact absurd (by assumption : ¬ _) (by omega)|skip)
        ·refine nx (k + 1,(y0 :: ys),(n0 :: ns) ++ [(i + k,Tree.node kids)]) [0,1,2,3,4,5,6,10] (by (repeat (first|exact trivial|refine Au rfl rfl ?_|refine Cz (n0:=4) rfl rfl hg (by simp only [List.length_append,List.length_cons,List.length_nil];omega) ?_))) ?_ rfl rfl (by dsimp only;omega) ⟨by dsimp only;omega,hstep⟩
         dsimp only [Ck]
         simp only [List.length_append,List.length_cons,List.length_nil,Nat.zero_add]
         (repeat (first|exact trivial|refine DW (n0:=5) (by assumption) rfl (by omega) rfl ?_|refine A8 rfl rfl ?_|refine Bb rfl (by first|rfl|(dsimp only;rw [DX,List.map_append];rfl)) (by first|exact Bj _|exact By _) ?_))
    ·have hiV : i < x.V:=by omega
     have hkV : k = x.V - i:=by omega
     have hY:=hyl i _ hj hiV
     rw [← hkV,hlv] at hY
     cases ys with
     |nil =>
      cases ns with
      |nil =>
       repeat' (
        conv=>whnf
        first
        |refine Ap (fun h=>?_) (fun h=>?_)
        |((with_reducible refine A0 ?_);refine A3 (Bg _ _ (by omega)) ?_)
        |((with_reducible apply A1 9);rfl)
        |refine BW ?_)
       all_goals (conv=>whnf)
       all_goals (first|exact absurd (by assumption : (_ : Int) < _) (by omega)|skip)
       refine Cr 4 (Hc:=[o0,o1,o2,o3,o4]) (Y:=Ck 5 [] []) (Y1:=[_]) hY (by simp;omega) (by simp) (.refl _) hin (.cons _ _ _ _ (.refl _) (.cons _ _ _ _ (.agg _ _ (.cons _ _ _ _ (.nils _) (.cons _ _ _ _ (.nils _) .nil)) rfl) .nil)) rfl ?_
       intro r H' σ O2 hs hσ hcase
       rcases hcase with ⟨rfl,hJ'⟩|⟨rfl,hQ'⟩
       ·repeat' (
         conv=>whnf
         first
         |with_reducible refine Ao ?_)
        all_goals (conv=>whnf)
        exact nx (i + 1,O2) σ (by have:=take_len hσ;have:=BZ hs;(repeat (first|exact trivial|refine Au rfl rfl ?_|refine Cz rfl hσ hg (by dsimp only;omega) ?_))) hs.sub hs.nd hσ (by dsimp only;omega) ⟨hJ',by dsimp only;omega⟩
       ·all_goals (conv=>whnf)
        exact Ac ⟨σ,O2,hs,hσ,rfl,hQ'⟩
      |cons n0 ns =>
       repeat' (
        conv=>whnf
        first
        |refine Ap (fun h=>?_) (fun h=>?_)
        |((with_reducible refine A0 ?_);refine A3 (Bg _ _ (by omega)) ?_)
        |((with_reducible apply A1 9);rfl)
        |refine BW ?_)
       all_goals (conv=>whnf)
       all_goals (first|exact absurd (by assumption : (_ : Int) < _) (by omega)|skip)
       refine Cr 4 (Hc:=[o0,o1,o2,o3,o4]) (Y:=Ck 5 [] (n0 :: ns)) (Y1:=[_,.frz (.agg [.leaf,.agg [.leaf]]) ((n0 :: ns).map EV)]) hY (by simp;omega) (by simp) (.step 6 (.agg [.leaf,.agg [.leaf]]) ((n0 :: ns).map EV) rfl (By _) (.refl _)) hin (.cons _ _ _ _ (.refl _) (.cons _ _ _ _ (.agg _ _ (.cons _ _ _ _ (.nils _) (.cons _ _ _ _ (Bi rfl (by simp)) .nil)) rfl) .nil)) rfl ?_
       intro r H' σ O2 hs hσ hcase
       rcases hcase with ⟨rfl,hJ'⟩|⟨rfl,hQ'⟩
       ·repeat' (
         conv=>whnf
         first
         |with_reducible refine Ao ?_)
        all_goals (conv=>whnf)
        exact nx (i + 1,O2) σ (by have:=take_len hσ;have:=BZ hs;(repeat (first|exact trivial|refine Au rfl rfl ?_|refine Cz rfl hσ hg (by dsimp only;omega) ?_))) hs.sub hs.nd hσ (by dsimp only;omega) ⟨hJ',by dsimp only;omega⟩
       ·all_goals (conv=>whnf)
        exact Ac ⟨σ,O2,hs,hσ,rfl,hQ'⟩
     |cons y0 ys =>
      cases ns with
      |nil =>
       repeat' (
        conv=>whnf
        first
        |refine Ap (fun h=>?_) (fun h=>?_)
        |((with_reducible refine A0 ?_);refine A3 (Bg _ _ (by omega)) ?_)
        |((with_reducible apply A1 9);rfl)
        |refine BW ?_)
       all_goals (conv=>whnf)
       all_goals (first|exact absurd (by assumption : (_ : Int) < _) (by omega)|skip)
       refine Cr 4 (Hc:=[o0,o1,o2,o3,o4]) (Y:=Ck 5 (y0 :: ys) []) (Y1:=[_,.frz (.agg [.leaf,.leaf]) ((y0 :: ys).map CY)]) hY (by simp;omega) (by simp) (.step 6 (.agg [.leaf,.leaf]) ((y0 :: ys).map CY) rfl (Bj _) (.refl _)) hin (.cons _ _ _ _ (.refl _) (.cons _ _ _ _ (.agg _ _ (.cons _ _ _ _ (Bi rfl (by simp)) (.cons _ _ _ _ (.nils _) .nil)) rfl) .nil)) rfl ?_
       intro r H' σ O2 hs hσ hcase
       rcases hcase with ⟨rfl,hJ'⟩|⟨rfl,hQ'⟩
       ·repeat' (
         conv=>whnf
         first
         |with_reducible refine Ao ?_)
        all_goals (conv=>whnf)
        exact nx (i + 1,O2) σ (by have:=take_len hσ;have:=BZ hs;(repeat (first|exact trivial|refine Au rfl rfl ?_|refine Cz rfl hσ hg (by dsimp only;omega) ?_))) hs.sub hs.nd hσ (by dsimp only;omega) ⟨hJ',by dsimp only;omega⟩
       ·all_goals (conv=>whnf)
        exact Ac ⟨σ,O2,hs,hσ,rfl,hQ'⟩
      |cons n0 ns =>
       repeat' (
        conv=>whnf
        first
        |refine Ap (fun h=>?_) (fun h=>?_)
        |((with_reducible refine A0 ?_);refine A3 (Bg _ _ (by omega)) ?_)
        |((with_reducible apply A1 9);rfl)
        |refine BW ?_)
       all_goals (conv=>whnf)
       all_goals (first|exact absurd (by assumption : (_ : Int) < _) (by omega)|skip)
       refine Cr 4 (Hc:=[o0,o1,o2,o3,o4]) (Y:=Ck 5 (y0 :: ys) (n0 :: ns)) (Y1:=[_,.frz (.agg [.leaf,.leaf]) ((y0 :: ys).map CY),.frz (.agg [.leaf,.agg [.leaf]]) ((n0 :: ns).map EV)]) hY (by simp;omega) (by simp) (.step 6 (.agg [.leaf,.leaf]) ((y0 :: ys).map CY) rfl (Bj _) (.step 7 (.agg [.leaf,.agg [.leaf]]) ((n0 :: ns).map EV) rfl (By _) (.refl _))) hin (.cons _ _ _ _ (.refl _) (.cons _ _ _ _ (.agg _ _ (.cons _ _ _ _ (Bi rfl (by simp)) (.cons _ _ _ _ (Bi rfl (by simp)) .nil)) rfl) .nil)) rfl ?_
       intro r H' σ O2 hs hσ hcase
       rcases hcase with ⟨rfl,hJ'⟩|⟨rfl,hQ'⟩
       ·repeat' (
         conv=>whnf
         first
         |with_reducible refine Ao ?_)
        all_goals (conv=>whnf)
        exact nx (i + 1,O2) σ (by have:=take_len hσ;have:=BZ hs;(repeat (first|exact trivial|refine Au rfl rfl ?_|refine Cz rfl hσ hg (by dsimp only;omega) ?_))) hs.sub hs.nd hσ (by dsimp only;omega) ⟨hJ',by dsimp only;omega⟩
       ·all_goals (conv=>whnf)
        exact Ac ⟨σ,O2,hs,hσ,rfl,hQ'⟩
   ·have hiV : i = x.V:=by omega
    subst hiV
    exact Ac ⟨List.range 5,[o0,o1,o2,o3,o4],⟨by have:=DD [o0,o1,o2,o3,o4] [] hin;simpa using this,Ce _,by simp⟩,rfl,rfl,hend _ hj⟩
 ·intro r H' hq
  obtain ⟨σ,O2,hs,hσ,rfl,hq⟩:=A2 hq
  refine ⟨H',O2,σ,.tuple [],.refl _,hs.sub,hs.nd,by have:=take_len hσ;have:=BZ hs;simp;omega,fun i hi=>.inl (He hσ hi),rfl,.refl _,hq⟩
open Go
def Cd (x : Inc) : Nat → Nat
 |0=>1
 |k + 1=>Cd x k * (Cm x k (x.V - k)).1.length
theorem Sl (x : Inc) (hx7 : x.V ≤ 7) : ∀ k,k ≤ x.V → Cd x k ≤ 7 ^ k
 |0,_=>Nat.le_refl _
 |k + 1,h=>by
  have h1:=Sl x hx7 k (by omega)
  have h2:=Hf x k (x.V - k)
  have h3 : (Cm x k (x.V - k)).1.length ≤ 7:=by omega
  rw [Cd,Nat.pow_succ]
  exact Nat.mul_le_mul h1 h3
theorem Ib (i j V : Nat) (hij : i ≤ j) (hj : j < V) : CH (Az i j) V:=by
 have hm : ∀ x ∈ Bh i,0 ≤ x ∧ x < (i : Int):=by
  intro x hx
  simp only [Bh,DT,List.mem_map,List.mem_range] at hx
  obtain ⟨n,hn,rfl⟩:=hx
  omega
 refine ⟨fun x hx=>?_,?_⟩
 ·rcases List.mem_append.1 hx with h|h
  ·have:=hm x h;omega
  ·simp at h;omega
 ·refine List.nodup_append.2 ⟨?_,by simp,?_⟩
  ·unfold Bh DT
   exact List.Pairwise.map _ (fun a b (hab : a ≠ b)=>by intro e;exact hab (by omega)) List.nodup_range
  ·intro a ha b hb
   have:=hm a ha
   simp at hb
   omega
theorem V8 (x : Inc) (hx : x.Ok) (hx7 : x.V ≤ 7) (g : Nat) (hg : g < 3) {H0 : List Ob} (lp a b : Ob) (hH : H0 = [a,b,lp]) (J : Ob → Nat → List Ob → Prop) (Q : D → List Ob → Prop)
  (hJ : ∀ k H,J lp k H → ((∃ o0 o1 o2,H = [o0,o1,o2]) ∨ (∃ o0 o1 o2 o3,H = [o0,o1,o2,o3])) ∧ ∀ o ∈ H,As H.length o = true)
  (hyl : ∀ k H,J lp k H → k < x.V → YC Tryz.prog g [iD k,Lg (Cm x k (x.V - k))] H (fun r H'=>Bz (Bu r = true ∧ ∃ σ O2,Sits H' σ O2 ∧ σ.take 3 = List.range 3 ∧ ((r = .bool true ∧ J lp (k + 1) O2) ∨ (r = .bool false ∧ Q (.tuple []) O2)))))
  (hend : ∀ H,J lp x.V H → Q (.tuple []) H) (h0 : J lp 0 [a,b,lp]) :
  HC Tryz.prog 74 [.yld g,.ref (.agg [.leaf,.leaf]) x.D] H0 Q :=
 Xa x hx hx7 g hg (J lp) Q (fun i j h1 h2=>Ib i j x.V h1 h2) hJ hyl hend H0 ⟨a,b,lp,hH⟩ (by rw [hH];exact h0)
theorem X2 (x : Inc) (hx : x.Ok) (hx7 : x.V ≤ 7) : Aj Tryz.prog 26 [x.D] (fun r=>r = .tuple [iD (Cd x x.V),.int .i64 0]):=by
 have hv:=hx.v
 refine Aj.ofV ?_
 refine Ai (okc Tryz.f26.ntmps 0) (fn:=Tryz.f26) (cd:=_) rfl rfl rfl rfl rfl rfl (fun hbd=>?_)
 repeat' (
  conv=>whnf
  first
  |refine Ap (fun h=>?_) (fun h=>?_)
  |((with_reducible refine Aw ?_);refine Bd (R9 _) ?_))
 all_goals (conv=>whnf)
 ·exact absurd h (by omega)
 refine V8 x hx hx7 2 (by omega) _ (.var x.D) (.var (iD 1)) rfl (fun lp k H=>H = [.var x.D,.var (iD (Cd x k)),lp]) _ ?_ ?_ ?_ rfl
 ·rintro k H rfl
  exact ⟨.inl ⟨_,_,_,rfl⟩,FR rfl⟩
 ·rintro k H rfl hk
  have hb : Cd x (k + 1) < 9223372036854775808:=by
   have h1:=Sl x hx7 (k + 1) (by omega)
   have h2 : 7 ^ (k + 1) ≤ 7 ^ 7:=Nat.pow_le_pow_right (by omega) (by omega)
   have h3 : 7 ^ 7 = 823543:=by decide
   omega
  have he : Cd x k * ((Cm x k (x.V - k)).1.map CY).length = Cd x (k + 1):=by rw [List.length_map,Cd]
  have hi : iD (Cd x (k + 1)) = .int .i64 ((Cd x k : Int) * (((Cm x k (x.V - k)).1.map CY).length : Int)):=by
   rw [← he];show D.int _ _ = _;rw [Int.natCast_mul]
  refine Bc (okc Tryz.f26.ntmps 3) rfl rfl rfl rfl rfl ?_
  repeat' (
   conv=>whnf
   first
   |with_reducible refine Ao ?_)
  all_goals (conv=>whnf)
  exact Ac ⟨rfl,[0,1,2],[.var x.D,.var (iD (Cd x (k + 1))),_],⟨A8 rfl rfl (A8 (by rw [hi];rfl) rfl (A8 rfl rfl trivial)),rfl,by simp⟩,rfl,.inl ⟨rfl,rfl⟩⟩
 ·rintro H rfl
  conv=>whnf
  exact fC rfl rfl
open Go
theorem US (x : Inc) (hx : x.Ok) (hx7 : x.V ≤ 7) (g : Nat) (hg : g < 4) {H0 : List Ob} (lp a b c : Ob) (hH : H0 = [a,b,c,lp]) (J : Ob → Nat → List Ob → Prop) (Q : D → List Ob → Prop)
  (hJ : ∀ k H,J lp k H → ((∃ o0 o1 o2 o3,H = [o0,o1,o2,o3]) ∨ (∃ o0 o1 o2 o3 o4,H = [o0,o1,o2,o3,o4])) ∧ ∀ o ∈ H,As H.length o = true)
  (hyl : ∀ k H,J lp k H → k < x.V → YC Tryz.prog g [iD k,Lg (Cm x k (x.V - k))] H (fun r H'=>Bz (Bu r = true ∧ ∃ σ O2,Sits H' σ O2 ∧ σ.take 4 = List.range 4 ∧ ((r = .bool true ∧ J lp (k + 1) O2) ∨ (r = .bool false ∧ Q (.tuple []) O2)))))
  (hend : ∀ H,J lp x.V H → Q (.tuple []) H) (h0 : J lp 0 [a,b,c,lp]) :
  HC Tryz.prog 74 [.yld g,.ref (.agg [.leaf,.leaf]) x.D] H0 Q :=
 Wx x hx hx7 g hg (J lp) Q (fun i j h1 h2=>Ib i j x.V h1 h2) hJ hyl hend H0 ⟨a,b,c,lp,hH⟩ (by rw [hH];exact h0)
def FJ (x : Inc) (k : Nat) : List D:=(List.range k).map fun i=>Lg (Cm x i (x.V - i))
theorem Nc (x : Inc) (k : Nat) : (FJ x k).length = k:=by simp [FJ]
theorem IH (x : Inc) (k : Nat) : Bx (FJ x k) = true:=Ix (fun i=>rfl) _
theorem LR (x : Inc) (k : Nat) : FJ x (k + 1) = FJ x k ++ [Lg (Cm x k (x.V - k))]:=by simp [FJ,List.range_succ]
def Ty (x : Inc) : D:=.agg [.list false (.agg [.leaf,.leaf]) (FJ x x.V)]
theorem Wc (x : Inc) (hx : x.Ok) (hx7 : x.V ≤ 7) : Aj Tryz.prog 63 [x.D] (fun r=>r = .tuple [Ty x,.int .i64 0]):=by
 have hv:=hx.v
 have hv1:=hx.v1
 refine Aj.ofV ?_
 refine Ai (okc Tryz.f63.ntmps 0) (fn:=Tryz.f63) (cd:=_) rfl rfl rfl rfl rfl rfl (fun hbd=>?_)
 repeat' (
  conv=>whnf
  first
  |refine Ap (fun h=>?_) (fun h=>?_)
  |((with_reducible refine Aw ?_);refine Bd (R9 _) ?_))
 all_goals (conv=>whnf)
 ·exact absurd h (by omega)
 refine US x hx hx7 3 (by omega) _ (.var x.D) (.var (.agg [.nils])) (.var (.agg [.nils])) rfl
  (fun lp k H=>(k = 0 ∧ H = [.var x.D,.var (.agg [.nils]),.var (.agg [.nils]),lp]) ∨ (0 < k ∧ H = [.var x.D,.var (.agg [.nils]),.var (.agg [.sl 4 0 k]),lp,.row (.agg [.leaf,.leaf]) (FJ x k)])) _ ?_ ?_ ?_ (.inl ⟨rfl,rfl⟩)
 ·rintro k H (⟨rfl,rfl⟩|⟨hk0,rfl⟩)
  ·exact ⟨.inl ⟨_,_,_,_,rfl⟩,FR rfl⟩
  ·refine ⟨.inr ⟨_,_,_,_,_,rfl⟩,?_⟩
   intro o ho
   simp only [List.mem_cons,List.not_mem_nil,or_false] at ho
   rcases ho with rfl|rfl|rfl|rfl|rfl <;> first|rfl|exact B9 _ _ (IH x k)
 ·rintro k H (⟨rfl,rfl⟩|⟨hk0,rfl⟩) hk
  ·refine Bc (okc Tryz.f63.ntmps 4) rfl rfl rfl rfl rfl ?_
   repeat' (
    conv=>whnf
    first
    |((with_reducible apply ob);(exact oT)))
   all_goals (conv=>whnf)
   refine Ac ⟨rfl,[0,1,2,3,6],_,?_,rfl,.inl ⟨rfl,.inr ⟨by omega,rfl⟩⟩⟩
   exact ⟨A8 rfl rfl (A8 rfl rfl (A8 rfl rfl (A8 rfl rfl (Bb rfl (by rw [LR];rfl) (IH _ _) trivial)))),rfl,by simp⟩
  ·have hkk:=Nc x k
   refine Bc (okc Tryz.f63.ntmps 5) rfl rfl rfl rfl rfl ?_
   repeat' (
    conv=>whnf
    first
    |((with_reducible apply ob);(exact oT)))
   all_goals (conv=>whnf)
   refine Ac ⟨rfl,[0,1,2,3,7],_,?_,rfl,.inl ⟨rfl,.inr ⟨by omega,rfl⟩⟩⟩
   exact ⟨A8 rfl rfl (A8 rfl rfl (A8 rfl rfl (A8 rfl rfl (Bb rfl (by rw [LR];show List.take k (List.drop 0 (FJ x k)) ++ [_] = _;rw [List.drop_zero,List.take_of_length_le (by omega)];rfl) (IH _ _) trivial)))),rfl,by simp⟩
 ·rintro H (⟨h0,rfl⟩|⟨hk0,rfl⟩)
  ·omega
  ·conv=>whnf
   refine Ac ⟨_,.tuple [Ty x,.int .i64 0],.step 4 (.agg [.leaf,.leaf]) (FJ x x.V) rfl (IH _ _) (.refl _),.tuple _ _ (.cons _ _ _ _ (.agg _ _ (.cons _ _ _ _ (Bi rfl (Nc _ _)) .nil) rfl) (.cons _ _ _ _ (.refl _) .nil)),rfl,rfl⟩
open Go
def FB (x : Inc) (i : Nat) (j : Int) (m : List Int) : Bool :=
 KN x m && decide (m.take i = (Az (x.V - 1) (x.V - 1)).take i) && decide (m.getD i 0 = j) && (decide (j ≠ i) || decide (m = Az (x.V - 1) (x.V - 1)))
theorem WP (x : Inc) (i : Nat) (j : Int) (m : List Int) (hx : x.Ok) (hb : ∀ s ∈ x.B,∀ p ∈ Aa s,p < x.V) (hi : i < x.V) :
  Aj Tryz.prog 91 [iD i,.agg [.int .i64 j,Af m],.ref (.agg [.leaf,.leaf]) x.D,.ref .leaf (Af (Az (x.V - 1) (x.V - 1)))] (fun r=>r = .bool (FB x i j m)):=by
 have hm0:=Aq m
 have hv:=hx.v
 have hv1:=hx.v1
 have hpl:=Ff (x.V - 1) (x.V - 1)
 have hp0:=Aq (Az (x.V - 1) (x.V - 1))
 refine Aj.ofV ?_
 refine Ai (okc Tryz.f91.ntmps 0) (fn:=Tryz.f91) (cd:=_) rfl rfl rfl rfl rfl rfl (fun hbd=>?_)
 have hIs:=vIs x m (by omega) hx.b hx.n hb
 cases hg : KN x m with
 |false =>
  rw [hg] at hIs
  repeat' (
   conv=>whnf
   first
   |((with_reducible refine A0 ?_);refine A3 hIs ?_)
   |((with_reducible apply A1 33);rfl))
  all_goals (conv=>whnf)
  exact fC rfl (by simp [FB,hg];rfl)
 |true =>
  rw [hg] at hIs
  have hml : m.length = x.V:=by
   unfold KN at hg
   exact (of_decide_eq_true hg).1
  have e1 : (Ab m).take i = Ab (m.take i):=by simp [Ab]
  have e2 : (Ab (Az (x.V - 1) (x.V - 1))).take i = Ab ((Az (x.V - 1) (x.V - 1)).take i):=by simp [Ab]
  have hA : LeDs [.var (.agg [.int .i64 j,Af m])] [Af (m.take i),Af ((Az (x.V - 1) (x.V - 1)).take i)] [.list false .leaf (List.drop (Int.toNat 0) (List.take (i : Int).toNat (Ab m))),.list false .leaf (List.drop (Int.toNat 0) (List.take (i : Int).toNat (Ab (Az (x.V - 1) (x.V - 1)))))]:=by
   rw [show List.drop (Int.toNat 0) (List.take (i : Int).toNat (Ab m)) = Ab (m.take i) from by rw [Int.toNat_natCast,e1];rfl,show List.drop (Int.toNat 0) (List.take (i : Int).toNat (Ab (Az (x.V - 1) (x.V - 1)))) = Ab ((Az (x.V - 1) (x.V - 1)).take i) from by rw [Int.toNat_natCast,e2];rfl]
   exact Dj _ _
  by_cases he : m.take i = (Az (x.V - 1) (x.V - 1)).take i
  ·have heq:=Ln (m.take i) ((Az (x.V - 1) (x.V - 1)).take i)
   rw [decide_eq_true he] at heq
   repeat' (
    conv=>whnf
    first
    |refine Ap (fun h=>?_) (fun h=>?_)
    |refine D4 (fun h=>?_) (fun h=>?_)
    |((with_reducible refine Ga (by omega) ?_);intro y hy;(try simp only [Int.toNat_natCast,Nat.zero_add] at hy);(try have hyr:=hR _ (List.mem_of_getElem? hy)))
    |((with_reducible refine A0 ?_);refine A3 hIs ?_)
    |((with_reducible refine A0 ?_);refine Aj.pure heq hA rfl rfl ?_)
    |((with_reducible refine Aw ?_);refine Bd (Ln _ _) ?_)
    |((with_reducible apply A1 33);rfl)
    |((with_reducible apply ob);(exact oT)))
   all_goals (conv=>whnf)
   all_goals
    refine fC rfl (congrArg D.bool ?_)
    unfold FB
    simp_all [Bq (show m[i]? = some _ from by assumption)]
  ·have heq:=Ln (m.take i) ((Az (x.V - 1) (x.V - 1)).take i)
   rw [decide_eq_false he] at heq
   repeat' (
    conv=>whnf
    first
    |((with_reducible refine A0 ?_);refine A3 hIs ?_)
    |((with_reducible refine A0 ?_);refine Aj.pure heq hA rfl rfl ?_)
    |((with_reducible apply A1 33);rfl)
    |((with_reducible apply ob);(exact oT)))
   all_goals (conv=>whnf)
   refine fC rfl (congrArg D.bool ?_)
   unfold FB
   simp [he]
open Go
def NS (g h : List Int) (i : Nat) : Int:=h.getD (g.getD i 0).toNat 0
theorem MO (g h : List Int) : ∀ k,NT g h k = (List.range k).map (NS g h)
 |0=>rfl
 |k + 1=>by rw [NT,MO g h k,List.range_succ];simp [NS]
open Go
def Nk (l : List (List Int)) : List D:=l.map Af
def IV (l : List (List Int)) : D:=.list false .leaf (Nk l)
@[simp] theorem TY (l : List (List Int)) : (Nk l).length = l.length:=by simp [Nk]
open Go
open Go
open Go
def Adh (y : Int × List Int) : D:=.agg [.int .i64 y.1,Af y.2]
def JR (l : List (Int × List Int)) : List D:=l.map Adh
@[simp] theorem JZ (l : List (Int × List Int)) : (JR l).length = l.length:=by simp [JR]
open Go
def AbS (y : Int × Tree) : D:=.agg [.int .i64 y.1,DA y.2]
def Lc (l : List (Int × Tree)) : List D:=l.map AbS
@[simp] theorem Mz (l : List (Int × Tree)) : (Lc l).length = l.length:=by simp [Lc]
open Go
def Lh (n k t : Nat) : Nat:=k / Bl (n - t - 1) % (n - t)
def DC (n k : Nat) : Nat → List Int × List Int
 |0=>(Bh n,[])
 |t + 1=>((DC n k t).1.take (Lh n k t) ++ (DC n k t).1.drop (Lh n k t + 1),(DC n k t).2 ++ [(DC n k t).1.getD (Lh n k t) 0])
theorem Ra (n k : Nat) : ∀ t,t ≤ n → (DC n k t).1.length = n - t ∧ (DC n k t).2.length = t
 |0,_=>by simp [DC,Cp]
 |t + 1,h=>by
  obtain ⟨h1,h2⟩:=Ra n k t (by omega)
  have h3 : Lh n k t < n - t:=Nat.mod_lt _ (by omega)
  simp [DC,h1,h2];omega
theorem I7 : ∀ n,0 < Bl n
 |0=>by decide
 |n + 1=>Nat.mul_pos (by omega) (I7 n)
theorem TP (n k : Nat) (hn : n ≤ 12) (hk : k < 9223372036854775808) : Aj Tryz.prog 24 [iD n,iD k] (fun r=>r = Af (DC n k n).2):=by
 refine Aj.ofV ?_
 refine Ai (okc Tryz.f24.ntmps 0) (fn:=Tryz.f24) (cd:=_) rfl rfl rfl rfl rfl rfl (fun hbd=>?_)
 repeat' (
  conv=>whnf
  first
  |((with_reducible refine Aw ?_);refine Bd (AdF _ (by omega)) ?_))
 all_goals (conv=>whnf)
 refine Bt (X:=Nat) (fun t=>[(1,iD k),(5,Af (DC n k t).1),(6,.sl 0 0 t),(7,iD (n - t))]) (fun t=>[.row .leaf (Ab (DC n k t).2)]) (fun t=>t ≤ n) (fun t=>n - t) ⟨_,nx (ρ:=[0]) 0 Cj HI rfl rfl (Nat.lt_succ_self _) (Nat.zero_le _)⟩ ?_
 intro t ht
 obtain ⟨h1,h2⟩:=Ra n k t ht
 have h10 : (Ab (DC n k t).1).length = n - t:=by rw [Aq,h1]
 have h20 : (Ab (DC n k t).2).length = t:=by rw [Aq,h2]
 rcases Nat.lt_or_ge t n with hlt|hge
 ·obtain ⟨m,hm⟩ : ∃ m,n - t = m + 1:=⟨n - t - 1,by omega⟩
  rw [hm]
  repeat' (
   conv=>whnf
   first
   |refine Ap (fun h=>?_) (fun h=>?_)
   |with_reducible refine Ao ?_)
  all_goals (conv=>whnf)
  ·have hf0 : 0 < Bl m:=I7 m
   have hf1 : ((Bl m : Nat) : Int) ≠ 0:=by omega
   have hp : Lh n k t = k / Bl m % (m + 1):=by unfold Lh;rw [show n - t - 1 = m by omega,hm]
   have hpl : k / Bl m % (m + 1) < m + 1:=Nat.mod_lt _ (by omega)
   have hdv:=Nat.div_le_self k (Bl m)
   refine Aj.call (Wa m (by omega)) (.refl _) (by rw [show ((m + 1 : Nat) : Int) - 1 = (m : Int) by omega];exact Dj _ _) rfl ?_
   rintro r rfl
   repeat' (
    conv=>whnf
    first
    |with_reducible refine Ao ?_
    |((with_reducible refine Ga (by omega) ?_);intro y hy;(try simp only [Int.toNat_natCast,Nat.zero_add] at hy);(try have hyr:=hR _ (List.mem_of_getElem? hy)))
    |(refine ZQ (a:=k) (b:=Bl m) (by omega) ?_)
    |(refine NC (a:=k / Bl m) (b:=m + 1) ?_)
    |((with_reducible refine Aw ?_);refine Bd (UN _ _ (by omega) (by omega)) ?_)
    |((with_reducible apply ob);(exact oT)))
   all_goals (conv=>whnf)
   have e1 : (DC n k (t + 1)).1 = (DC n k t).1.take (k / Bl m % (m + 1)) ++ (DC n k t).1.drop (k / Bl m % (m + 1) + 1):=by rw [DC,hp]
   have e2 : (DC n k (t + 1)).2 = (DC n k t).2 ++ [y]:=by rw [DC,hp,Bq hy]
   have e3 : iD (n - (t + 1)) = .int .i64 (((m + 1 : Nat) : Int) - 1):=by
    rw [show n - (t + 1) = m by omega,show ((m + 1 : Nat) : Int) - 1 = (m : Int) by omega];rfl
   exact nx (ρ:=[2]) (t + 1) (by repeat (first|exact trivial|refine Au (by rw [e1];rfl) rfl ?_|refine Au (by rw [e3];rfl) rfl ?_|refine Au rfl rfl ?_)) (Bb rfl (by rw [e2];simp [Ab,List.take_of_length_le,h2]) (Ad _) trivial) rfl rfl (by omega) (by omega)
  ·exact absurd h (by omega)
 ·have hz : n - t = 0:=by omega
  have htn : t = n:=by omega
  rw [hz]
  all_goals (conv=>whnf)
  subst htn
  apply LT (Ab (DC t k t).2)
  case hg=>rfl
  case hc=>exact Ad _
  case h=>rfl
  ·rfl
  ·exact h20
open Go
abbrev Mo:=List (Int × List Int) × List (Int × Tree)
def Qg (l : Mo) : D:=.agg [.list false (.agg [.leaf,.leaf]) (JR l.1),.list false (.agg [.leaf,.agg [.leaf]]) (Lc l.2)]
def HZ (L : List Mo) : List D:=L.map Qg
def Qw (L : List Mo) : D:=.agg [.list false (.agg [.leaf,.leaf]) (HZ L)]
@[simp] theorem Um (L : List Mo) : (HZ L).length = L.length:=by simp [HZ]
def FZ (x : Inc) (i j : Nat) : List (Int × List Int) → Bool
 |[]=>false
 |y :: _=>decide (y.1 = (j : Int)) && FB x i y.1 y.2
def Ku (x : Inc) (i j : Nat) : List (Int × Tree) → Bool
 |[]=>false
 |u :: _=>decide (u.1 = (j : Int)) && Jd x x (Az i j) u.2
def D0 (x : Inc) (i : Nat) : Nat → Nat → List (Int × List Int) → List (Int × Tree) → Bool
 |0,_,ys,ns=>decide (ys.length + ns.length = 0)
 |f + 1,j,ys,ns=>if FZ x i j ys = true then D0 x i f (j + 1) ys.tail ns else if Ku x i j ns = true then D0 x i f (j + 1) ys ns.tail else false
def Gk (x : Inc) : Nat → Nat → List Mo → Nat
 |_,n,[]=>n
 |i,n,l :: L=>if D0 x i (x.V - i) i l.1 l.2 = true then Gk x (i + 1) (n * l.1.length) L else 0
def Jr (x : Inc) (L : List Mo) : Nat:=if L.length = x.V then Gk x 0 1 L else 0
def Tb (n : Nat) : D:=.tuple [iD n,.int .i64 (if n = 0 then 200 else 0)]
open Go
theorem exL {l : List Mo} {n : Nat} {k : D → Prop} (h : n < l.length) (hk : ∀ a,l[n]? = some a → k (Qg a)) : ∃ d,(HZ l)[n]? = some d ∧ k d:=U5 (f:=Qg) h hk
theorem Yd {yj : Int} {ym : List Int} {l : List (Int × List Int)} {k : D → Prop} (hk : k (.agg [.int .i64 yj,Af ym])) : ∃ d,(JR ((yj,ym) :: l))[(0 : Int).toNat]? = some d ∧ k d:=⟨_,rfl,hk⟩
theorem Xf {yj : Int} {t : Tree} {l : List (Int × Tree)} {k : D → Prop} (hk : k (.agg [.int .i64 yj,DA t])) : ∃ d,(Lc ((yj,t) :: l))[(0 : Int).toNat]? = some d ∧ k d:=⟨_,rfl,hk⟩
theorem B2 {x : Inc} {i j : Nat} {yj : Int} {ym : List Int} {yt : List (Int × List Int)} (h : FB x i yj ym = false) : FZ x i j ((yj,ym) :: yt) = false:=by simp [FZ,h]
theorem B3 {x : Inc} {i j : Nat} {yj : Int} {ym : List Int} {yt : List (Int × List Int)} (h : ¬ yj = (j : Int)) : FZ x i j ((yj,ym) :: yt) = false:=by simp [FZ,h]
theorem BR {x : Inc} {i j : Nat} {yj : Int} {ym : List Int} {yt : List (Int × List Int)} (h : yj = (j : Int)) (hr : FB x i yj ym = true) : FZ x i j ((yj,ym) :: yt) = true:=by simp [FZ,hr];exact h
theorem BQ {x : Inc} {i j : Nat} {yj : Int} {t : Tree} {yt : List (Int × Tree)} (h : Jd x x (Az i j) t = false) : Ku x i j ((yj,t) :: yt) = false:=by simp [Ku,h]
theorem BP {x : Inc} {i j : Nat} {yj : Int} {t : Tree} {yt : List (Int × Tree)} (h : ¬ yj = (j : Int)) : Ku x i j ((yj,t) :: yt) = false:=by simp [Ku,h]
theorem Cw {x : Inc} {i j : Nat} {yj : Int} {t : Tree} {yt : List (Int × Tree)} (h : yj = (j : Int)) (hr : Jd x x (Az i j) t = true) : Ku x i j ((yj,t) :: yt) = true:=by simp [Ku,hr];exact h
theorem E7 {x : Inc} {i j : Nat} {ys : List (Int × List Int)} {ns : List (Int × Tree)} (hj : j < x.V) (h : FZ x i j ys = true) : D0 x i (x.V - j) j ys ns = D0 x i (x.V - (j + 1)) (j + 1) ys.tail ns:=by
 obtain ⟨f,hf⟩ : ∃ f,x.V - j = f + 1:=⟨x.V - j - 1,by omega⟩
 rw [hf,show x.V - (j + 1) = f by omega,D0,if_pos h]
theorem FA {x : Inc} {i j : Nat} {ys : List (Int × List Int)} {ns : List (Int × Tree)} (hj : j < x.V) (h : FZ x i j ys = false) (h2 : Ku x i j ns = true) : D0 x i (x.V - j) j ys ns = D0 x i (x.V - (j + 1)) (j + 1) ys ns.tail:=by
 obtain ⟨f,hf⟩ : ∃ f,x.V - j = f + 1:=⟨x.V - j - 1,by omega⟩
 rw [hf,show x.V - (j + 1) = f by omega,D0,if_neg (by simp [h]),if_pos h2]
theorem IZ {x : Inc} {i j : Nat} {ys : List (Int × List Int)} {ns : List (Int × Tree)} (hj : j < x.V) (h : FZ x i j ys = false) (h2 : Ku x i j ns = false) : D0 x i (x.V - j) j ys ns = false:=by
 obtain ⟨f,hf⟩ : ∃ f,x.V - j = f + 1:=⟨x.V - j - 1,by omega⟩
 rw [hf,D0,if_neg (by simp [h]),if_neg (by simp [h2])]
theorem MH (x : Inc) (i : Nat) : ∀ f j ys ns,D0 x i f j ys ns = true → ys.length ≤ f
 |0,j,ys,ns,h=>by have:=of_decide_eq_true h;omega
 |f + 1,j,ys,ns,h=>by
  unfold D0 at h
  by_cases hy : FZ x i j ys = true
  ·rw [if_pos hy] at h
   have:=MH x i f _ _ _ h
   simp only [List.length_tail] at this;omega
  ·rw [if_neg hy] at h
   by_cases hn : Ku x i j ns = true
   ·rw [if_pos hn] at h
    have:=MH x i f _ _ _ h;omega
   ·rw [if_neg hn] at h;cases h
theorem H7 {x : Int} {n : Nat} {k : Int → Prop} (h : x = (n : Int)) (hn : n < 9223372036854775808) (hk : k (n : Int)) : ∃ r,IntKind.i64.wrap x = r ∧ k r :=
 ⟨_,by rw [h];exact Qn (by omega) (by omega),hk⟩
def Qc (x : Inc) : D:=.func 91 [.ref (.agg [.leaf,.leaf]) x.D,.ref .leaf (Af (Az (x.V - 1) (x.V - 1)))]
theorem Ww (x : Inc) (hx : x.Ok) (hx7 : x.V ≤ 7) (hb : ∀ s ∈ x.B,∀ p ∈ Aa s,p < x.V) (L : List Mo) (hL : ∀ l ∈ L,l.1.length ≤ 1000000 ∧ l.2.length ≤ 1000000) : Aj Tryz.prog 64 [x.D,Qw L] (fun r=>r = Tb (Jr x L)):=by
 have hv:=hx.v
 have hv1:=hx.v1
 have hpl:=Ff (x.V - 1) (x.V - 1)
 have hp0:=Aq (Az (x.V - 1) (x.V - 1))
 have hL0:=Um L
 have hpv:=Bg (x.V - 1) (x.V - 1) (by omega)
 rw [show iD (x.V - 1) = .int .i64 ((x.V : Int) - 1) from by show D.int _ _ = _;rw [Int.natCast_sub hv1];rfl] at hpv
 refine Aj.ofV ?_
 refine Ai (okc Tryz.f64.ntmps 0) (fn:=Tryz.f64) (cd:=_) rfl rfl rfl rfl rfl rfl (fun hbd=>?_)
 by_cases hLV : L.length = x.V
 ·repeat' (
   conv=>whnf
   first
   |refine Ap (fun h=>?_) (fun h=>?_)
   |refine D4 (fun h=>?_) (fun h=>?_)
   |with_reducible refine Ao ?_
   |((with_reducible refine Aw ?_);refine Bd hpv ?_))
  all_goals (conv=>whnf)
  all_goals (first|(exfalso;omega)|skip)
  refine Bt (X:=Nat × Nat) (fun y=>[(2,.ref (.agg [.leaf,.leaf]) x.D),(7,Qc x),(8,iD y.2),(34,.list false (.agg [.leaf,.leaf]) (HZ L)),(35,iD (HZ L).length),(36,iD y.1)]) (fun y=>[])
   (fun y=>y.1 ≤ x.V ∧ y.2 ≤ 7 ^ y.1 ∧ Gk x 0 1 L = Gk x y.1 y.2 (L.drop y.1)) (fun y=>x.V - y.1) ⟨_,RM (ρ:=[]) (0,1) (.fvar 0 x.D rfl rfl (.fvar 2 (Af (Az (x.V - 1) (x.V - 1))) rfl rfl (.refl _))) ?_ trivial rfl rfl (Nat.lt_succ_self _) ⟨Nat.zero_le _,Nat.le_refl _,rfl⟩⟩ ?_
  ·exact Uh (show LeD _ (.ref (.agg [.leaf,.leaf]) x.D) (.ptr 0 []) from .fvar 0 x.D rfl) rfl (Uh (show LeD _ (Qc x) (.func 91 [.ptr 0 [],.ptr 2 []]) from .func _ _ _ (.cons _ _ _ _ (show LeD _ (.ref (.agg [.leaf,.leaf]) x.D) (.ptr 0 []) from .fvar 0 x.D rfl) (.cons _ _ _ _ (show LeD _ (.ref .leaf (Af (Az (x.V - 1) (x.V - 1)))) (.ptr 2 []) from .fvar 2 (Af (Az (x.V - 1) (x.V - 1))) rfl) .nil))) rfl Cj)
  rintro ⟨i,n⟩ ⟨hi,hn,hc⟩
  dsimp only at hi hn hc ⊢
  rcases Nat.lt_or_ge i x.V with hlt|hge
  ·obtain ⟨⟨ys,ns⟩,hl⟩ : ∃ l,L[i]? = some l:=⟨L[i],List.getElem?_eq_getElem (by omega)⟩
   have hL2:=hL _ (List.mem_of_getElem? hl)
   dsimp only at hL2
   have hdrop : L.drop i = (ys,ns) :: L.drop (i + 1):=by
    rw [List.drop_eq_getElem_cons (by omega)]
    rw [List.getElem?_eq_getElem (by omega)] at hl
    rw [Option.some.inj hl]
   have hfail : D0 x i (x.V - i) i ys ns = false → Tb (Jr x L) = .tuple [.int .i64 0,.int .i64 200]:=fun e=>by
    unfold Jr;rw [if_pos hLV,hc,hdrop,Gk,if_neg (by simp [e])];rfl
   have hgo : D0 x i (x.V - i) i ys ns = true → Gk x 0 1 L = Gk x (i + 1) (n * ys.length) (L.drop (i + 1)):=fun e=>by
    rw [hc,hdrop,Gk,if_pos e]
   have hnb : n ≤ 823543:=Nat.le_trans hn (Nat.le_trans (Nat.pow_le_pow_right (by omega) (show i ≤ 7 by omega)) (by decide))
   have hnm : n * ys.length ≤ 823543 * 1000000:=Nat.mul_le_mul hnb hL2.1
   have hnm2 : (n : Int) * (((JR ys).length : Nat) : Int) = ((n * ys.length : Nat) : Int):=by rw [JZ,Int.natCast_mul]
   repeat' (
    conv=>whnf
    first
    |refine Ap (fun h=>?_) (fun h=>?_)
    |((with_reducible refine exL (by omega) ?_);intro y hy;simp only [Int.toNat_natCast] at hy;rw [hl] at hy;obtain rfl:=Option.some.inj hy)
    |((with_reducible refine H7 hnm2 (by omega) ?_))
    |((with_reducible apply A1 5);rfl)
    |((with_reducible apply ob);(exact oT)))
   all_goals (conv=>whnf)
   all_goals (first|(exfalso;omega)|skip)
   refine Bt (X:=Nat × List (Int × List Int) × List (Int × Tree)) (fun y=>[(2,.ref (.agg [.leaf,.leaf]) x.D),(7,Qc x),(8,iD (n * ys.length)),(9,iD i),(11,.list false (.agg [.leaf,.leaf]) (JR y.2.1)),(12,.list false (.agg [.leaf,.agg [.leaf]]) (Lc y.2.2)),(13,iD y.1),(34,.list false (.agg [.leaf,.leaf]) (HZ L)),(35,iD (HZ L).length),(36,iD i)]) (fun y=>[])
    (fun y=>i ≤ y.1 ∧ y.1 ≤ x.V ∧ y.2.1.length ≤ 1000000 ∧ y.2.2.length ≤ 1000000 ∧ D0 x i (x.V - i) i ys ns = D0 x i (x.V - y.1) y.1 y.2.1 y.2.2) (fun y=>x.V - y.1) ⟨_,nx (ρ:=[]) (i,ys,ns) Cj trivial rfl rfl (Nat.lt_succ_self _) ⟨Nat.le_refl _,hi,hL2.1,hL2.2,rfl⟩⟩ ?_
   rintro ⟨j,ys',ns'⟩ ⟨hij,hj,hy1,hn1,hrun⟩
   dsimp only at hij hj hy1 hn1 hrun ⊢
   rcases Nat.lt_or_ge j x.V with hjl|hjg
   ·have hd:=Ib i j x.V hij hjl
    have hpj:=Ff i j
    have hck:=fun yj ym=>WP x i yj ym hx hb hlt
    have hch:=fun um=>WZ x x (Az i j) (.node um) hx hx hx7 hx7 hd (by omega)
    rcases ys' with _|⟨⟨yj,ym⟩,yt⟩ <;> rcases ns' with _|⟨⟨uj,⟨um⟩⟩,ut⟩
    ·repeat' (
      conv=>whnf
      first
      |refine Ap (fun h=>?_) (fun h=>?_)
      |with_reducible refine Ao ?_
      |((with_reducible apply A1 21);rfl))
     all_goals (conv=>whnf)
     all_goals (first|(exfalso;omega)|skip)
     all_goals first
      |(refine fC rfl (Eq.symm (hfail (hrun.trans (IZ hjl ?_ ?_)))) <;> (first|rfl|(refine B2 ?_;assumption)|(refine B3 ?_;assumption)|(refine BR ?_ ?_ <;> assumption)|(refine BQ ?_;assumption)|(refine BP ?_;assumption)|(refine Cw ?_ ?_ <;> assumption)))
      |(refine A4 (X:=Nat × List (Int × List Int) × List (Int × Tree)) (j + 1,yt,[]) ?_ rfl ?_ ?_ <;> first|(refine ⟨?_,?_,?_,hn1,hrun.trans (E7 hjl ?_)⟩ <;> first|(dsimp only;omega)|(simp only [List.length_cons] at hy1 ⊢;omega)|(refine B2 ?_;assumption)|(refine B3 ?_;assumption)|(refine BR ?_ ?_ <;> assumption)|(refine BQ ?_;assumption)|(refine BP ?_;assumption)|(refine Cw ?_ ?_ <;> assumption))|(dsimp only;omega)|(simp only [List.length_cons] at hy1 ⊢;omega)|(refine B2 ?_;assumption)|(refine B3 ?_;assumption)|(refine BR ?_ ?_ <;> assumption)|(refine BQ ?_;assumption)|(refine BP ?_;assumption)|(refine Cw ?_ ?_ <;> assumption)|(focus (repeat (first|exact trivial|refine B7 rfl ?_));done))
      |(refine A4 (X:=Nat × List (Int × List Int) × List (Int × Tree)) (j + 1,yt,(uj,Tree.node um) :: ut) ?_ rfl ?_ ?_ <;> first|(refine ⟨?_,?_,?_,hn1,hrun.trans (E7 hjl ?_)⟩ <;> first|(dsimp only;omega)|(simp only [List.length_cons] at hy1 ⊢;omega)|(refine B2 ?_;assumption)|(refine B3 ?_;assumption)|(refine BR ?_ ?_ <;> assumption)|(refine BQ ?_;assumption)|(refine BP ?_;assumption)|(refine Cw ?_ ?_ <;> assumption))|(dsimp only;omega)|(simp only [List.length_cons] at hy1 ⊢;omega)|(refine B2 ?_;assumption)|(refine B3 ?_;assumption)|(refine BR ?_ ?_ <;> assumption)|(refine BQ ?_;assumption)|(refine BP ?_;assumption)|(refine Cw ?_ ?_ <;> assumption)|(focus (repeat (first|exact trivial|refine B7 rfl ?_));done))
      |(refine A4 (X:=Nat × List (Int × List Int) × List (Int × Tree)) (j + 1,[],ut) ?_ rfl ?_ ?_ <;> first|(refine ⟨?_,?_,hy1,?_,hrun.trans (FA hjl ?_ ?_)⟩ <;> first|rfl|(dsimp only;omega)|(simp only [List.length_cons] at hn1 ⊢;omega)|(refine B2 ?_;assumption)|(refine B3 ?_;assumption)|(refine BR ?_ ?_ <;> assumption)|(refine BQ ?_;assumption)|(refine BP ?_;assumption)|(refine Cw ?_ ?_ <;> assumption))|rfl|(dsimp only;omega)|(simp only [List.length_cons] at hn1 ⊢;omega)|(refine B2 ?_;assumption)|(refine B3 ?_;assumption)|(refine BR ?_ ?_ <;> assumption)|(refine BQ ?_;assumption)|(refine BP ?_;assumption)|(refine Cw ?_ ?_ <;> assumption)|(focus (repeat (first|exact trivial|refine B7 rfl ?_));done))
      |(refine A4 (X:=Nat × List (Int × List Int) × List (Int × Tree)) (j + 1,(yj,ym) :: yt,ut) ?_ rfl ?_ ?_ <;> first|(refine ⟨?_,?_,hy1,?_,hrun.trans (FA hjl ?_ ?_)⟩ <;> first|rfl|(dsimp only;omega)|(simp only [List.length_cons] at hn1 ⊢;omega)|(refine B2 ?_;assumption)|(refine B3 ?_;assumption)|(refine BR ?_ ?_ <;> assumption)|(refine BQ ?_;assumption)|(refine BP ?_;assumption)|(refine Cw ?_ ?_ <;> assumption))|rfl|(dsimp only;omega)|(simp only [List.length_cons] at hn1 ⊢;omega)|(refine B2 ?_;assumption)|(refine B3 ?_;assumption)|(refine BR ?_ ?_ <;> assumption)|(refine BQ ?_;assumption)|(refine BP ?_;assumption)|(refine Cw ?_ ?_ <;> assumption)|(focus (repeat (first|exact trivial|refine B7 rfl ?_));done))
      |skip
    ·have hp2 : (0 : Int) < ((Lc ((uj,Tree.node um) :: ut)).length : Int):=by simp only [Mz,List.length_cons];omega
     have hch:=hch um
     cases hk : Jd x x (Az i j) (.node um) <;> rw [hk] at hch
     all_goals
      repeat' (
       conv=>whnf
       first
       |refine Ap (fun h=>?_) (fun h=>?_)
       |with_reducible refine Ao ?_
       |((with_reducible refine Xf ?_))
       |((with_reducible refine Aw ?_);refine Bd hch ?_)
       |((with_reducible refine A0 ?_);refine A3 (Bg _ _ (by omega)) ?_)
       |((with_reducible apply A1 21);rfl)
       |((with_reducible apply ob);(exact oT)))
      all_goals (conv=>whnf)
      all_goals (first|(exfalso;omega)|skip)
      all_goals first
       |(refine fC rfl (Eq.symm (hfail (hrun.trans (IZ hjl ?_ ?_)))) <;> (first|rfl|(refine B2 ?_;assumption)|(refine B3 ?_;assumption)|(refine BR ?_ ?_ <;> assumption)|(refine BQ ?_;assumption)|(refine BP ?_;assumption)|(refine Cw ?_ ?_ <;> assumption)))
       |(refine A4 (X:=Nat × List (Int × List Int) × List (Int × Tree)) (j + 1,yt,[]) ?_ rfl ?_ ?_ <;> first|(refine ⟨?_,?_,?_,hn1,hrun.trans (E7 hjl ?_)⟩ <;> first|(dsimp only;omega)|(simp only [List.length_cons] at hy1 ⊢;omega)|(refine B2 ?_;assumption)|(refine B3 ?_;assumption)|(refine BR ?_ ?_ <;> assumption)|(refine BQ ?_;assumption)|(refine BP ?_;assumption)|(refine Cw ?_ ?_ <;> assumption))|(dsimp only;omega)|(simp only [List.length_cons] at hy1 ⊢;omega)|(refine B2 ?_;assumption)|(refine B3 ?_;assumption)|(refine BR ?_ ?_ <;> assumption)|(refine BQ ?_;assumption)|(refine BP ?_;assumption)|(refine Cw ?_ ?_ <;> assumption)|(focus (repeat (first|exact trivial|refine B7 rfl ?_));done))
       |(refine A4 (X:=Nat × List (Int × List Int) × List (Int × Tree)) (j + 1,yt,(uj,Tree.node um) :: ut) ?_ rfl ?_ ?_ <;> first|(refine ⟨?_,?_,?_,hn1,hrun.trans (E7 hjl ?_)⟩ <;> first|(dsimp only;omega)|(simp only [List.length_cons] at hy1 ⊢;omega)|(refine B2 ?_;assumption)|(refine B3 ?_;assumption)|(refine BR ?_ ?_ <;> assumption)|(refine BQ ?_;assumption)|(refine BP ?_;assumption)|(refine Cw ?_ ?_ <;> assumption))|(dsimp only;omega)|(simp only [List.length_cons] at hy1 ⊢;omega)|(refine B2 ?_;assumption)|(refine B3 ?_;assumption)|(refine BR ?_ ?_ <;> assumption)|(refine BQ ?_;assumption)|(refine BP ?_;assumption)|(refine Cw ?_ ?_ <;> assumption)|(focus (repeat (first|exact trivial|refine B7 rfl ?_));done))
       |(refine A4 (X:=Nat × List (Int × List Int) × List (Int × Tree)) (j + 1,[],ut) ?_ rfl ?_ ?_ <;> first|(refine ⟨?_,?_,hy1,?_,hrun.trans (FA hjl ?_ ?_)⟩ <;> first|rfl|(dsimp only;omega)|(simp only [List.length_cons] at hn1 ⊢;omega)|(refine B2 ?_;assumption)|(refine B3 ?_;assumption)|(refine BR ?_ ?_ <;> assumption)|(refine BQ ?_;assumption)|(refine BP ?_;assumption)|(refine Cw ?_ ?_ <;> assumption))|rfl|(dsimp only;omega)|(simp only [List.length_cons] at hn1 ⊢;omega)|(refine B2 ?_;assumption)|(refine B3 ?_;assumption)|(refine BR ?_ ?_ <;> assumption)|(refine BQ ?_;assumption)|(refine BP ?_;assumption)|(refine Cw ?_ ?_ <;> assumption)|(focus (repeat (first|exact trivial|refine B7 rfl ?_));done))
       |(refine A4 (X:=Nat × List (Int × List Int) × List (Int × Tree)) (j + 1,(yj,ym) :: yt,ut) ?_ rfl ?_ ?_ <;> first|(refine ⟨?_,?_,hy1,?_,hrun.trans (FA hjl ?_ ?_)⟩ <;> first|rfl|(dsimp only;omega)|(simp only [List.length_cons] at hn1 ⊢;omega)|(refine B2 ?_;assumption)|(refine B3 ?_;assumption)|(refine BR ?_ ?_ <;> assumption)|(refine BQ ?_;assumption)|(refine BP ?_;assumption)|(refine Cw ?_ ?_ <;> assumption))|rfl|(dsimp only;omega)|(simp only [List.length_cons] at hn1 ⊢;omega)|(refine B2 ?_;assumption)|(refine B3 ?_;assumption)|(refine BR ?_ ?_ <;> assumption)|(refine BQ ?_;assumption)|(refine BP ?_;assumption)|(refine Cw ?_ ?_ <;> assumption)|(focus (repeat (first|exact trivial|refine B7 rfl ?_));done))
       |skip
    ·have hp1 : (0 : Int) < ((JR ((yj,ym) :: yt)).length : Int):=by simp only [JZ,List.length_cons];omega
     have hck:=hck yj ym
     cases hr : FB x i yj ym <;> rw [hr] at hck
     all_goals
      repeat' (
       conv=>whnf
       first
       |refine Ap (fun h=>?_) (fun h=>?_)
       |with_reducible refine Ao ?_
       |((with_reducible refine Yd ?_))
       |((with_reducible refine Aw ?_);refine Bd hck ?_)
       |((with_reducible apply A1 21);rfl)
       |((with_reducible apply ob);(exact oT)))
      all_goals (conv=>whnf)
      all_goals (first|(exfalso;omega)|skip)
      all_goals first
       |(refine fC rfl (Eq.symm (hfail (hrun.trans (IZ hjl ?_ ?_)))) <;> (first|rfl|(refine B2 ?_;assumption)|(refine B3 ?_;assumption)|(refine BR ?_ ?_ <;> assumption)|(refine BQ ?_;assumption)|(refine BP ?_;assumption)|(refine Cw ?_ ?_ <;> assumption)))
       |(refine A4 (X:=Nat × List (Int × List Int) × List (Int × Tree)) (j + 1,yt,[]) ?_ rfl ?_ ?_ <;> first|(refine ⟨?_,?_,?_,hn1,hrun.trans (E7 hjl ?_)⟩ <;> first|(dsimp only;omega)|(simp only [List.length_cons] at hy1 ⊢;omega)|(refine B2 ?_;assumption)|(refine B3 ?_;assumption)|(refine BR ?_ ?_ <;> assumption)|(refine BQ ?_;assumption)|(refine BP ?_;assumption)|(refine Cw ?_ ?_ <;> assumption))|(dsimp only;omega)|(simp only [List.length_cons] at hy1 ⊢;omega)|(refine B2 ?_;assumption)|(refine B3 ?_;assumption)|(refine BR ?_ ?_ <;> assumption)|(refine BQ ?_;assumption)|(refine BP ?_;assumption)|(refine Cw ?_ ?_ <;> assumption)|(focus (repeat (first|exact trivial|refine B7 rfl ?_));done))
       |(refine A4 (X:=Nat × List (Int × List Int) × List (Int × Tree)) (j + 1,yt,(uj,Tree.node um) :: ut) ?_ rfl ?_ ?_ <;> first|(refine ⟨?_,?_,?_,hn1,hrun.trans (E7 hjl ?_)⟩ <;> first|(dsimp only;omega)|(simp only [List.length_cons] at hy1 ⊢;omega)|(refine B2 ?_;assumption)|(refine B3 ?_;assumption)|(refine BR ?_ ?_ <;> assumption)|(refine BQ ?_;assumption)|(refine BP ?_;assumption)|(refine Cw ?_ ?_ <;> assumption))|(dsimp only;omega)|(simp only [List.length_cons] at hy1 ⊢;omega)|(refine B2 ?_;assumption)|(refine B3 ?_;assumption)|(refine BR ?_ ?_ <;> assumption)|(refine BQ ?_;assumption)|(refine BP ?_;assumption)|(refine Cw ?_ ?_ <;> assumption)|(focus (repeat (first|exact trivial|refine B7 rfl ?_));done))
       |(refine A4 (X:=Nat × List (Int × List Int) × List (Int × Tree)) (j + 1,[],ut) ?_ rfl ?_ ?_ <;> first|(refine ⟨?_,?_,hy1,?_,hrun.trans (FA hjl ?_ ?_)⟩ <;> first|rfl|(dsimp only;omega)|(simp only [List.length_cons] at hn1 ⊢;omega)|(refine B2 ?_;assumption)|(refine B3 ?_;assumption)|(refine BR ?_ ?_ <;> assumption)|(refine BQ ?_;assumption)|(refine BP ?_;assumption)|(refine Cw ?_ ?_ <;> assumption))|rfl|(dsimp only;omega)|(simp only [List.length_cons] at hn1 ⊢;omega)|(refine B2 ?_;assumption)|(refine B3 ?_;assumption)|(refine BR ?_ ?_ <;> assumption)|(refine BQ ?_;assumption)|(refine BP ?_;assumption)|(refine Cw ?_ ?_ <;> assumption)|(focus (repeat (first|exact trivial|refine B7 rfl ?_));done))
       |(refine A4 (X:=Nat × List (Int × List Int) × List (Int × Tree)) (j + 1,(yj,ym) :: yt,ut) ?_ rfl ?_ ?_ <;> first|(refine ⟨?_,?_,hy1,?_,hrun.trans (FA hjl ?_ ?_)⟩ <;> first|rfl|(dsimp only;omega)|(simp only [List.length_cons] at hn1 ⊢;omega)|(refine B2 ?_;assumption)|(refine B3 ?_;assumption)|(refine BR ?_ ?_ <;> assumption)|(refine BQ ?_;assumption)|(refine BP ?_;assumption)|(refine Cw ?_ ?_ <;> assumption))|rfl|(dsimp only;omega)|(simp only [List.length_cons] at hn1 ⊢;omega)|(refine B2 ?_;assumption)|(refine B3 ?_;assumption)|(refine BR ?_ ?_ <;> assumption)|(refine BQ ?_;assumption)|(refine BP ?_;assumption)|(refine Cw ?_ ?_ <;> assumption)|(focus (repeat (first|exact trivial|refine B7 rfl ?_));done))
       |skip
    ·have hp1 : (0 : Int) < ((JR ((yj,ym) :: yt)).length : Int):=by simp only [JZ,List.length_cons];omega
     have hp2 : (0 : Int) < ((Lc ((uj,Tree.node um) :: ut)).length : Int):=by simp only [Mz,List.length_cons];omega
     have hck:=hck yj ym
     have hch:=hch um
     cases hr : FB x i yj ym <;> rw [hr] at hck <;> cases hk : Jd x x (Az i j) (.node um) <;> rw [hk] at hch
     all_goals
      repeat' (
       conv=>whnf
       first
       |refine Ap (fun h=>?_) (fun h=>?_)
       |with_reducible refine Ao ?_
       |((with_reducible refine Yd ?_))
       |((with_reducible refine Xf ?_))
       |((with_reducible refine Aw ?_);refine Bd hck ?_)
       |((with_reducible refine Aw ?_);refine Bd hch ?_)
       |((with_reducible refine A0 ?_);refine A3 (Bg _ _ (by omega)) ?_)
       |((with_reducible apply A1 21);rfl)
       |((with_reducible apply ob);(exact oT)))
      all_goals (conv=>whnf)
      all_goals (first|(exfalso;omega)|skip)
      all_goals first
       |(refine fC rfl (Eq.symm (hfail (hrun.trans (IZ hjl ?_ ?_)))) <;> (first|rfl|(refine B2 ?_;assumption)|(refine B3 ?_;assumption)|(refine BR ?_ ?_ <;> assumption)|(refine BQ ?_;assumption)|(refine BP ?_;assumption)|(refine Cw ?_ ?_ <;> assumption)))
       |(refine A4 (X:=Nat × List (Int × List Int) × List (Int × Tree)) (j + 1,yt,[]) ?_ rfl ?_ ?_ <;> first|(refine ⟨?_,?_,?_,hn1,hrun.trans (E7 hjl ?_)⟩ <;> first|(dsimp only;omega)|(simp only [List.length_cons] at hy1 ⊢;omega)|(refine B2 ?_;assumption)|(refine B3 ?_;assumption)|(refine BR ?_ ?_ <;> assumption)|(refine BQ ?_;assumption)|(refine BP ?_;assumption)|(refine Cw ?_ ?_ <;> assumption))|(dsimp only;omega)|(simp only [List.length_cons] at hy1 ⊢;omega)|(refine B2 ?_;assumption)|(refine B3 ?_;assumption)|(refine BR ?_ ?_ <;> assumption)|(refine BQ ?_;assumption)|(refine BP ?_;assumption)|(refine Cw ?_ ?_ <;> assumption)|(focus (repeat (first|exact trivial|refine B7 rfl ?_));done))
       |(refine A4 (X:=Nat × List (Int × List Int) × List (Int × Tree)) (j + 1,yt,(uj,Tree.node um) :: ut) ?_ rfl ?_ ?_ <;> first|(refine ⟨?_,?_,?_,hn1,hrun.trans (E7 hjl ?_)⟩ <;> first|(dsimp only;omega)|(simp only [List.length_cons] at hy1 ⊢;omega)|(refine B2 ?_;assumption)|(refine B3 ?_;assumption)|(refine BR ?_ ?_ <;> assumption)|(refine BQ ?_;assumption)|(refine BP ?_;assumption)|(refine Cw ?_ ?_ <;> assumption))|(dsimp only;omega)|(simp only [List.length_cons] at hy1 ⊢;omega)|(refine B2 ?_;assumption)|(refine B3 ?_;assumption)|(refine BR ?_ ?_ <;> assumption)|(refine BQ ?_;assumption)|(refine BP ?_;assumption)|(refine Cw ?_ ?_ <;> assumption)|(focus (repeat (first|exact trivial|refine B7 rfl ?_));done))
       |(refine A4 (X:=Nat × List (Int × List Int) × List (Int × Tree)) (j + 1,[],ut) ?_ rfl ?_ ?_ <;> first|(refine ⟨?_,?_,hy1,?_,hrun.trans (FA hjl ?_ ?_)⟩ <;> first|rfl|(dsimp only;omega)|(simp only [List.length_cons] at hn1 ⊢;omega)|(refine B2 ?_;assumption)|(refine B3 ?_;assumption)|(refine BR ?_ ?_ <;> assumption)|(refine BQ ?_;assumption)|(refine BP ?_;assumption)|(refine Cw ?_ ?_ <;> assumption))|rfl|(dsimp only;omega)|(simp only [List.length_cons] at hn1 ⊢;omega)|(refine B2 ?_;assumption)|(refine B3 ?_;assumption)|(refine BR ?_ ?_ <;> assumption)|(refine BQ ?_;assumption)|(refine BP ?_;assumption)|(refine Cw ?_ ?_ <;> assumption)|(focus (repeat (first|exact trivial|refine B7 rfl ?_));done))
       |(refine A4 (X:=Nat × List (Int × List Int) × List (Int × Tree)) (j + 1,(yj,ym) :: yt,ut) ?_ rfl ?_ ?_ <;> first|(refine ⟨?_,?_,hy1,?_,hrun.trans (FA hjl ?_ ?_)⟩ <;> first|rfl|(dsimp only;omega)|(simp only [List.length_cons] at hn1 ⊢;omega)|(refine B2 ?_;assumption)|(refine B3 ?_;assumption)|(refine BR ?_ ?_ <;> assumption)|(refine BQ ?_;assumption)|(refine BP ?_;assumption)|(refine Cw ?_ ?_ <;> assumption))|rfl|(dsimp only;omega)|(simp only [List.length_cons] at hn1 ⊢;omega)|(refine B2 ?_;assumption)|(refine B3 ?_;assumption)|(refine BR ?_ ?_ <;> assumption)|(refine BQ ?_;assumption)|(refine BP ?_;assumption)|(refine Cw ?_ ?_ <;> assumption)|(focus (repeat (first|exact trivial|refine B7 rfl ?_));done))
       |skip
   ·have hjv : j = x.V:=by omega
    have hl1:=JZ ys'
    have hl2:=Mz ns'
    subst hjv
    have hrun2 : D0 x i (x.V - i) i ys ns = decide (ys'.length + ns'.length = 0):=by rw [hrun,Nat.sub_self];rfl
    repeat' (
     conv=>whnf
     first
     |refine Ap (fun h=>?_) (fun h=>?_)
     |with_reducible refine Ao ?_
     |((with_reducible apply A1 21);rfl)
     |((with_reducible apply ob);(exact oT)))
    all_goals (conv=>whnf)
    all_goals (first|(exfalso;omega)|skip)
    ·exact fC rfl (Eq.symm (hfail (by rw [hrun2];exact decide_eq_false (by omega))))
    ·have ht : D0 x i (x.V - i) i ys ns = true:=by rw [hrun2];exact decide_eq_true (by omega)
     have hle:=MH x i _ _ _ _ ht
     refine nx (X:=Nat × Nat) (ρ:=[]) (i + 1,n * ys.length) Cj trivial rfl rfl ?_ ?_
     ·dsimp only;omega
     ·refine ⟨?_,?_,hgo ht⟩
      ·dsimp only;omega
      ·dsimp only;rw [Nat.pow_succ];exact Nat.mul_le_mul hn (by omega)
  ·have hiv : i = x.V:=by omega
   have hlast : Jr x L = n:=by
    unfold Jr;rw [if_pos hLV,hc,List.drop_eq_nil_of_le (by omega)];rfl
   repeat' (
    conv=>whnf
    first
    |refine Ap (fun h=>?_) (fun h=>?_)
    |((with_reducible apply ob);(exact oT)))
   all_goals (conv=>whnf)
   all_goals (first|(exfalso;omega)|skip)
   ·exact fC rfl (by rw [hlast,show n = 0 by omega];rfl)
   ·refine fC rfl (by rw [hlast];unfold Tb;rw [if_neg (by omega)];rfl)
 ·repeat' (
   conv=>whnf
   first
   |refine Ap (fun h=>?_) (fun h=>?_)
   |refine D4 (fun h=>?_) (fun h=>?_)
   |with_reducible refine Ao ?_)
  all_goals (conv=>whnf)
  all_goals (first|(exfalso;omega)|skip)
  have e : Jr x L = 0:=by unfold Jr;rw [if_neg hLV]
  exact fC rfl (by rw [e];rfl)
open Go
def Gr (l : List Nat) (most : Nat) : Nat:=1 + l.getD 1 0 % most
def FI (v : Nat) : Nat:=1 <<< v - 1
def Eh (l : List Nat) (v : Nat) : Nat:=l.getD 2 0 &&& FI v
def My (l : List Nat) : Nat:=1 + l.getD 3 0 % 10
def Dk (b v k : Nat) : List Nat:=(List.range k).map fun t=>LG b v t
def EH (p k : Nat) : List Nat:=(List.range k).map fun q=>1 <<< p ||| 1 <<< q
def C5 : Nat → List Nat
 |0=>[]
 |p + 1=>C5 p ++ EH p p
def Gi (v k : Nat) : List Nat:=(List.range k).map fun t=>LG 11 7 t &&& FI v
def Jp (l : List Nat) (v k : Nat) : List Nat:=(List.range k).map fun t=>Eh l v >>> (l.getD (4 + t) 0 % 2)
def EQ (l : List Nat) (v k : Nat) : List Nat:=((List.range k).map fun t=>l.getD (4 + t) 0 &&& FI v).filter fun b=>decide (CJ b = 3)
def Ju (l : List Nat) (v k : Nat) : List Nat:=(List.range k).map fun t=>l.getD (4 + t) 0 &&& FI v
def SS (l : List Nat) (v : Nat) : List Nat :=
 if l.getD 0 0 % 8 = 0 ∨ l.getD 0 0 % 8 = 1 then Dk (Eh l v) v v else
 if l.getD 0 0 % 8 = 2 then C5 v else if l.getD 0 0 % 8 = 3 then Gi v 7 else
 if l.getD 0 0 % 8 = 4 then Jp l v (My l) else if l.getD 0 0 % 8 = 5 then EQ l v (My l) else Ju l v (My l)
def MM (l : List Nat) (most : Nat) : Inc:=⟨Gr l most,Ca ((SS l (Gr l most)).take 10)⟩
theorem Yu {v : Nat} (h : v < 64) : Ax (FI v):=V4 (Hl h)
theorem P8 {b v t : Nat} (hv : v ≤ 64) (h0 : 0 < v) : Ax (LG b v t):=Oy hv h0 v
theorem Iw {α : Type} {f : α → Nat} {l : List α} (h : ∀ a ∈ l,Ax (f a)) : Ws (l.map f):=by
 intro x hx
 obtain ⟨a,ha,rfl⟩:=List.mem_map.1 hx
 exact h a ha
theorem W9 {p : Nat} (h : p < 64) (k : Nat) (hk : k ≤ 64) : Ws (EH p k):=Iw fun q hq=>Rm (Hl h) (Hl (by have:=List.mem_range.1 hq;omega))
theorem Yq {a b : List Nat} (ha : Ws a) (hb : Ws b) : Ws (a ++ b):=by
 intro x hx
 rcases List.mem_append.1 hx with h|h
 ·exact ha x h
 ·exact hb x h
theorem Qt : ∀ p,p ≤ 64 → Ws (C5 p)
 |0,_=>by intro x hx;cases hx
 |p + 1,h=>Yq (Qt p (by omega)) (W9 (by omega) p (by omega))
theorem Pi : ∀ p,(C5 p).length ≤ p * p
 |0=>Nat.le_refl _
 |p + 1=>by
  have:=Pi p
  simp only [C5,EH,List.length_append,List.length_map,List.length_range]
  have e : (p + 1) * (p + 1) = p * p + 2 * p + 1:=by rw [Nat.mul_add,Nat.add_mul];omega
  omega
theorem Xp {l : List Nat} {v : Nat} (hA : Ax (FI v)) (k : Nat) : Ws (EQ l v k):=fun x hx=>(Iw (fun t _=>No hA)) x ((List.mem_filter.1 hx).1)
theorem UQ (l : List Nat) (v k : Nat) : (EQ l v k).length ≤ k:=Nat.le_trans (List.length_filter_le _ _) (by simp)
theorem Qm {l : List Nat} {v k : Nat} (h : CJ (l.getD (4 + k) 0 &&& FI v) = 3) : EQ l v (k + 1) = EQ l v k ++ [l.getD (4 + k) 0 &&& FI v]:=by
 simp only [EQ,List.range_succ,List.map_append,List.filter_append,List.map_cons,List.map_nil,List.filter_cons,List.filter_nil,h,decide_true,if_true]
theorem Vb {l : List Nat} {v k : Nat} (h : ¬ CJ (l.getD (4 + k) 0 &&& FI v) = 3) : EQ l v (k + 1) = EQ l v k:=by
 simp only [EQ,List.range_succ,List.map_append,List.filter_append,List.map_cons,List.map_nil,List.filter_cons,List.filter_nil,decide_eq_false h,Bool.false_eq_true,if_false,List.append_nil]
theorem Hk {l : List Nat} (h : Ws l) (k : Nat) : Ws (l.take k):=fun x hx=>h x (List.mem_of_mem_take hx)
theorem Ka {H : List Ob} {g : Nat} {l : List Nat} {len : Nat} (h : H.getD g .dead = .frz .leaf (Ak l)) (hl : len ≤ l.length) (he : l.take len = l.take 10) : LeD H (A5 (l.take 10)) (.sl g 0 len) :=
 Ab4 h (by simp;omega) (by rw [List.drop_zero,← he];simp [Ak,List.map_take])
theorem UH (l : List Nat) (most : Nat) (hR : ∀ x ∈ l,x < 256) (hm : 1 ≤ most) (hm7 : most ≤ 7) : Aj Tryz.prog 35 [.agg [Dw l],iD most] (fun r=>r = (MM l most).D):=by
 have hl0 : (IF l).length = l.length:=by simp
 have hgb : ∀ k,l.getD k 0 < 256:=fun k=>by
  rw [List.getD]
  cases h : l[k]? with
  |none=>simp
  |some y=>exact hR y (List.mem_of_getElem? h)
 have hW : ∀ k,Ax (l.getD k 0):=fun k=>Nat.lt_trans (hgb k) (by decide)
 have hg0:=hgb 0
 have hg1:=hgb 1
 have hg2:=hgb 2
 have hg3:=hgb 3
 have hm1 : l.getD 1 0 % most < most:=Nat.mod_lt _ (by omega)
 have hm3 : l.getD 3 0 % 10 < 10:=Nat.mod_lt _ (by omega)
 obtain ⟨v,hv⟩ : ∃ v,v = Gr l most:=⟨_,rfl⟩
 have hv1 : 1 ≤ v:=by unfold Gr at hv;omega
 have hv7 : v ≤ 7:=by unfold Gr at hv;omega
 have hvi : (1 : Int) + ((l.getD 1 0 % most : Nat) : Int) = (v : Int):=by unfold Gr at hv;omega
 obtain ⟨n,hn⟩ : ∃ n,n = My l:=⟨_,rfl⟩
 have hn1 : 1 ≤ n:=by unfold My at hn;omega
 have hn7 : n ≤ 10:=by unfold My at hn;omega
 have hni : (1 : Int) + ((l.getD 3 0 % 10 : Nat) : Int) = (n : Int):=by unfold My at hn;omega
 have hA : Ax (FI v):=Yu (by omega)
 have hF : Ax (Eh l v):=No hA
 have hS : Ax (1 <<< ((1 : Int) + ((l.getD 1 0 % most : Nat) : Int)).toNat - 1):=V4 (Hl (by omega))
 have hAe : D.int .u64 ((1 <<< ((1 : Int) + ((l.getD 1 0 % most : Nat) : Int)).toNat - 1 : Nat) : Int) = sD (FI v):=by rw [hvi];rfl
 have hFe : D.int .u64 ((l.getD 2 0 &&& (1 <<< ((1 : Int) + ((l.getD 1 0 % most : Nat) : Int)).toNat - 1) : Nat) : Int) = sD (Eh l v):=by rw [hvi];rfl
 obtain ⟨q,hq⟩ : ∃ q,q = l.getD 0 0 % 8:=⟨_,rfl⟩
 unfold MM SS
 rw [← hv,← hn,← hq]
 refine Aj.ofV ?_
 refine Ai (okc Tryz.f35.ntmps 0) (fn:=Tryz.f35) (cd:=_) rfl rfl rfl rfl rfl rfl (fun hbd=>?_)
 repeat' (
  conv=>whnf
  first
  |refine Ap (fun h=>?_) (fun h=>?_)
  |with_reducible refine Ao ?_
  |((with_reducible apply BM);(rfl);(rfl);(exact wA);(exact wA))
  |((with_reducible apply FU);(rfl);(rfl);(omega);(exact wA))
  |((with_reducible apply Ew);(rfl);(rfl);(first|exact Dx _|omega);(exact wA))
  |((with_reducible apply Ks);(rfl);(exact wA))
  |((with_reducible apply NY);(omega);(exact wA))
  |(refine QQ (a:=l.getD 0 0) (b:=8) hq.symm ?_)
  |(refine NC (a:=l.getD 1 0) (b:=most) ?_)
  |(refine NC (a:=l.getD 3 0) (b:=10) ?_)
  |((with_reducible refine Aw ?_);refine Bd (QW _ _ (by assumption)) ?_)
  |((with_reducible refine A0 ?_);refine A3 (QW _ _ (by assumption)) ?_)
  |((with_reducible apply A1 10);rfl)
  |((with_reducible apply ob);(exact oT)))
 all_goals (conv=>whnf)
 all_goals (first|(exfalso;omega)|skip)
 ·refine Bt (X:=Nat) (fun k=>[(4,.ptr 1 []),(6,iD v),(8,sD (Eh l v)),(9,.sl 2 0 k),(11,iD k)]) (fun k=>[.var (.agg [Dw l]),.var (.agg [.int .i64 0,.nils]),.row .leaf (Ak (Dk (Eh l v) v k))]) (fun k=>k ≤ v) (fun k=>v - k) ⟨_,nx (ρ:=[0,1,2]) 0 (by repeat (first|exact trivial|refine Au rfl rfl ?_|refine Au (congrArg (D.int .i64) hvi) rfl ?_|refine Au (congrArg (D.int .i64) hni) rfl ?_|refine Au hAe rfl ?_|refine Au hFe rfl ?_)) HI rfl rfl (Nat.lt_succ_self _) (Nat.zero_le _)⟩ ?_
  intro k hk
  have hws : Ws (Dk (Eh l v) v k):=Iw fun t _=>P8 (by omega) (by omega)
  have hlen : (Dk (Eh l v) v k).length = k:=by simp [Dk]
  have hlen2 : (Ak (Dk (Eh l v) v k)).length = (Dk (Eh l v) v k).length:=A6 _
  repeat' (
   conv=>whnf
   first
   |refine Ap (fun h=>?_) (fun h=>?_)
   |with_reducible refine Ao ?_
   |((with_reducible refine Aw ?_);refine Aj.call (GX ((Dk (Eh l v) v k).take 10) (Hk hws 10) (by simp;omega)) (.step 2 .leaf (Ak (Dk (Eh l v) v k)) rfl (A7 _) (.refl _)) (.cons _ _ _ _ (Ka rfl (by omega) (by first|rfl|(rw [List.take_of_length_le (by omega),List.take_of_length_le (by omega)]))) .nil) rfl ?_;rintro r rfl)
   |((with_reducible refine Aw ?_);refine Bd (Oz _ _ _ wA (by omega) (by omega) (by omega)) ?_)
   |((with_reducible apply ob);(exact oT)))
  all_goals (conv=>whnf)
  ·exact nx (ρ:=[0,1,4]) (k + 1) Cj (A8 rfl rfl (A8 rfl rfl (Bb rfl (by simp [Dk,Ak,sD,List.range_succ,List.take_of_length_le]) (A7 _) trivial))) rfl rfl (by omega) (by omega)
  all_goals (have hkv : k = v:=(by omega);subst hkv;refine fC rfl ?_;rw [if_pos (by omega)];try rfl)
 ·refine Bt (X:=Nat) (fun k=>[(4,.ptr 1 []),(6,iD v),(8,sD (Eh l v)),(9,.sl 2 0 k),(11,iD k)]) (fun k=>[.var (.agg [Dw l]),.var (.agg [.int .i64 0,.nils]),.row .leaf (Ak (Dk (Eh l v) v k))]) (fun k=>k ≤ v) (fun k=>v - k) ⟨_,nx (ρ:=[0,1,2]) 0 (by repeat (first|exact trivial|refine Au rfl rfl ?_|refine Au (congrArg (D.int .i64) hvi) rfl ?_|refine Au (congrArg (D.int .i64) hni) rfl ?_|refine Au hAe rfl ?_|refine Au hFe rfl ?_)) HI rfl rfl (Nat.lt_succ_self _) (Nat.zero_le _)⟩ ?_
  intro k hk
  have hws : Ws (Dk (Eh l v) v k):=Iw fun t _=>P8 (by omega) (by omega)
  have hlen : (Dk (Eh l v) v k).length = k:=by simp [Dk]
  have hlen2 : (Ak (Dk (Eh l v) v k)).length = (Dk (Eh l v) v k).length:=A6 _
  repeat' (
   conv=>whnf
   first
   |refine Ap (fun h=>?_) (fun h=>?_)
   |with_reducible refine Ao ?_
   |((with_reducible refine Aw ?_);refine Aj.call (GX ((Dk (Eh l v) v k).take 10) (Hk hws 10) (by simp;omega)) (.step 2 .leaf (Ak (Dk (Eh l v) v k)) rfl (A7 _) (.refl _)) (.cons _ _ _ _ (Ka rfl (by omega) (by first|rfl|(rw [List.take_of_length_le (by omega),List.take_of_length_le (by omega)]))) .nil) rfl ?_;rintro r rfl)
   |((with_reducible refine Aw ?_);refine Bd (Oz _ _ _ wA (by omega) (by omega) (by omega)) ?_)
   |((with_reducible apply ob);(exact oT)))
  all_goals (conv=>whnf)
  ·exact nx (ρ:=[0,1,4]) (k + 1) Cj (A8 rfl rfl (A8 rfl rfl (Bb rfl (by simp [Dk,Ak,sD,List.range_succ,List.take_of_length_le]) (A7 _) trivial))) rfl rfl (by omega) (by omega)
  all_goals (have hkv : k = v:=(by omega);subst hkv;refine fC rfl ?_;rw [if_pos (by omega)];try rfl)
 ·refine Bt (X:=Nat) (fun k=>[(4,.ptr 1 []),(6,iD v),(9,.sl 2 0 (C5 k).length),(12,iD k)]) (fun k=>[.var (.agg [Dw l]),.var (.agg [.int .i64 0,.nils]),.row .leaf (Ak (C5 k))]) (fun k=>k ≤ v) (fun k=>v - k) ⟨_,nx (ρ:=[0,1,2]) 0 (by repeat (first|exact trivial|refine Au rfl rfl ?_|refine Au (congrArg (D.int .i64) hvi) rfl ?_|refine Au (congrArg (D.int .i64) hni) rfl ?_|refine Au hAe rfl ?_|refine Au hFe rfl ?_)) HI rfl rfl (Nat.lt_succ_self _) (Nat.zero_le _)⟩ ?_
  intro k hk
  have hws : Ws (C5 k):=Qt k (by omega)
  have hlen:=Pi k
  have hkk : k * k ≤ 49:=Nat.mul_le_mul (show k ≤ 7 by omega) (show k ≤ 7 by omega)
  have hlen2 : (Ak (C5 k)).length = (C5 k).length:=A6 _
  repeat' (
   conv=>whnf
   first
   |refine Ap (fun h=>?_) (fun h=>?_)
   |((with_reducible refine Aw ?_);refine Aj.call (GX ((C5 k).take 10) (Hk hws 10) (by simp;omega)) (.step 2 .leaf (Ak (C5 k)) rfl (A7 _) (.refl _)) (.cons _ _ _ _ (Ka rfl (by omega) (by first|rfl|(rw [List.take_of_length_le (by omega),List.take_of_length_le (by omega)]))) .nil) rfl ?_;rintro r rfl)
   |((with_reducible apply ob);(exact oT)))
  all_goals (conv=>whnf)
  ·refine Bt (X:=Nat) (fun j=>[(4,.ptr 1 []),(6,iD v),(9,.sl 2 0 (C5 k ++ EH k j).length),(12,iD k),(13,iD j)]) (fun j=>[.var (.agg [Dw l]),.var (.agg [.int .i64 0,.nils]),.row .leaf (Ak (C5 k ++ EH k j))]) (fun j=>j ≤ k) (fun j=>k - j) ⟨_,nx (ρ:=[0,1,2]) 0 (by repeat (first|exact trivial|refine Au rfl rfl ?_|refine Au (by simp [EH];rfl) rfl ?_)) (A8 rfl rfl (A8 rfl rfl (Bb rfl (by simp [EH]) (A7 _) trivial))) rfl rfl (Nat.lt_succ_self _) (Nat.zero_le _)⟩ ?_
   intro j hj
   have hl3 : (C5 k ++ EH k j).length = (C5 k).length + j:=by simp [EH]
   have hl4 : (Ak (C5 k ++ EH k j)).length = (C5 k).length + j:=by rw [A6,hl3]
   have hl5 : (C5 k ++ EH k (j + 1)).length = (C5 k).length + (j + 1):=by simp [EH]
   have hw6 : ∀ t,t ≤ 7 → Ax (1 <<< t):=fun t ht=>Hl (by omega)
   repeat' (
    conv=>whnf
    first
    |refine Ap (fun h=>?_) (fun h=>?_)
    |with_reducible refine Ao ?_
    |((with_reducible apply EY);(rfl);(rfl);(exact wA);(exact wA))
    |((with_reducible apply FU);(rfl);(rfl);(omega);(exact wA))
    |((with_reducible apply Ks);(rfl);(exact wA))
    |((with_reducible apply ob);(exact oT))
    |with_reducible refine ob (Xc ?_) ?_)
   all_goals (conv=>whnf)
   ·exact Br (by unfold A9;rw [hl3];show _ + 1 ≤ _;omega)
   ·exact nx (ρ:=[0,1,4]) (j + 1) (Au rfl rfl (Au rfl rfl (Au (show D.sl 4 0 ((C5 k ++ EH k j).length + 1) = D.sl 4 0 (C5 k ++ EH k (j + 1)).length from by rw [hl3,hl5];rfl) rfl (Au rfl rfl (Au rfl rfl trivial))))) (A8 rfl rfl (A8 rfl rfl (Bb rfl (by simp [EH,Ak,sD,List.range_succ,List.take_of_length_le]) (A7 _) trivial))) rfl rfl (by omega) (by omega)
   ·have hjk : j = k:=by omega
    subst hjk
    exact A4 (j + 1) Bn rfl (by omega) (by omega)
  all_goals (have hkv : k = v:=(by omega);subst hkv;refine fC rfl ?_;rw [if_neg (by omega),if_pos (by omega)];try rfl)
 ·refine Bt (X:=Nat) (fun k=>[(4,.ptr 1 []),(6,iD v),(7,sD (FI v)),(9,.sl 2 0 k),(14,iD k)]) (fun k=>[.var (.agg [Dw l]),.var (.agg [.int .i64 0,.nils]),.row .leaf (Ak (Gi v k))]) (fun k=>k ≤ 7) (fun k=>7 - k) ⟨_,nx (ρ:=[0,1,2]) 0 (by repeat (first|exact trivial|refine Au rfl rfl ?_|refine Au (congrArg (D.int .i64) hvi) rfl ?_|refine Au (congrArg (D.int .i64) hni) rfl ?_|refine Au hAe rfl ?_|refine Au hFe rfl ?_)) HI rfl rfl (Nat.lt_succ_self _) (Nat.zero_le _)⟩ ?_
  intro k hk
  have hws : Ws (Gi v k):=Iw fun t _=>No hA
  have hlen : (Gi v k).length = k:=by simp [Gi]
  have hlen2 : (Ak (Gi v k)).length = (Gi v k).length:=A6 _
  have htn : Aj Tryz.prog 59 [.int .u64 11,.int .i64 7,.int .i64 (k : Int)] (fun r=>r = sD (LG 11 7 k)):=Oz 11 7 k (by unfold Ax;omega) (by omega) (by omega) (by omega)
  have hW2 : Ax (LG 11 7 k):=P8 (by omega) (by omega)
  repeat' (
   conv=>whnf
   first
   |refine Ap (fun h=>?_) (fun h=>?_)
   |with_reducible refine Ao ?_
   |((with_reducible apply BM);(rfl);(rfl);(exact wA);(exact wA))
   |((with_reducible refine Aw ?_);refine Bd htn ?_)
   |((with_reducible refine Aw ?_);refine Aj.call (GX ((Gi v k).take 10) (Hk hws 10) (by simp;omega)) (.step 2 .leaf (Ak (Gi v k)) rfl (A7 _) (.refl _)) (.cons _ _ _ _ (Ka rfl (by omega) (by first|rfl|(rw [List.take_of_length_le (by omega),List.take_of_length_le (by omega)]))) .nil) rfl ?_;rintro r rfl)
   |((with_reducible apply ob);(exact oT)))
  all_goals (conv=>whnf)
  ·exact nx (ρ:=[0,1,4]) (k + 1) Cj (A8 rfl rfl (A8 rfl rfl (Bb rfl (by simp [Gi,Ak,sD,List.range_succ,List.take_of_length_le]) (A7 _) trivial))) rfl rfl (by omega) (by omega)
  all_goals (have hkv : k = 7:=(by omega);subst hkv;refine fC rfl ?_;rw [if_neg (by omega),if_neg (by omega),if_pos (by omega)];try rfl)
 ·refine Bt (X:=Nat) (fun k=>[(2,.ptr 0 []),(4,.ptr 1 []),(6,iD v),(8,sD (Eh l v)),(9,.sl 2 0 k),(10,iD n),(15,iD k)]) (fun k=>[.var (.agg [Dw l]),.var (.agg [.int .i64 0,.nils]),.row .leaf (Ak (Jp l v k))]) (fun k=>k ≤ n) (fun k=>n - k) ⟨_,nx (ρ:=[0,1,2]) 0 (by repeat (first|exact trivial|refine Au rfl rfl ?_|refine Au (congrArg (D.int .i64) hvi) rfl ?_|refine Au (congrArg (D.int .i64) hni) rfl ?_|refine Au hAe rfl ?_|refine Au hFe rfl ?_)) HI rfl rfl (Nat.lt_succ_self _) (Nat.zero_le _)⟩ ?_
  intro k hk
  have hws : Ws (Jp l v k):=Iw fun t _=>Yc hF
  have hlen : (Jp l v k).length = k:=by simp [Jp]
  have hlen2 : (Ak (Jp l v k)).length = (Jp l v k).length:=A6 _
  have hk4 : iD (4 + k) = .int .i64 ((4 : Int) + (k : Int)):=by show D.int _ _ = _;rw [Int.natCast_add];rfl
  have hat:=QW l (4 + k) hR
  rw [hk4] at hat
  have hm2 : l.getD (4 + k) 0 % 2 < 2:=Nat.mod_lt _ (by omega)
  repeat' (
   conv=>whnf
   first
   |refine Ap (fun h=>?_) (fun h=>?_)
   |with_reducible refine Ao ?_
   |((with_reducible apply EO);(rfl);(rfl);(omega))
   |((with_reducible apply Ks);(rfl);(exact wA))
   |((with_reducible refine Aw ?_);refine Bd hat ?_)
   |(refine NC (a:=l.getD (4 + k) 0) (b:=2) ?_)
   |((with_reducible refine Aw ?_);refine Aj.call (GX ((Jp l v k).take 10) (Hk hws 10) (by simp;omega)) (.step 2 .leaf (Ak (Jp l v k)) rfl (A7 _) (.refl _)) (.cons _ _ _ _ (Ka rfl (by omega) (by first|rfl|(rw [List.take_of_length_le (by omega),List.take_of_length_le (by omega)]))) .nil) rfl ?_;rintro r rfl)
   |((with_reducible apply ob);(exact oT)))
  all_goals (conv=>whnf)
  ·exact nx (ρ:=[0,1,4]) (k + 1) Cj (A8 rfl rfl (A8 rfl rfl (Bb rfl (by simp [Jp,Ak,sD,List.range_succ,List.take_of_length_le]) (A7 _) trivial))) rfl rfl (by omega) (by omega)
  all_goals (have hkv : k = n:=(by omega);subst hkv;refine fC rfl ?_;rw [if_neg (by omega),if_neg (by omega),if_neg (by omega),if_pos (by omega)];try rfl)
 ·refine Bt (X:=Nat) (fun k=>[(2,.ptr 0 []),(4,.ptr 1 []),(6,iD v),(7,sD (FI v)),(9,.sl 2 0 (EQ l v k).length),(10,iD n),(16,iD k)]) (fun k=>[.var (.agg [Dw l]),.var (.agg [.int .i64 0,.nils]),.row .leaf (Ak (EQ l v k))]) (fun k=>k ≤ n) (fun k=>n - k) ⟨_,nx (ρ:=[0,1,2]) 0 (by repeat (first|exact trivial|refine Au rfl rfl ?_|refine Au (congrArg (D.int .i64) hvi) rfl ?_|refine Au (congrArg (D.int .i64) hni) rfl ?_|refine Au hAe rfl ?_|refine Au hFe rfl ?_)) HI rfl rfl (Nat.lt_succ_self _) (Nat.zero_le _)⟩ ?_
  intro k hk
  have hws : Ws (EQ l v k):=Xp hA k
  have hlen : (EQ l v k).length ≤ k:=by exact UQ l v k
  have hlen2 : (Ak (EQ l v k)).length = (EQ l v k).length:=A6 _
  have hk4 : iD (4 + k) = .int .i64 ((4 : Int) + (k : Int)):=by show D.int _ _ = _;rw [Int.natCast_add];rfl
  have hat:=QW l (4 + k) hR
  rw [hk4] at hat
  have hm2 : l.getD (4 + k) 0 % 2 < 2:=Nat.mod_lt _ (by omega)
  repeat' (
   conv=>whnf
   first
   |refine Ap (fun h=>?_) (fun h=>?_)
   |with_reducible refine Ao ?_
   |((with_reducible apply BM);(rfl);(rfl);(exact wA);(exact wA))
   |((with_reducible apply Ks);(rfl);(exact wA))
   |((with_reducible refine Aw ?_);refine Bd hat ?_)
   |((with_reducible refine Aw ?_);refine Aj.call (GX ((EQ l v k).take 10) (Hk hws 10) (by simp;omega)) (.step 2 .leaf (Ak (EQ l v k)) rfl (A7 _) (.refl _)) (.cons _ _ _ _ (Ka rfl (by omega) (by first|rfl|(rw [List.take_of_length_le (by omega),List.take_of_length_le (by omega)]))) .nil) rfl ?_;rintro r rfl)
   |((with_reducible refine Aw ?_);refine Bd (Zw _ wA) ?_)
   |((with_reducible apply ob);(exact oT)))
  all_goals (conv=>whnf)
  ·exact nx (ρ:=[0,1,4]) (k + 1) (by repeat (first|exact trivial|refine Au rfl rfl ?_|refine Au (show D.sl 4 0 ((EQ l v k).length + 1) = D.sl 4 0 (EQ l v (k + 1)).length from by rw [Qm (by omega)];simp) rfl ?_)) (A8 rfl rfl (A8 rfl rfl (Bb rfl (by rw [Qm (by omega)];simp [Ak,sD,List.take_of_length_le]) (A7 _) trivial))) rfl rfl (by omega) (by omega)
  ·have e:=Vb (l:=l) (v:=v) (k:=k) (by omega)
   exact A4 (k + 1) (by repeat (first|exact trivial|refine B7 rfl ?_|refine B7 (by rw [e];rfl) ?_)) (by rw [e]) (by omega) (by omega)
  all_goals (have hkv : k = n:=(by omega);subst hkv;refine fC rfl ?_;rw [if_neg (by omega),if_neg (by omega),if_neg (by omega),if_neg (by omega),if_pos (by omega)];try rfl)
 ·refine Bt (X:=Nat) (fun k=>[(2,.ptr 0 []),(4,.ptr 1 []),(6,iD v),(7,sD (FI v)),(9,.sl 2 0 k),(10,iD n),(18,iD k)]) (fun k=>[.var (.agg [Dw l]),.var (.agg [.int .i64 0,.nils]),.row .leaf (Ak (Ju l v k))]) (fun k=>k ≤ n) (fun k=>n - k) ⟨_,nx (ρ:=[0,1,2]) 0 (by repeat (first|exact trivial|refine Au rfl rfl ?_|refine Au (congrArg (D.int .i64) hvi) rfl ?_|refine Au (congrArg (D.int .i64) hni) rfl ?_|refine Au hAe rfl ?_|refine Au hFe rfl ?_)) HI rfl rfl (Nat.lt_succ_self _) (Nat.zero_le _)⟩ ?_
  intro k hk
  have hws : Ws (Ju l v k):=Iw fun t _=>No hA
  have hlen : (Ju l v k).length = k:=by simp [Ju]
  have hlen2 : (Ak (Ju l v k)).length = (Ju l v k).length:=A6 _
  have hk4 : iD (4 + k) = .int .i64 ((4 : Int) + (k : Int)):=by show D.int _ _ = _;rw [Int.natCast_add];rfl
  have hat:=QW l (4 + k) hR
  rw [hk4] at hat
  have hm2 : l.getD (4 + k) 0 % 2 < 2:=Nat.mod_lt _ (by omega)
  repeat' (
   conv=>whnf
   first
   |refine Ap (fun h=>?_) (fun h=>?_)
   |with_reducible refine Ao ?_
   |((with_reducible apply BM);(rfl);(rfl);(exact wA);(exact wA))
   |((with_reducible apply Ks);(rfl);(exact wA))
   |((with_reducible refine Aw ?_);refine Bd hat ?_)
   |((with_reducible refine Aw ?_);refine Aj.call (GX ((Ju l v k).take 10) (Hk hws 10) (by simp;omega)) (.step 2 .leaf (Ak (Ju l v k)) rfl (A7 _) (.refl _)) (.cons _ _ _ _ (Ka rfl (by omega) (by first|rfl|(rw [List.take_of_length_le (by omega),List.take_of_length_le (by omega)]))) .nil) rfl ?_;rintro r rfl)
   |((with_reducible apply ob);(exact oT)))
  all_goals (conv=>whnf)
  ·exact nx (ρ:=[0,1,4]) (k + 1) Cj (A8 rfl rfl (A8 rfl rfl (Bb rfl (by simp [Ju,Ak,sD,List.range_succ,List.take_of_length_le]) (A7 _) trivial))) rfl rfl (by omega) (by omega)
  all_goals (have hkv : k = n:=(by omega);subst hkv;refine fC rfl ?_;rw [if_neg (by omega),if_neg (by omega),if_neg (by omega),if_neg (by omega),if_neg (by omega)];try rfl)
end Go.Proofs.YtbpifoakbkmblaaGreatDoor.Pw
