/- Parts of the proof, merged: XU XV XW XY XZ YA YB YC YD YE YF YG YH YI ZA ZB YJ YK YL YN YO YP ZC YQ YM ZD YR ZE ZF ZG YS ZH ZI BA BB BC BD. -/
import Derived.Test.YtbpifoakbkmblaaDoorXa
import Derived.Test.YtbpifoakbkmblaaDoorPe

set_option linter.unusedVariables false
set_option linter.unusedSimpArgs false
set_option maxHeartbeats 40000000
set_option maxRecDepth 10000
namespace Go.Proofs.YtbpifoakbkmblaaDoor.Pw
open Go
theorem seY {ρ : List Nat} {n n0 g s : Nat} {H : List Ob} {e e2 : Env} (h : get e s = .yld g) (ht : ρ.take n0 = List.range n0) (hg : g < n0) (hn : n0 ≤ n) (h2 : SubE ρ n H e e2) : SubE ρ n H e ((s,.yld g) :: e2) :=
 seC (by rw [h];show D.yld g = D.yld _;rw [take_get ht hg]) (by show Nat.blt g n = true;exact Nat.ble_eq_true_of_le (by omega)) h2
theorem itLevS4 (
         x : Inc) (hx : x.Ok) (hx7 : x.V ≤ 7) (g : Nat) (hg : g < 4) (J : Nat → List Ob → Prop) (Q : D → List Ob → Prop)
  (hdp : ∀ i j,i ≤ j → j < x.V → Dif (preI i j) x.V)
  (hJ : ∀ k H,J k H → ((∃ o0 o1 o2 o3,H = [o0,o1,o2,o3]) ∨ (∃ o0 o1 o2 o3 o4,H = [o0,o1,o2,o3,o4])) ∧ ∀ o ∈ H,inO H.length o = true)
  (hyl : ∀ k H,J k H → k < x.V → YC Tryd.prog g [iD k,lvlD (lvK x k (x.V - k))] H (fun r H'=>Fin (clD r = true ∧ ∃ σ O2,Sits H' σ O2 ∧ σ.take 4 = List.range 4 ∧ ((r = .bool true ∧ J (k + 1) O2) ∨ (r = .bool false ∧ Q (.tuple []) O2)))))
  (hend : ∀ H,J x.V H → Q (.tuple []) H) (H0 : List Ob) (hH0 : ∃ o0 o1 o2 o3,H0 = [o0,o1,o2,o3]) (h0 : J 0 H0) :
  HC Tryd.prog 126 [.yld g,.ref (.agg [.leaf,.leaf]) x.D] H0 Q:=by
 obtain ⟨o0,o1,o2,o3,rfl⟩:=hH0
 have hv:=hx.v
 refine HC.move (Q0:=fun r H'=>Fin (∃ σ O2,Sits H' σ O2 ∧ σ.take 4 = List.range 4 ∧ r = .tuple [] ∧ Q r O2)) ?_ ?_
 ·refine hc_ofS (okc Tryd.f126.ntmps 4) (fn:=Tryd.f126) (cd:=_) rfl rfl rfl rfl rfl rfl (fun hbd=>?_)
  all_goals (conv=>whnf)
  refine lpX (X:=Nat × List Ob) (fun y=>[(0,.yld g),(1,.ref (.agg [.leaf,.leaf]) x.D),(11,iD x.V),(12,iD y.1)]) (fun y=>y.2) (fun y=>J y.1 y.2 ∧ y.1 ≤ x.V) (fun y=>x.V - y.1) ⟨_,nx0 (0,[o0,o1,o2,o3]) s0A rfl (Nat.lt_succ_self _) ⟨h0,Nat.zero_le _⟩⟩ ?_
  rintro ⟨i,Hc⟩ ⟨hj,hi⟩
  dsimp only at hj hi ⊢
  clear h0
  obtain ⟨hcs,hin⟩:=hJ _ _ hj
  rcases hcs with ⟨o0,o1,o2,o3,rfl⟩|⟨o0,o1,o2,o3,o4,rfl⟩
  ·have hi0 : inO 4 o0 = true:=hin _ (by simp)
   have hi1 : inO 4 o1 = true:=hin _ (by simp)
   have hi2 : inO 4 o2 = true:=hin _ (by simp)
   have hi3 : inO 4 o3 = true:=hin _ (by simp)
   repeat' (
    conv=>whnf
    first
    |refine ifd (fun h=>?_) (fun h=>?_))
   all_goals (conv=>whnf)
   ·refine lpX (X:=Nat × List (Nat × List Int) × List (Nat × Tree)) (fun y=>[(0,.yld g),(1,.ref (.agg [.leaf,.leaf]) x.D),(3,iD i),(4,.ptr 4 []),(5,iD (i + y.1)),(11,iD x.V),(12,iD i)]) (fun y=>[o0,o1,o2,o3] ++ lvO 4 y.2.1 y.2.2) (fun y=>i + y.1 ≤ x.V ∧ lvK x i y.1 = (y.2.1,y.2.2)) (fun y=>x.V - i - y.1) ⟨_,nx0 (0,[],[]) s0A rfl (Nat.lt_succ_self _) ⟨by dsimp only;omega,rfl⟩⟩ ?_
    rintro ⟨k,ys,ns⟩ ⟨hk,hlv⟩
    dsimp only at hk hlv ⊢
    have hlen:=lvK_len x i k
    rw [hlv] at hlen
    dsimp only at hlen
    rcases Nat.lt_or_ge (i + k) x.V with hlt|hge
    ·have hd:=hdp i (i + k) (by omega) hlt
     have hpl:=pre_len i (i + k)
     have hmp:=vMap x x (preI i (i + k)) hx hx hx7 hx7 (pre_ne _ _) hd (by omega)
     have hpr:=vProve x x (preI i (i + k)) hx hx hx7 hx7 hd (by omega)
     obtain ⟨ec,hec⟩:=prv_eq x x (preI i (i + k))
     rw [hec] at hpr
     cases hm : mapN x x (preI i (i + k)) with
     |some m =>
      rw [hm] at hmp
      have hstep : lvK x i (k + 1) = (ys ++ [(i + k,m)],ns):=by rw [lvK,hm,hlv]
      cases ys with
      |nil =>
       cases ns with
       |nil =>
        simp only [List.length_cons,List.length_nil] at hlen
        repeat' (
         conv=>whnf
         first
         |refine ifd (fun h=>?_) (fun h=>?_)
         |with_reducible refine ivZ ?_
         |((with_reducible refine pcI ?_);refine vpE hmp ?_)
         |((with_reducible refine pcI ?_);refine vpE (vPrefix _ _ (by omega)) ?_)
         |((with_reducible apply drT 9);rfl)
         |((with_reducible apply ob);(exact oT))
         |refine nfI ?_)
        all_goals (conv=>whnf)
        all_goals (first|exact side_out (by unfold maxLen2;simp;omega)|exact absurd (by assumption : ¬ _) (by omega)|skip)
        ·refine nx (k + 1,[] ++ [(i + k,m)],[]) [0,1,2,3,4,6] (by (repeat (first|exact trivial|refine seC rfl rfl ?_|refine seY (n0:=4) rfl rfl hg (by simp only [List.length_append,List.length_cons,List.length_nil];omega) ?_))) ?_ rfl rfl (by dsimp only;omega) ⟨by dsimp only;omega,hstep⟩
         dsimp only [lvO]
         simp only [List.length_append,List.length_cons,List.length_nil,Nat.zero_add]
         (repeat (first|exact trivial|refine shI (n0:=4) (by assumption) rfl (by omega) rfl ?_|refine shC rfl rfl ?_|refine shR rfl (by first|rfl|(dsimp only;rw [tkm,List.map_append];rfl)) (by first|exact cl_reach _|exact cl_unr _) ?_))
       |cons n0 ns =>
        simp only [List.length_cons,List.length_nil] at hlen
        repeat' (
         conv=>whnf
         first
         |refine ifd (fun h=>?_) (fun h=>?_)
         |with_reducible refine ivZ ?_
         |((with_reducible refine pcI ?_);refine vpE hmp ?_)
         |((with_reducible refine pcI ?_);refine vpE (vPrefix _ _ (by omega)) ?_)
         |((with_reducible apply drT 9);rfl)
         |((with_reducible apply ob);(exact oT))
         |refine nfI ?_)
        all_goals (conv=>whnf)
        all_goals (first|exact side_out (by unfold maxLen2;simp;omega)|exact absurd (by assumption : ¬ _) (by omega)|skip)
        ·refine nx (k + 1,[] ++ [(i + k,m)],(n0 :: ns)) [0,1,2,3,4,7,5] (by (repeat (first|exact trivial|refine seC rfl rfl ?_|refine seY (n0:=4) rfl rfl hg (by simp only [List.length_append,List.length_cons,List.length_nil];omega) ?_))) ?_ rfl rfl (by dsimp only;omega) ⟨by dsimp only;omega,hstep⟩
         dsimp only [lvO]
         simp only [List.length_append,List.length_cons,List.length_nil,Nat.zero_add]
         (repeat (first|exact trivial|refine shI (n0:=4) (by assumption) rfl (by omega) rfl ?_|refine shC rfl rfl ?_|refine shR rfl (by first|rfl|(dsimp only;rw [tkm,List.map_append];rfl)) (by first|exact cl_reach _|exact cl_unr _) ?_))
      |cons y0 ys =>
       cases ns with
       |nil =>
        simp only [List.length_cons,List.length_nil] at hlen
        repeat' (
         conv=>whnf
         first
         |refine ifd (fun h=>?_) (fun h=>?_)
         |with_reducible refine ivZ ?_
         |((with_reducible refine pcI ?_);refine vpE hmp ?_)
         |((with_reducible refine pcI ?_);refine vpE (vPrefix _ _ (by omega)) ?_)
         |((with_reducible apply drT 9);rfl)
         |((with_reducible apply ob);(exact oT))
         |refine nfI ?_)
        all_goals (conv=>whnf)
        all_goals (first|exact side_out (by unfold maxLen2;simp;omega)|exact absurd (by assumption : ¬ _) (by omega)|skip)
        ·refine nx (k + 1,(y0 :: ys) ++ [(i + k,m)],[]) [0,1,2,3,4,7] (by (repeat (first|exact trivial|refine seC rfl rfl ?_|refine seY (n0:=4) rfl rfl hg (by simp only [List.length_append,List.length_cons,List.length_nil];omega) ?_))) ?_ rfl rfl (by dsimp only;omega) ⟨by dsimp only;omega,hstep⟩
         dsimp only [lvO]
         simp only [List.length_append,List.length_cons,List.length_nil,Nat.zero_add]
         (repeat (first|exact trivial|refine shI (n0:=4) (by assumption) rfl (by omega) rfl ?_|refine shC rfl rfl ?_|refine shR rfl (by first|rfl|(dsimp only;rw [tkm,List.map_append];rfl)) (by first|exact cl_reach _|exact cl_unr _) ?_))
       |cons n0 ns =>
        simp only [List.length_cons,List.length_nil] at hlen
        repeat' (
         conv=>whnf
         first
         |refine ifd (fun h=>?_) (fun h=>?_)
         |with_reducible refine ivZ ?_
         |((with_reducible refine pcI ?_);refine vpE hmp ?_)
         |((with_reducible refine pcI ?_);refine vpE (vPrefix _ _ (by omega)) ?_)
         |((with_reducible apply drT 9);rfl)
         |((with_reducible apply ob);(exact oT))
         |refine nfI ?_)
        all_goals (conv=>whnf)
        all_goals (first|exact side_out (by unfold maxLen2;simp;omega)|exact absurd (by assumption : ¬ _) (by omega)|skip)
        ·refine nx (k + 1,(y0 :: ys) ++ [(i + k,m)],(n0 :: ns)) [0,1,2,3,4,8,6] (by (repeat (first|exact trivial|refine seC rfl rfl ?_|refine seY (n0:=4) rfl rfl hg (by simp only [List.length_append,List.length_cons,List.length_nil];omega) ?_))) ?_ rfl rfl (by dsimp only;omega) ⟨by dsimp only;omega,hstep⟩
         dsimp only [lvO]
         simp only [List.length_append,List.length_cons,List.length_nil,Nat.zero_add]
         (repeat (first|exact trivial|refine shI (n0:=4) (by assumption) rfl (by omega) rfl ?_|refine shC rfl rfl ?_|refine shR rfl (by first|rfl|(dsimp only;rw [tkm,List.map_append];rfl)) (by first|exact cl_reach _|exact cl_unr _) ?_))
     |none =>
      rw [hm] at hmp
      have hstep : lvK x i (k + 1) = (ys,ns ++ [(i + k,prvT x x (preI i (i + k)))]):=by rw [lvK,hm,hlv]
      cases hT : prvT x x (preI i (i + k)) with
      |node kids =>
      rw [hT] at hpr hstep
      cases ys with
      |nil =>
       cases ns with
       |nil =>
        simp only [List.length_cons,List.length_nil] at hlen
        repeat' (
         conv=>whnf
         first
         |refine ifd (fun h=>?_) (fun h=>?_)
         |with_reducible refine ivZ ?_
         |((with_reducible refine pcI ?_);refine vpE hmp ?_)
         |((with_reducible refine pcI ?_);refine vpE hpr ?_)
         |((with_reducible refine pcI ?_);refine vpE (vPrefix _ _ (by omega)) ?_)
         |((with_reducible apply drT 9);rfl)
         |((with_reducible apply drT 10);rfl)
         |((with_reducible apply ob);(exact oT))
         |refine nfI ?_)
        all_goals (conv=>whnf)
        all_goals (first|exact side_out (by unfold maxLen2;simp;omega)|exact absurd (by assumption : ¬ _) (by omega)|skip)
        ·refine nx (k + 1,[],[] ++ [(i + k,Tree.node kids)]) [0,1,2,3,4,7] (by (repeat (first|exact trivial|refine seC rfl rfl ?_|refine seY (n0:=4) rfl rfl hg (by simp only [List.length_append,List.length_cons,List.length_nil];omega) ?_))) ?_ rfl rfl (by dsimp only;omega) ⟨by dsimp only;omega,hstep⟩
         dsimp only [lvO]
         simp only [List.length_append,List.length_cons,List.length_nil,Nat.zero_add]
         (repeat (first|exact trivial|refine shI (n0:=4) (by assumption) rfl (by omega) rfl ?_|refine shC rfl rfl ?_|refine shR rfl (by first|rfl|(dsimp only;rw [tkm,List.map_append];rfl)) (by first|exact cl_reach _|exact cl_unr _) ?_))
       |cons n0 ns =>
        simp only [List.length_cons,List.length_nil] at hlen
        repeat' (
         conv=>whnf
         first
         |refine ifd (fun h=>?_) (fun h=>?_)
         |with_reducible refine ivZ ?_
         |((with_reducible refine pcI ?_);refine vpE hmp ?_)
         |((with_reducible refine pcI ?_);refine vpE hpr ?_)
         |((with_reducible refine pcI ?_);refine vpE (vPrefix _ _ (by omega)) ?_)
         |((with_reducible apply drT 9);rfl)
         |((with_reducible apply drT 10);rfl)
         |((with_reducible apply ob);(exact oT))
         |refine nfI ?_)
        all_goals (conv=>whnf)
        all_goals (first|exact side_out (by unfold maxLen2;simp;omega)|exact absurd (by assumption : ¬ _) (by omega)|skip)
        ·refine nx (k + 1,[],(n0 :: ns) ++ [(i + k,Tree.node kids)]) [0,1,2,3,4,8] (by (repeat (first|exact trivial|refine seC rfl rfl ?_|refine seY (n0:=4) rfl rfl hg (by simp only [List.length_append,List.length_cons,List.length_nil];omega) ?_))) ?_ rfl rfl (by dsimp only;omega) ⟨by dsimp only;omega,hstep⟩
         dsimp only [lvO]
         simp only [List.length_append,List.length_cons,List.length_nil,Nat.zero_add]
         (repeat (first|exact trivial|refine shI (n0:=4) (by assumption) rfl (by omega) rfl ?_|refine shC rfl rfl ?_|refine shR rfl (by first|rfl|(dsimp only;rw [tkm,List.map_append];rfl)) (by first|exact cl_reach _|exact cl_unr _) ?_))
      |cons y0 ys =>
       cases ns with
       |nil =>
        simp only [List.length_cons,List.length_nil] at hlen
        repeat' (
         conv=>whnf
         first
         |refine ifd (fun h=>?_) (fun h=>?_)
         |with_reducible refine ivZ ?_
         |((with_reducible refine pcI ?_);refine vpE hmp ?_)
         |((with_reducible refine pcI ?_);refine vpE hpr ?_)
         |((with_reducible refine pcI ?_);refine vpE (vPrefix _ _ (by omega)) ?_)
         |((with_reducible apply drT 9);rfl)
         |((with_reducible apply drT 10);rfl)
         |((with_reducible apply ob);(exact oT))
         |refine nfI ?_)
        all_goals (conv=>whnf)
        all_goals (first|exact side_out (by unfold maxLen2;simp;omega)|exact absurd (by assumption : ¬ _) (by omega)|skip)
        ·refine nx (k + 1,(y0 :: ys),[] ++ [(i + k,Tree.node kids)]) [0,1,2,3,4,5,8] (by (repeat (first|exact trivial|refine seC rfl rfl ?_|refine seY (n0:=4) rfl rfl hg (by simp only [List.length_append,List.length_cons,List.length_nil];omega) ?_))) ?_ rfl rfl (by dsimp only;omega) ⟨by dsimp only;omega,hstep⟩
         dsimp only [lvO]
         simp only [List.length_append,List.length_cons,List.length_nil,Nat.zero_add]
         (repeat (first|exact trivial|refine shI (n0:=4) (by assumption) rfl (by omega) rfl ?_|refine shC rfl rfl ?_|refine shR rfl (by first|rfl|(dsimp only;rw [tkm,List.map_append];rfl)) (by first|exact cl_reach _|exact cl_unr _) ?_))
       |cons n0 ns =>
        simp only [List.length_cons,List.length_nil] at hlen
        repeat' (
         conv=>whnf
         first
         |refine ifd (fun h=>?_) (fun h=>?_)
         |with_reducible refine ivZ ?_
         |((with_reducible refine pcI ?_);refine vpE hmp ?_)
         |((with_reducible refine pcI ?_);refine vpE hpr ?_)
         |((with_reducible refine pcI ?_);refine vpE (vPrefix _ _ (by omega)) ?_)
         |((with_reducible apply drT 9);rfl)
         |((with_reducible apply drT 10);rfl)
         |((with_reducible apply ob);(exact oT))
         |refine nfI ?_)
        all_goals (conv=>whnf)
        all_goals (first|exact side_out (by unfold maxLen2;simp;omega)|exact absurd (by assumption : ¬ _) (by omega)|skip)
        ·refine nx (k + 1,(y0 :: ys),(n0 :: ns) ++ [(i + k,Tree.node kids)]) [0,1,2,3,4,5,9] (by (repeat (first|exact trivial|refine seC rfl rfl ?_|refine seY (n0:=4) rfl rfl hg (by simp only [List.length_append,List.length_cons,List.length_nil];omega) ?_))) ?_ rfl rfl (by dsimp only;omega) ⟨by dsimp only;omega,hstep⟩
         dsimp only [lvO]
         simp only [List.length_append,List.length_cons,List.length_nil,Nat.zero_add]
         (repeat (first|exact trivial|refine shI (n0:=4) (by assumption) rfl (by omega) rfl ?_|refine shC rfl rfl ?_|refine shR rfl (by first|rfl|(dsimp only;rw [tkm,List.map_append];rfl)) (by first|exact cl_reach _|exact cl_unr _) ?_))
    ·have hiV : i < x.V:=by omega
     have hkV : k = x.V - i:=by omega
     have hY:=hyl i _ hj hiV
     rw [← hkV,hlv] at hY
     cases ys with
     |nil =>
      cases ns with
      |nil =>
       repeat' (
        conv=>whnf
        first
        |refine ifd (fun h=>?_) (fun h=>?_)
        |((with_reducible refine pcI ?_);refine vpE (vPrefix _ _ (by omega)) ?_)
        |((with_reducible apply drT 9);rfl)
        |refine nfI ?_)
       all_goals (conv=>whnf)
       all_goals (first|exact absurd (by assumption : (_ : Int) < _) (by omega)|skip)
       refine yldCallS 4 (Hc:=[o0,o1,o2,o3]) (Y:=lvO 4 [] []) (Y1:=[_]) hY (by simp;omega) (by simp) (.refl _) hin (.cons _ _ _ _ (.refl _) (.cons _ _ _ _ (.agg _ _ (.cons _ _ _ _ (.nils _) (.cons _ _ _ _ (.nils _) .nil)) rfl) .nil)) rfl ?_
       intro r H' σ O2 hs hσ hcase
       rcases hcase with ⟨rfl,hJ'⟩|⟨rfl,hQ'⟩
       ·repeat' (
         conv=>whnf
         first
         |with_reducible refine ivZ ?_)
        all_goals (conv=>whnf)
        exact nx (i + 1,O2) σ (by have:=take_len hσ;have:=sits_len hs;(repeat (first|exact trivial|refine seC rfl rfl ?_|refine seY rfl hσ hg (by dsimp only;omega) ?_))) hs.sub hs.nd hσ (by dsimp only;omega) ⟨hJ',by dsimp only;omega⟩
       ·all_goals (conv=>whnf)
        exact fin_in ⟨σ,O2,hs,hσ,rfl,hQ'⟩
      |cons n0 ns =>
       repeat' (
        conv=>whnf
        first
        |refine ifd (fun h=>?_) (fun h=>?_)
        |((with_reducible refine pcI ?_);refine vpE (vPrefix _ _ (by omega)) ?_)
        |((with_reducible apply drT 9);rfl)
        |refine nfI ?_)
       all_goals (conv=>whnf)
       all_goals (first|exact absurd (by assumption : (_ : Int) < _) (by omega)|skip)
       refine yldCallS 4 (Hc:=[o0,o1,o2,o3]) (Y:=lvO 4 [] (n0 :: ns)) (Y1:=[_,.frz (.agg [.leaf,.agg [.leaf]]) ((n0 :: ns).map unrD)]) hY (by simp;omega) (by simp) (.step 5 (.agg [.leaf,.agg [.leaf]]) ((n0 :: ns).map unrD) rfl (cl_unr _) (.refl _)) hin (.cons _ _ _ _ (.refl _) (.cons _ _ _ _ (.agg _ _ (.cons _ _ _ _ (.nils _) (.cons _ _ _ _ (leRow rfl (by simp)) .nil)) rfl) .nil)) rfl ?_
       intro r H' σ O2 hs hσ hcase
       rcases hcase with ⟨rfl,hJ'⟩|⟨rfl,hQ'⟩
       ·repeat' (
         conv=>whnf
         first
         |with_reducible refine ivZ ?_)
        all_goals (conv=>whnf)
        exact nx (i + 1,O2) σ (by have:=take_len hσ;have:=sits_len hs;(repeat (first|exact trivial|refine seC rfl rfl ?_|refine seY rfl hσ hg (by dsimp only;omega) ?_))) hs.sub hs.nd hσ (by dsimp only;omega) ⟨hJ',by dsimp only;omega⟩
       ·all_goals (conv=>whnf)
        exact fin_in ⟨σ,O2,hs,hσ,rfl,hQ'⟩
     |cons y0 ys =>
      cases ns with
      |nil =>
       repeat' (
        conv=>whnf
        first
        |refine ifd (fun h=>?_) (fun h=>?_)
        |((with_reducible refine pcI ?_);refine vpE (vPrefix _ _ (by omega)) ?_)
        |((with_reducible apply drT 9);rfl)
        |refine nfI ?_)
       all_goals (conv=>whnf)
       all_goals (first|exact absurd (by assumption : (_ : Int) < _) (by omega)|skip)
       refine yldCallS 4 (Hc:=[o0,o1,o2,o3]) (Y:=lvO 4 (y0 :: ys) []) (Y1:=[_,.frz (.agg [.leaf,.leaf]) ((y0 :: ys).map reachD)]) hY (by simp;omega) (by simp) (.step 5 (.agg [.leaf,.leaf]) ((y0 :: ys).map reachD) rfl (cl_reach _) (.refl _)) hin (.cons _ _ _ _ (.refl _) (.cons _ _ _ _ (.agg _ _ (.cons _ _ _ _ (leRow rfl (by simp)) (.cons _ _ _ _ (.nils _) .nil)) rfl) .nil)) rfl ?_
       intro r H' σ O2 hs hσ hcase
       rcases hcase with ⟨rfl,hJ'⟩|⟨rfl,hQ'⟩
       ·repeat' (
         conv=>whnf
         first
         |with_reducible refine ivZ ?_)
        all_goals (conv=>whnf)
        exact nx (i + 1,O2) σ (by have:=take_len hσ;have:=sits_len hs;(repeat (first|exact trivial|refine seC rfl rfl ?_|refine seY rfl hσ hg (by dsimp only;omega) ?_))) hs.sub hs.nd hσ (by dsimp only;omega) ⟨hJ',by dsimp only;omega⟩
       ·all_goals (conv=>whnf)
        exact fin_in ⟨σ,O2,hs,hσ,rfl,hQ'⟩
      |cons n0 ns =>
       repeat' (
        conv=>whnf
        first
        |refine ifd (fun h=>?_) (fun h=>?_)
        |((with_reducible refine pcI ?_);refine vpE (vPrefix _ _ (by omega)) ?_)
        |((with_reducible apply drT 9);rfl)
        |refine nfI ?_)
       all_goals (conv=>whnf)
       all_goals (first|exact absurd (by assumption : (_ : Int) < _) (by omega)|skip)
       refine yldCallS 4 (Hc:=[o0,o1,o2,o3]) (Y:=lvO 4 (y0 :: ys) (n0 :: ns)) (Y1:=[_,.frz (.agg [.leaf,.leaf]) ((y0 :: ys).map reachD),.frz (.agg [.leaf,.agg [.leaf]]) ((n0 :: ns).map unrD)]) hY (by simp;omega) (by simp) (.step 5 (.agg [.leaf,.leaf]) ((y0 :: ys).map reachD) rfl (cl_reach _) (.step 6 (.agg [.leaf,.agg [.leaf]]) ((n0 :: ns).map unrD) rfl (cl_unr _) (.refl _))) hin (.cons _ _ _ _ (.refl _) (.cons _ _ _ _ (.agg _ _ (.cons _ _ _ _ (leRow rfl (by simp)) (.cons _ _ _ _ (leRow rfl (by simp)) .nil)) rfl) .nil)) rfl ?_
       intro r H' σ O2 hs hσ hcase
       rcases hcase with ⟨rfl,hJ'⟩|⟨rfl,hQ'⟩
       ·repeat' (
         conv=>whnf
         first
         |with_reducible refine ivZ ?_)
        all_goals (conv=>whnf)
        exact nx (i + 1,O2) σ (by have:=take_len hσ;have:=sits_len hs;(repeat (first|exact trivial|refine seC rfl rfl ?_|refine seY rfl hσ hg (by dsimp only;omega) ?_))) hs.sub hs.nd hσ (by dsimp only;omega) ⟨hJ',by dsimp only;omega⟩
       ·all_goals (conv=>whnf)
        exact fin_in ⟨σ,O2,hs,hσ,rfl,hQ'⟩
   ·have hiV : i = x.V:=by omega
    subst hiV
    exact fin_in ⟨List.range 4,[o0,o1,o2,o3],⟨by have:=subH_pre0 [o0,o1,o2,o3] [] hin;simpa using this,nodupS_range _,by simp⟩,rfl,rfl,hend _ hj⟩
  ·have hi0 : inO 5 o0 = true:=hin _ (by simp)
   have hi1 : inO 5 o1 = true:=hin _ (by simp)
   have hi2 : inO 5 o2 = true:=hin _ (by simp)
   have hi3 : inO 5 o3 = true:=hin _ (by simp)
   have hi4 : inO 5 o4 = true:=hin _ (by simp)
   repeat' (
    conv=>whnf
    first
    |refine ifd (fun h=>?_) (fun h=>?_))
   all_goals (conv=>whnf)
   ·refine lpX (X:=Nat × List (Nat × List Int) × List (Nat × Tree)) (fun y=>[(0,.yld g),(1,.ref (.agg [.leaf,.leaf]) x.D),(3,iD i),(4,.ptr 5 []),(5,iD (i + y.1)),(11,iD x.V),(12,iD i)]) (fun y=>[o0,o1,o2,o3,o4] ++ lvO 5 y.2.1 y.2.2) (fun y=>i + y.1 ≤ x.V ∧ lvK x i y.1 = (y.2.1,y.2.2)) (fun y=>x.V - i - y.1) ⟨_,nx0 (0,[],[]) s0A rfl (Nat.lt_succ_self _) ⟨by dsimp only;omega,rfl⟩⟩ ?_
    rintro ⟨k,ys,ns⟩ ⟨hk,hlv⟩
    dsimp only at hk hlv ⊢
    have hlen:=lvK_len x i k
    rw [hlv] at hlen
    dsimp only at hlen
    rcases Nat.lt_or_ge (i + k) x.V with hlt|hge
    ·have hd:=hdp i (i + k) (by omega) hlt
     have hpl:=pre_len i (i + k)
     have hmp:=vMap x x (preI i (i + k)) hx hx hx7 hx7 (pre_ne _ _) hd (by omega)
     have hpr:=vProve x x (preI i (i + k)) hx hx hx7 hx7 hd (by omega)
     obtain ⟨ec,hec⟩:=prv_eq x x (preI i (i + k))
     rw [hec] at hpr
     cases hm : mapN x x (preI i (i + k)) with
     |some m =>
      rw [hm] at hmp
      have hstep : lvK x i (k + 1) = (ys ++ [(i + k,m)],ns):=by rw [lvK,hm,hlv]
      cases ys with
      |nil =>
       cases ns with
       |nil =>
        simp only [List.length_cons,List.length_nil] at hlen
        repeat' (
         conv=>whnf
         first
         |refine ifd (fun h=>?_) (fun h=>?_)
         |with_reducible refine ivZ ?_
         |((with_reducible refine pcI ?_);refine vpE hmp ?_)
         |((with_reducible refine pcI ?_);refine vpE (vPrefix _ _ (by omega)) ?_)
         |((with_reducible apply drT 9);rfl)
         |((with_reducible apply ob);(exact oT))
         |refine nfI ?_)
        all_goals (conv=>whnf)
        all_goals (first|exact side_out (by unfold maxLen2;simp;omega)|exact absurd (by assumption : ¬ _) (by omega)|skip)
        ·refine nx (k + 1,[] ++ [(i + k,m)],[]) [0,1,2,3,4,5,7] (by (repeat (first|exact trivial|refine seC rfl rfl ?_|refine seY (n0:=4) rfl rfl hg (by simp only [List.length_append,List.length_cons,List.length_nil];omega) ?_))) ?_ rfl rfl (by dsimp only;omega) ⟨by dsimp only;omega,hstep⟩
         dsimp only [lvO]
         simp only [List.length_append,List.length_cons,List.length_nil,Nat.zero_add]
         (repeat (first|exact trivial|refine shI (n0:=5) (by assumption) rfl (by omega) rfl ?_|refine shC rfl rfl ?_|refine shR rfl (by first|rfl|(dsimp only;rw [tkm,List.map_append];rfl)) (by first|exact cl_reach _|exact cl_unr _) ?_))
       |cons n0 ns =>
        simp only [List.length_cons,List.length_nil] at hlen
        repeat' (
         conv=>whnf
         first
         |refine ifd (fun h=>?_) (fun h=>?_)
         |with_reducible refine ivZ ?_
         |((with_reducible refine pcI ?_);refine vpE hmp ?_)
         |((with_reducible refine pcI ?_);refine vpE (vPrefix _ _ (by omega)) ?_)
         |((with_reducible apply drT 9);rfl)
         |((with_reducible apply ob);(exact oT))
         |refine nfI ?_)
        all_goals (conv=>whnf)
        all_goals (first|exact side_out (by unfold maxLen2;simp;omega)|exact absurd (by assumption : ¬ _) (by omega)|skip)
        ·refine nx (k + 1,[] ++ [(i + k,m)],(n0 :: ns)) [0,1,2,3,4,5,8,6] (by (repeat (first|exact trivial|refine seC rfl rfl ?_|refine seY (n0:=4) rfl rfl hg (by simp only [List.length_append,List.length_cons,List.length_nil];omega) ?_))) ?_ rfl rfl (by dsimp only;omega) ⟨by dsimp only;omega,hstep⟩
         dsimp only [lvO]
         simp only [List.length_append,List.length_cons,List.length_nil,Nat.zero_add]
         (repeat (first|exact trivial|refine shI (n0:=5) (by assumption) rfl (by omega) rfl ?_|refine shC rfl rfl ?_|refine shR rfl (by first|rfl|(dsimp only;rw [tkm,List.map_append];rfl)) (by first|exact cl_reach _|exact cl_unr _) ?_))
      |cons y0 ys =>
       cases ns with
       |nil =>
        simp only [List.length_cons,List.length_nil] at hlen
        repeat' (
         conv=>whnf
         first
         |refine ifd (fun h=>?_) (fun h=>?_)
         |with_reducible refine ivZ ?_
         |((with_reducible refine pcI ?_);refine vpE hmp ?_)
         |((with_reducible refine pcI ?_);refine vpE (vPrefix _ _ (by omega)) ?_)
         |((with_reducible apply drT 9);rfl)
         |((with_reducible apply ob);(exact oT))
         |refine nfI ?_)
        all_goals (conv=>whnf)
        all_goals (first|exact side_out (by unfold maxLen2;simp;omega)|exact absurd (by assumption : ¬ _) (by omega)|skip)
        ·refine nx (k + 1,(y0 :: ys) ++ [(i + k,m)],[]) [0,1,2,3,4,5,8] (by (repeat (first|exact trivial|refine seC rfl rfl ?_|refine seY (n0:=4) rfl rfl hg (by simp only [List.length_append,List.length_cons,List.length_nil];omega) ?_))) ?_ rfl rfl (by dsimp only;omega) ⟨by dsimp only;omega,hstep⟩
         dsimp only [lvO]
         simp only [List.length_append,List.length_cons,List.length_nil,Nat.zero_add]
         (repeat (first|exact trivial|refine shI (n0:=5) (by assumption) rfl (by omega) rfl ?_|refine shC rfl rfl ?_|refine shR rfl (by first|rfl|(dsimp only;rw [tkm,List.map_append];rfl)) (by first|exact cl_reach _|exact cl_unr _) ?_))
       |cons n0 ns =>
        simp only [List.length_cons,List.length_nil] at hlen
        repeat' (
         conv=>whnf
         first
         |refine ifd (fun h=>?_) (fun h=>?_)
         |with_reducible refine ivZ ?_
         |((with_reducible refine pcI ?_);refine vpE hmp ?_)
         |((with_reducible refine pcI ?_);refine vpE (vPrefix _ _ (by omega)) ?_)
         |((with_reducible apply drT 9);rfl)
         |((with_reducible apply ob);(exact oT))
         |refine nfI ?_)
        all_goals (conv=>whnf)
        all_goals (first|exact side_out (by unfold maxLen2;simp;omega)|exact absurd (by assumption : ¬ _) (by omega)|skip)
        ·refine nx (k + 1,(y0 :: ys) ++ [(i + k,m)],(n0 :: ns)) [0,1,2,3,4,5,9,7] (by (repeat (first|exact trivial|refine seC rfl rfl ?_|refine seY (n0:=4) rfl rfl hg (by simp only [List.length_append,List.length_cons,List.length_nil];omega) ?_))) ?_ rfl rfl (by dsimp only;omega) ⟨by dsimp only;omega,hstep⟩
         dsimp only [lvO]
         simp only [List.length_append,List.length_cons,List.length_nil,Nat.zero_add]
         (repeat (first|exact trivial|refine shI (n0:=5) (by assumption) rfl (by omega) rfl ?_|refine shC rfl rfl ?_|refine shR rfl (by first|rfl|(dsimp only;rw [tkm,List.map_append];rfl)) (by first|exact cl_reach _|exact cl_unr _) ?_))
     |none =>
      rw [hm] at hmp
      have hstep : lvK x i (k + 1) = (ys,ns ++ [(i + k,prvT x x (preI i (i + k)))]):=by rw [lvK,hm,hlv]
      cases hT : prvT x x (preI i (i + k)) with
      |node kids =>
      rw [hT] at hpr hstep
      cases ys with
      |nil =>
       cases ns with
       |nil =>
        simp only [List.length_cons,List.length_nil] at hlen
        repeat' (
         conv=>whnf
         first
         |refine ifd (fun h=>?_) (fun h=>?_)
         |with_reducible refine ivZ ?_
         |((with_reducible refine pcI ?_);refine vpE hmp ?_)
         |((with_reducible refine pcI ?_);refine vpE hpr ?_)
         |((with_reducible refine pcI ?_);refine vpE (vPrefix _ _ (by omega)) ?_)
         |((with_reducible apply drT 9);rfl)
         |((with_reducible apply drT 10);rfl)
         |((with_reducible apply ob);(exact oT))
         |refine nfI ?_)
        all_goals (conv=>whnf)
        all_goals (first|exact side_out (by unfold maxLen2;simp;omega)|exact absurd (by assumption : ¬ _) (by omega)|skip)
        ·refine nx (k + 1,[],[] ++ [(i + k,Tree.node kids)]) [0,1,2,3,4,5,8] (by (repeat (first|exact trivial|refine seC rfl rfl ?_|refine seY (n0:=4) rfl rfl hg (by simp only [List.length_append,List.length_cons,List.length_nil];omega) ?_))) ?_ rfl rfl (by dsimp only;omega) ⟨by dsimp only;omega,hstep⟩
         dsimp only [lvO]
         simp only [List.length_append,List.length_cons,List.length_nil,Nat.zero_add]
         (repeat (first|exact trivial|refine shI (n0:=5) (by assumption) rfl (by omega) rfl ?_|refine shC rfl rfl ?_|refine shR rfl (by first|rfl|(dsimp only;rw [tkm,List.map_append];rfl)) (by first|exact cl_reach _|exact cl_unr _) ?_))
       |cons n0 ns =>
        simp only [List.length_cons,List.length_nil] at hlen
        repeat' (
         conv=>whnf
         first
         |refine ifd (fun h=>?_) (fun h=>?_)
         |with_reducible refine ivZ ?_
         |((with_reducible refine pcI ?_);refine vpE hmp ?_)
         |((with_reducible refine pcI ?_);refine vpE hpr ?_)
         |((with_reducible refine pcI ?_);refine vpE (vPrefix _ _ (by omega)) ?_)
         |((with_reducible apply drT 9);rfl)
         |((with_reducible apply drT 10);rfl)
         |((with_reducible apply ob);(exact oT))
         |refine nfI ?_)
        all_goals (conv=>whnf)
        all_goals (first|exact side_out (by unfold maxLen2;simp;omega)|exact absurd (by assumption : ¬ _) (by omega)|skip)
        ·refine nx (k + 1,[],(n0 :: ns) ++ [(i + k,Tree.node kids)]) [0,1,2,3,4,5,9] (by (repeat (first|exact trivial|refine seC rfl rfl ?_|refine seY (n0:=4) rfl rfl hg (by simp only [List.length_append,List.length_cons,List.length_nil];omega) ?_))) ?_ rfl rfl (by dsimp only;omega) ⟨by dsimp only;omega,hstep⟩
         dsimp only [lvO]
         simp only [List.length_append,List.length_cons,List.length_nil,Nat.zero_add]
         (repeat (first|exact trivial|refine shI (n0:=5) (by assumption) rfl (by omega) rfl ?_|refine shC rfl rfl ?_|refine shR rfl (by first|rfl|(dsimp only;rw [tkm,List.map_append];rfl)) (by first|exact cl_reach _|exact cl_unr _) ?_))
      |cons y0 ys =>
       cases ns with
       |nil =>
        simp only [List.length_cons,List.length_nil] at hlen
        repeat' (
         conv=>whnf
         first
         |refine ifd (fun h=>?_) (fun h=>?_)
         |with_reducible refine ivZ ?_
         |((with_reducible refine pcI ?_);refine vpE hmp ?_)
         |((with_reducible refine pcI ?_);refine vpE hpr ?_)
         |((with_reducible refine pcI ?_);refine vpE (vPrefix _ _ (by omega)) ?_)
         |((with_reducible apply drT 9);rfl)
         |((with_reducible apply drT 10);rfl)
         |((with_reducible apply ob);(exact oT))
         |refine nfI ?_)
        all_goals (conv=>whnf)
        all_goals (first|exact side_out (by unfold maxLen2;simp;omega)|exact absurd (by assumption : ¬ _) (by omega)|skip)
        ·refine nx (k + 1,(y0 :: ys),[] ++ [(i + k,Tree.node kids)]) [0,1,2,3,4,5,6,9] (by (repeat (first|exact trivial|refine seC rfl rfl ?_|refine seY (n0:=4) rfl rfl hg (by simp only [List.length_append,List.length_cons,List.length_nil];omega) ?_))) ?_ rfl rfl (by dsimp only;omega) ⟨by dsimp only;omega,hstep⟩
         dsimp only [lvO]
         simp only [List.length_append,List.length_cons,List.length_nil,Nat.zero_add]
         (repeat (first|exact trivial|refine shI (n0:=5) (by assumption) rfl (by omega) rfl ?_|refine shC rfl rfl ?_|refine shR rfl (by first|rfl|(dsimp only;rw [tkm,List.map_append];rfl)) (by first|exact cl_reach _|exact cl_unr _) ?_))
       |cons n0 ns =>
        simp only [List.length_cons,List.length_nil] at hlen
        repeat' (
         conv=>whnf
         first
         |refine ifd (fun h=>?_) (fun h=>?_)
         |with_reducible refine ivZ ?_
         |((with_reducible refine pcI ?_);refine vpE hmp ?_)
         |((with_reducible refine pcI ?_);refine vpE hpr ?_)
         |((with_reducible refine pcI ?_);refine vpE (vPrefix _ _ (by omega)) ?_)
         |((with_reducible apply drT 9);rfl)
         |((with_reducible apply drT 10);rfl)
         |((with_reducible apply ob);(exact oT))
         |refine nfI ?_)
        all_goals (conv=>whnf)
        all_goals (first|exact side_out (by unfold maxLen2;simp;omega)|exact absurd (by assumption : ¬ _) (by omega)|skip)
        ·refine nx (k + 1,(y0 :: ys),(n0 :: ns) ++ [(i + k,Tree.node kids)]) [0,1,2,3,4,5,6,10] (by (repeat (first|exact trivial|refine seC rfl rfl ?_|refine seY (n0:=4) rfl rfl hg (by simp only [List.length_append,List.length_cons,List.length_nil];omega) ?_))) ?_ rfl rfl (by dsimp only;omega) ⟨by dsimp only;omega,hstep⟩
         dsimp only [lvO]
         simp only [List.length_append,List.length_cons,List.length_nil,Nat.zero_add]
         (repeat (first|exact trivial|refine shI (n0:=5) (by assumption) rfl (by omega) rfl ?_|refine shC rfl rfl ?_|refine shR rfl (by first|rfl|(dsimp only;rw [tkm,List.map_append];rfl)) (by first|exact cl_reach _|exact cl_unr _) ?_))
    ·have hiV : i < x.V:=by omega
     have hkV : k = x.V - i:=by omega
     have hY:=hyl i _ hj hiV
     rw [← hkV,hlv] at hY
     cases ys with
     |nil =>
      cases ns with
      |nil =>
       repeat' (
        conv=>whnf
        first
        |refine ifd (fun h=>?_) (fun h=>?_)
        |((with_reducible refine pcI ?_);refine vpE (vPrefix _ _ (by omega)) ?_)
        |((with_reducible apply drT 9);rfl)
        |refine nfI ?_)
       all_goals (conv=>whnf)
       all_goals (first|exact absurd (by assumption : (_ : Int) < _) (by omega)|skip)
       refine yldCallS 4 (Hc:=[o0,o1,o2,o3,o4]) (Y:=lvO 5 [] []) (Y1:=[_]) hY (by simp;omega) (by simp) (.refl _) hin (.cons _ _ _ _ (.refl _) (.cons _ _ _ _ (.agg _ _ (.cons _ _ _ _ (.nils _) (.cons _ _ _ _ (.nils _) .nil)) rfl) .nil)) rfl ?_
       intro r H' σ O2 hs hσ hcase
       rcases hcase with ⟨rfl,hJ'⟩|⟨rfl,hQ'⟩
       ·repeat' (
         conv=>whnf
         first
         |with_reducible refine ivZ ?_)
        all_goals (conv=>whnf)
        exact nx (i + 1,O2) σ (by have:=take_len hσ;have:=sits_len hs;(repeat (first|exact trivial|refine seC rfl rfl ?_|refine seY rfl hσ hg (by dsimp only;omega) ?_))) hs.sub hs.nd hσ (by dsimp only;omega) ⟨hJ',by dsimp only;omega⟩
       ·all_goals (conv=>whnf)
        exact fin_in ⟨σ,O2,hs,hσ,rfl,hQ'⟩
      |cons n0 ns =>
       repeat' (
        conv=>whnf
        first
        |refine ifd (fun h=>?_) (fun h=>?_)
        |((with_reducible refine pcI ?_);refine vpE (vPrefix _ _ (by omega)) ?_)
        |((with_reducible apply drT 9);rfl)
        |refine nfI ?_)
       all_goals (conv=>whnf)
       all_goals (first|exact absurd (by assumption : (_ : Int) < _) (by omega)|skip)
       refine yldCallS 4 (Hc:=[o0,o1,o2,o3,o4]) (Y:=lvO 5 [] (n0 :: ns)) (Y1:=[_,.frz (.agg [.leaf,.agg [.leaf]]) ((n0 :: ns).map unrD)]) hY (by simp;omega) (by simp) (.step 6 (.agg [.leaf,.agg [.leaf]]) ((n0 :: ns).map unrD) rfl (cl_unr _) (.refl _)) hin (.cons _ _ _ _ (.refl _) (.cons _ _ _ _ (.agg _ _ (.cons _ _ _ _ (.nils _) (.cons _ _ _ _ (leRow rfl (by simp)) .nil)) rfl) .nil)) rfl ?_
       intro r H' σ O2 hs hσ hcase
       rcases hcase with ⟨rfl,hJ'⟩|⟨rfl,hQ'⟩
       ·repeat' (
         conv=>whnf
         first
         |with_reducible refine ivZ ?_)
        all_goals (conv=>whnf)
        exact nx (i + 1,O2) σ (by have:=take_len hσ;have:=sits_len hs;(repeat (first|exact trivial|refine seC rfl rfl ?_|refine seY rfl hσ hg (by dsimp only;omega) ?_))) hs.sub hs.nd hσ (by dsimp only;omega) ⟨hJ',by dsimp only;omega⟩
       ·all_goals (conv=>whnf)
        exact fin_in ⟨σ,O2,hs,hσ,rfl,hQ'⟩
     |cons y0 ys =>
      cases ns with
      |nil =>
       repeat' (
        conv=>whnf
        first
        |refine ifd (fun h=>?_) (fun h=>?_)
        |((with_reducible refine pcI ?_);refine vpE (vPrefix _ _ (by omega)) ?_)
        |((with_reducible apply drT 9);rfl)
        |refine nfI ?_)
       all_goals (conv=>whnf)
       all_goals (first|exact absurd (by assumption : (_ : Int) < _) (by omega)|skip)
       refine yldCallS 4 (Hc:=[o0,o1,o2,o3,o4]) (Y:=lvO 5 (y0 :: ys) []) (Y1:=[_,.frz (.agg [.leaf,.leaf]) ((y0 :: ys).map reachD)]) hY (by simp;omega) (by simp) (.step 6 (.agg [.leaf,.leaf]) ((y0 :: ys).map reachD) rfl (cl_reach _) (.refl _)) hin (.cons _ _ _ _ (.refl _) (.cons _ _ _ _ (.agg _ _ (.cons _ _ _ _ (leRow rfl (by simp)) (.cons _ _ _ _ (.nils _) .nil)) rfl) .nil)) rfl ?_
       intro r H' σ O2 hs hσ hcase
       rcases hcase with ⟨rfl,hJ'⟩|⟨rfl,hQ'⟩
       ·repeat' (
         conv=>whnf
         first
         |with_reducible refine ivZ ?_)
        all_goals (conv=>whnf)
        exact nx (i + 1,O2) σ (by have:=take_len hσ;have:=sits_len hs;(repeat (first|exact trivial|refine seC rfl rfl ?_|refine seY rfl hσ hg (by dsimp only;omega) ?_))) hs.sub hs.nd hσ (by dsimp only;omega) ⟨hJ',by dsimp only;omega⟩
       ·all_goals (conv=>whnf)
        exact fin_in ⟨σ,O2,hs,hσ,rfl,hQ'⟩
      |cons n0 ns =>
       repeat' (
        conv=>whnf
        first
        |refine ifd (fun h=>?_) (fun h=>?_)
        |((with_reducible refine pcI ?_);refine vpE (vPrefix _ _ (by omega)) ?_)
        |((with_reducible apply drT 9);rfl)
        |refine nfI ?_)
       all_goals (conv=>whnf)
       all_goals (first|exact absurd (by assumption : (_ : Int) < _) (by omega)|skip)
       refine yldCallS 4 (Hc:=[o0,o1,o2,o3,o4]) (Y:=lvO 5 (y0 :: ys) (n0 :: ns)) (Y1:=[_,.frz (.agg [.leaf,.leaf]) ((y0 :: ys).map reachD),.frz (.agg [.leaf,.agg [.leaf]]) ((n0 :: ns).map unrD)]) hY (by simp;omega) (by simp) (.step 6 (.agg [.leaf,.leaf]) ((y0 :: ys).map reachD) rfl (cl_reach _) (.step 7 (.agg [.leaf,.agg [.leaf]]) ((n0 :: ns).map unrD) rfl (cl_unr _) (.refl _))) hin (.cons _ _ _ _ (.refl _) (.cons _ _ _ _ (.agg _ _ (.cons _ _ _ _ (leRow rfl (by simp)) (.cons _ _ _ _ (leRow rfl (by simp)) .nil)) rfl) .nil)) rfl ?_
       intro r H' σ O2 hs hσ hcase
       rcases hcase with ⟨rfl,hJ'⟩|⟨rfl,hQ'⟩
       ·repeat' (
         conv=>whnf
         first
         |with_reducible refine ivZ ?_)
        all_goals (conv=>whnf)
        exact nx (i + 1,O2) σ (by have:=take_len hσ;have:=sits_len hs;(repeat (first|exact trivial|refine seC rfl rfl ?_|refine seY rfl hσ hg (by dsimp only;omega) ?_))) hs.sub hs.nd hσ (by dsimp only;omega) ⟨hJ',by dsimp only;omega⟩
       ·all_goals (conv=>whnf)
        exact fin_in ⟨σ,O2,hs,hσ,rfl,hQ'⟩
   ·have hiV : i = x.V:=by omega
    subst hiV
    exact fin_in ⟨List.range 5,[o0,o1,o2,o3,o4],⟨by have:=subH_pre0 [o0,o1,o2,o3,o4] [] hin;simpa using this,nodupS_range _,by simp⟩,rfl,rfl,hend _ hj⟩
 ·intro r H' hq
  obtain ⟨σ,O2,hs,hσ,rfl,hq⟩:=fin_out hq
  refine ⟨H',O2,σ,.tuple [],.refl _,hs.sub,hs.nd,by have:=take_len hσ;have:=sits_len hs;simp;omega,fun i hi=>.inl (take_get hσ hi),rfl,.refl _,hq⟩
open Go
def ordK (x : Inc) : Nat → Nat
 |0=>1
 |k + 1=>ordK x k * (lvK x k (x.V - k)).1.length
theorem pre_dif (i j V : Nat) (hij : i ≤ j) (hj : j < V) : Dif (preI i j) V:=by
 have hm : ∀ x ∈ oneI i,0 ≤ x ∧ x < (i : Int):=by
  intro x hx
  simp only [oneI,natsI,List.mem_map,List.mem_range] at hx
  obtain ⟨n,hn,rfl⟩:=hx
  omega
 refine ⟨fun x hx=>?_,?_⟩
 ·rcases List.mem_append.1 hx with h|h
  ·have:=hm x h;omega
  ·simp at h;omega
 ·refine List.nodup_append.2 ⟨?_,by simp,?_⟩
  ·unfold oneI natsI
   exact List.Pairwise.map _ (fun a b (hab : a ≠ b)=>by intro e;exact hab (by omega)) List.nodup_range
  ·intro a ha b hb
   have:=hm a ha
   simp at hb
   omega
open Go
theorem itLevSF4 (x : Inc) (hx : x.Ok) (hx7 : x.V ≤ 7) (g : Nat) (hg : g < 4) {H0 : List Ob} (lp a b c : Ob) (hH : H0 = [a,b,c,lp]) (J : Ob → Nat → List Ob → Prop) (Q : D → List Ob → Prop)
  (hJ : ∀ k H,J lp k H → ((∃ o0 o1 o2 o3,H = [o0,o1,o2,o3]) ∨ (∃ o0 o1 o2 o3 o4,H = [o0,o1,o2,o3,o4])) ∧ ∀ o ∈ H,inO H.length o = true)
  (hyl : ∀ k H,J lp k H → k < x.V → YC Tryd.prog g [iD k,lvlD (lvK x k (x.V - k))] H (fun r H'=>Fin (clD r = true ∧ ∃ σ O2,Sits H' σ O2 ∧ σ.take 4 = List.range 4 ∧ ((r = .bool true ∧ J lp (k + 1) O2) ∨ (r = .bool false ∧ Q (.tuple []) O2)))))
  (hend : ∀ H,J lp x.V H → Q (.tuple []) H) (h0 : J lp 0 [a,b,c,lp]) :
  HC Tryd.prog 126 [.yld g,.ref (.agg [.leaf,.leaf]) x.D] H0 Q :=
 itLevS4 x hx hx7 g hg (J lp) Q (fun i j h1 h2=>pre_dif i j x.V h1 h2) hJ hyl hend H0 ⟨a,b,c,lp,hH⟩ (by rw [hH];exact h0)
def proofL (x : Inc) (k : Nat) : List D:=(List.range k).map fun i=>lvlD (lvK x i (x.V - i))
theorem proofL_len (x : Inc) (k : Nat) : (proofL x k).length = k:=by simp [proofL]
theorem proofL_cl (x : Inc) (k : Nat) : clDs (proofL x k) = true:=cl_map (fun i=>rfl) _
theorem proofL_snoc (x : Inc) (k : Nat) : proofL x (k + 1) = proofL x k ++ [lvlD (lvK x k (x.V - k))]:=by simp [proofL,List.range_succ]
def prfD (x : Inc) : D:=.agg [.list false (.agg [.leaf,.leaf]) (proofL x x.V)]
theorem vGProve (x : Inc) (hx : x.Ok) (hx7 : x.V ≤ 7) : Val Tryd.prog 77 [x.D] (fun r=>r = .tuple [prfD x,.int .i64 0]):=by
 have hv:=hx.v
 have hv1:=hx.v1
 refine Val.ofV ?_
 refine hc_ofS (okc Tryd.f77.ntmps 0) (fn:=Tryd.f77) (cd:=_) rfl rfl rfl rfl rfl rfl (fun hbd=>?_)
 repeat' (
  conv=>whnf
  first
  |refine ifd (fun h=>?_) (fun h=>?_)
  |((with_reducible refine hcI ?_);refine vcE (vLevels _) ?_))
 all_goals (conv=>whnf)
 ·exact absurd h (by omega)
 refine itLevSF4 x hx hx7 3 (by omega) _ (.var x.D) (.var (.agg [.nils])) (.var (.agg [.nils])) rfl
  (fun lp k H=>(k = 0 ∧ H = [.var x.D,.var (.agg [.nils]),.var (.agg [.nils]),lp]) ∨ (0 < k ∧ H = [.var x.D,.var (.agg [.nils]),.var (.agg [.sl 4 0 k]),lp,.row (.agg [.leaf,.leaf]) (proofL x k)])) _ ?_ ?_ ?_ (.inl ⟨rfl,rfl⟩)
 ·rintro k H (⟨rfl,rfl⟩|⟨hk0,rfl⟩)
  ·exact ⟨.inl ⟨_,_,_,_,rfl⟩,inAll rfl⟩
  ·refine ⟨.inr ⟨_,_,_,_,_,rfl⟩,?_⟩
   intro o ho
   simp only [List.mem_cons,List.not_mem_nil,or_false] at ho
   rcases ho with rfl|rfl|rfl|rfl|rfl <;> first|rfl|exact in_cls _ _ (proofL_cl x k)
 ·rintro k H (⟨rfl,rfl⟩|⟨hk0,rfl⟩) hk
  ·refine yc_intro (okc Tryd.f77.ntmps 4) rfl rfl rfl rfl rfl ?_
   repeat' (
    conv=>whnf
    first
    |((with_reducible apply ob);(exact oT)))
   all_goals (conv=>whnf)
   refine fin_in ⟨rfl,[0,1,2,3,6],_,?_,rfl,.inl ⟨rfl,.inr ⟨by omega,rfl⟩⟩⟩
   exact ⟨shC rfl rfl (shC rfl rfl (shC rfl rfl (shC rfl rfl (shR rfl (by rw [proofL_snoc];rfl) (proofL_cl _ _) trivial)))),rfl,by simp⟩
  ·have hkk:=proofL_len x k
   refine yc_intro (okc Tryd.f77.ntmps 5) rfl rfl rfl rfl rfl ?_
   repeat' (
    conv=>whnf
    first
    |((with_reducible apply ob);(exact oT)))
   all_goals (conv=>whnf)
   refine fin_in ⟨rfl,[0,1,2,3,7],_,?_,rfl,.inl ⟨rfl,.inr ⟨by omega,rfl⟩⟩⟩
   exact ⟨shC rfl rfl (shC rfl rfl (shC rfl rfl (shC rfl rfl (shR rfl (by rw [proofL_snoc];show List.take k (List.drop 0 (proofL x k)) ++ [_] = _;rw [List.drop_zero,List.take_of_length_le (by omega)];rfl) (proofL_cl _ _) trivial)))),rfl,by simp⟩
 ·rintro H (⟨h0,rfl⟩|⟨hk0,rfl⟩)
  ·omega
  ·conv=>whnf
   refine fin_in ⟨_,.tuple [prfD x,.int .i64 0],.step 4 (.agg [.leaf,.leaf]) (proofL x x.V) rfl (proofL_cl _ _) (.refl _),.tuple _ _ (.cons _ _ _ _ (.agg _ _ (.cons _ _ _ _ (leRow rfl (proofL_len _ _)) .nil) rfl) (.cons _ _ _ _ (.refl _) .nil)),rfl,rfl⟩
open Go
def reachB (x : Inc) (i : Nat) (j : Int) (m : List Int) : Bool :=
 isG x m && decide (m.take i = (preI (x.V - 1) (x.V - 1)).take i) && decide (m.getD i 0 = j) && (decide (j ≠ i) || decide (m = preI (x.V - 1) (x.V - 1)))
theorem vCheck1 (x : Inc) (i : Nat) (j : Int) (m : List Int) (hx : x.Ok) (hb : ∀ s ∈ x.B,∀ p ∈ bitsL s,p < x.V) (hi : i < x.V) :
  Val Tryd.prog 95 [iD i,.agg [.int .i64 j,intsD m],.ref (.agg [.leaf,.leaf]) x.D,.ref .leaf (intsD (preI (x.V - 1) (x.V - 1)))] (fun r=>r = .bool (reachB x i j m)):=by
 have hm0:=intsL_len m
 have hv:=hx.v
 have hv1:=hx.v1
 have hpl:=pre_len (x.V - 1) (x.V - 1)
 have hp0:=intsL_len (preI (x.V - 1) (x.V - 1))
 refine Val.ofV ?_
 refine hc_ofS (okc Tryd.f95.ntmps 0) (fn:=Tryd.f95) (cd:=_) rfl rfl rfl rfl rfl rfl (fun hbd=>?_)
 have hIs:=vIs x m (by omega) hx.b hx.n hb
 cases hg : isG x m with
 |false =>
  rw [hg] at hIs
  repeat' (
   conv=>whnf
   first
   |((with_reducible refine pcI ?_);refine vpE hIs ?_)
   |((with_reducible apply drT 33);rfl))
  all_goals (conv=>whnf)
  exact fC rfl (by simp [reachB,hg];rfl)
 |true =>
  rw [hg] at hIs
  have hml : m.length = x.V:=by
   unfold isG at hg
   exact (of_decide_eq_true hg).1
  have e1 : (intsL m).take i = intsL (m.take i):=by simp [intsL]
  have e2 : (intsL (preI (x.V - 1) (x.V - 1))).take i = intsL ((preI (x.V - 1) (x.V - 1)).take i):=by simp [intsL]
  have hA : LeDs [.var (.agg [.int .i64 j,intsD m])] [intsD (m.take i),intsD ((preI (x.V - 1) (x.V - 1)).take i)] [.list false .leaf (List.drop (Int.toNat 0) (List.take (i : Int).toNat (intsL m))),.list false .leaf (List.drop (Int.toNat 0) (List.take (i : Int).toNat (intsL (preI (x.V - 1) (x.V - 1)))))]:=by
   rw [show List.drop (Int.toNat 0) (List.take (i : Int).toNat (intsL m)) = intsL (m.take i) from by rw [Int.toNat_natCast,e1];rfl,show List.drop (Int.toNat 0) (List.take (i : Int).toNat (intsL (preI (x.V - 1) (x.V - 1)))) = intsL ((preI (x.V - 1) (x.V - 1)).take i) from by rw [Int.toNat_natCast,e2];rfl]
   exact ler _ _
  by_cases he : m.take i = (preI (x.V - 1) (x.V - 1)).take i
  ·have heq:=vEqI (m.take i) ((preI (x.V - 1) (x.V - 1)).take i)
   rw [decide_eq_true he] at heq
   repeat' (
    conv=>whnf
    first
    |refine ifd (fun h=>?_) (fun h=>?_)
    |refine ifn (fun h=>?_) (fun h=>?_)
    |((with_reducible refine exI' (by omega) ?_);intro y hy;(try simp only [Int.toNat_natCast,Nat.zero_add] at hy);(try have hyr:=hR _ (List.mem_of_getElem? hy)))
    |((with_reducible refine pcI ?_);refine vpE hIs ?_)
    |((with_reducible refine pcI ?_);refine Val.pure heq hA rfl rfl ?_)
    |((with_reducible refine hcI ?_);refine vcE (vEqI _ _) ?_)
    |((with_reducible apply drT 33);rfl)
    |((with_reducible apply ob);(exact oT)))
   all_goals (conv=>whnf)
   all_goals
    refine fC rfl (congrArg D.bool ?_)
    unfold reachB
    simp_all [getD_of (show m[i]? = some _ from by assumption)]
  ·have heq:=vEqI (m.take i) ((preI (x.V - 1) (x.V - 1)).take i)
   rw [decide_eq_false he] at heq
   repeat' (
    conv=>whnf
    first
    |((with_reducible refine pcI ?_);refine vpE hIs ?_)
    |((with_reducible refine pcI ?_);refine Val.pure heq hA rfl rfl ?_)
    |((with_reducible apply drT 33);rfl)
    |((with_reducible apply ob);(exact oT)))
   all_goals (conv=>whnf)
   refine fC rfl (congrArg D.bool ?_)
   unfold reachB
   simp [he]
open Go
def mulF (g h : List Int) (i : Nat) : Int:=h.getD (g.getD i 0).toNat 0
theorem mulK_map (g h : List Int) : ∀ k,mulK g h k = (List.range k).map (mulF g h)
 |0=>rfl
 |k + 1=>by rw [mulK,mulK_map g h k,List.range_succ];simp [mulF]
open Go
def rowsL (l : List (List Int)) : List D:=l.map intsD
def rowsD (l : List (List Int)) : D:=.list false .leaf (rowsL l)
@[simp] theorem rowsL_len (l : List (List Int)) : (rowsL l).length = l.length:=by simp [rowsL]
open Go
open Go
open Go
def rchD (y : Int × List Int) : D:=.agg [.int .i64 y.1,intsD y.2]
def rchL (l : List (Int × List Int)) : List D:=l.map rchD
@[simp] theorem rchL_len (l : List (Int × List Int)) : (rchL l).length = l.length:=by simp [rchL]
open Go
def unsD (y : Int × Tree) : D:=.agg [.int .i64 y.1,treeD y.2]
def unsL (l : List (Int × Tree)) : List D:=l.map unsD
@[simp] theorem unsL_len (l : List (Int × Tree)) : (unsL l).length = l.length:=by simp [unsL]
open Go
def perA (n k t : Nat) : Nat:=k / factL (n - t - 1) % (n - t)
def perS (n k : Nat) : Nat → List Int × List Int
 |0=>(oneI n,[])
 |t + 1=>((perS n k t).1.take (perA n k t) ++ (perS n k t).1.drop (perA n k t + 1),(perS n k t).2 ++ [(perS n k t).1.getD (perA n k t) 0])
theorem fact_pos : ∀ n,0 < factL n
 |0=>by decide
 |n + 1=>Nat.mul_pos (by omega) (fact_pos n)
open Go
abbrev Lvl:=List (Int × List Int) × List (Int × Tree)
def lvlI (l : Lvl) : D:=.agg [.list false (.agg [.leaf,.leaf]) (rchL l.1),.list false (.agg [.leaf,.agg [.leaf]]) (unsL l.2)]
def lvlsL (L : List Lvl) : List D:=L.map lvlI
def prfI (L : List Lvl) : D:=.agg [.list false (.agg [.leaf,.leaf]) (lvlsL L)]
@[simp] theorem lvlsL_len (L : List Lvl) : (lvlsL L).length = L.length:=by simp [lvlsL]
def yesB (x : Inc) (i j : Nat) : List (Int × List Int) → Bool
 |[]=>false
 |y :: _=>decide (y.1 = (j : Int)) && reachB x i y.1 y.2
def noB (x : Inc) (i j : Nat) : List (Int × Tree) → Bool
 |[]=>false
 |u :: _=>decide (u.1 = (j : Int)) && chkM x x (preI i j) u.2
def lvRun (x : Inc) (i : Nat) : Nat → Nat → List (Int × List Int) → List (Int × Tree) → Bool
 |0,_,ys,ns=>decide (ys.length + ns.length = 0)
 |f + 1,j,ys,ns=>if yesB x i j ys = true then lvRun x i f (j + 1) ys.tail ns else if noB x i j ns = true then lvRun x i f (j + 1) ys ns.tail else false
def chkAll (x : Inc) : Nat → Nat → List Lvl → Nat
 |_,n,[]=>n
 |i,n,l :: L=>if lvRun x i (x.V - i) i l.1 l.2 = true then chkAll x (i + 1) (n * l.1.length) L else 0
def chkN (x : Inc) (L : List Lvl) : Nat:=if L.length = x.V then chkAll x 0 1 L else 0
def chkD (n : Nat) : D:=.tuple [iD n,.int .i64 (if n = 0 then 200 else 0)]
open Go
theorem exL {l : List Lvl} {n : Nat} {k : D → Prop} (h : n < l.length) (hk : ∀ a,l[n]? = some a → k (lvlI a)) : ∃ d,(lvlsL l)[n]? = some d ∧ k d:=exM (f:=lvlI) h hk
theorem exC0 {yj : Int} {ym : List Int} {l : List (Int × List Int)} {k : D → Prop} (hk : k (.agg [.int .i64 yj,intsD ym])) : ∃ d,(rchL ((yj,ym) :: l))[(0 : Int).toNat]? = some d ∧ k d:=⟨_,rfl,hk⟩
theorem exW0 {yj : Int} {t : Tree} {l : List (Int × Tree)} {k : D → Prop} (hk : k (.agg [.int .i64 yj,treeD t])) : ∃ d,(unsL ((yj,t) :: l))[(0 : Int).toNat]? = some d ∧ k d:=⟨_,rfl,hk⟩
theorem yes_f1 {x : Inc} {i j : Nat} {yj : Int} {ym : List Int} {yt : List (Int × List Int)} (h : reachB x i yj ym = false) : yesB x i j ((yj,ym) :: yt) = false:=by simp [yesB,h]
theorem yes_f2 {x : Inc} {i j : Nat} {yj : Int} {ym : List Int} {yt : List (Int × List Int)} (h : ¬ yj = (j : Int)) : yesB x i j ((yj,ym) :: yt) = false:=by simp [yesB,h]
theorem yes_t {x : Inc} {i j : Nat} {yj : Int} {ym : List Int} {yt : List (Int × List Int)} (h : yj = (j : Int)) (hr : reachB x i yj ym = true) : yesB x i j ((yj,ym) :: yt) = true:=by simp [yesB,hr];exact h
theorem no_f1 {x : Inc} {i j : Nat} {yj : Int} {t : Tree} {yt : List (Int × Tree)} (h : chkM x x (preI i j) t = false) : noB x i j ((yj,t) :: yt) = false:=by simp [noB,h]
theorem no_f2 {x : Inc} {i j : Nat} {yj : Int} {t : Tree} {yt : List (Int × Tree)} (h : ¬ yj = (j : Int)) : noB x i j ((yj,t) :: yt) = false:=by simp [noB,h]
theorem no_t {x : Inc} {i j : Nat} {yj : Int} {t : Tree} {yt : List (Int × Tree)} (h : yj = (j : Int)) (hr : chkM x x (preI i j) t = true) : noB x i j ((yj,t) :: yt) = true:=by simp [noB,hr];exact h
theorem lvRun_yes {x : Inc} {i j : Nat} {ys : List (Int × List Int)} {ns : List (Int × Tree)} (hj : j < x.V) (h : yesB x i j ys = true) : lvRun x i (x.V - j) j ys ns = lvRun x i (x.V - (j + 1)) (j + 1) ys.tail ns:=by
 obtain ⟨f,hf⟩ : ∃ f,x.V - j = f + 1:=⟨x.V - j - 1,by omega⟩
 rw [hf,show x.V - (j + 1) = f by omega,lvRun,if_pos h]
theorem lvRun_no {x : Inc} {i j : Nat} {ys : List (Int × List Int)} {ns : List (Int × Tree)} (hj : j < x.V) (h : yesB x i j ys = false) (h2 : noB x i j ns = true) : lvRun x i (x.V - j) j ys ns = lvRun x i (x.V - (j + 1)) (j + 1) ys ns.tail:=by
 obtain ⟨f,hf⟩ : ∃ f,x.V - j = f + 1:=⟨x.V - j - 1,by omega⟩
 rw [hf,show x.V - (j + 1) = f by omega,lvRun,if_neg (by simp [h]),if_pos h2]
theorem lvRun_bad {x : Inc} {i j : Nat} {ys : List (Int × List Int)} {ns : List (Int × Tree)} (hj : j < x.V) (h : yesB x i j ys = false) (h2 : noB x i j ns = false) : lvRun x i (x.V - j) j ys ns = false:=by
 obtain ⟨f,hf⟩ : ∃ f,x.V - j = f + 1:=⟨x.V - j - 1,by omega⟩
 rw [hf,lvRun,if_neg (by simp [h]),if_neg (by simp [h2])]
theorem lvRun_le (x : Inc) (i : Nat) : ∀ f j ys ns,lvRun x i f j ys ns = true → ys.length ≤ f
 |0,j,ys,ns,h=>by have:=of_decide_eq_true h;omega
 |f + 1,j,ys,ns,h=>by
  unfold lvRun at h
  by_cases hy : yesB x i j ys = true
  ·rw [if_pos hy] at h
   have:=lvRun_le x i f _ _ _ h
   simp only [List.length_tail] at this;omega
  ·rw [if_neg hy] at h
   by_cases hn : noB x i j ns = true
   ·rw [if_pos hn] at h
    have:=lvRun_le x i f _ _ _ h;omega
   ·rw [if_neg hn] at h;cases h
theorem ivMulN {x : Int} {n : Nat} {k : Int → Prop} (h : x = (n : Int)) (hn : n < 9223372036854775808) (hk : k (n : Int)) : ∃ r,IntKind.i64.wrap x = r ∧ k r :=
 ⟨_,by rw [h];exact w64 (by omega) (by omega),hk⟩
def reachF (x : Inc) : D:=.func 95 [.ref (.agg [.leaf,.leaf]) x.D,.ref .leaf (intsD (preI (x.V - 1) (x.V - 1)))]
theorem vGCheck (x : Inc) (hx : x.Ok) (hx7 : x.V ≤ 7) (hb : ∀ s ∈ x.B,∀ p ∈ bitsL s,p < x.V) (L : List Lvl) (hL : ∀ l ∈ L,l.1.length ≤ 1000000 ∧ l.2.length ≤ 1000000) : Val Tryd.prog 78 [x.D,prfI L] (fun r=>r = chkD (chkN x L)):=by
 have hv:=hx.v
 have hv1:=hx.v1
 have hpl:=pre_len (x.V - 1) (x.V - 1)
 have hp0:=intsL_len (preI (x.V - 1) (x.V - 1))
 have hL0:=lvlsL_len L
 have hpv:=vPrefix (x.V - 1) (x.V - 1) (by omega)
 rw [show iD (x.V - 1) = .int .i64 ((x.V : Int) - 1) from by show D.int _ _ = _;rw [Int.natCast_sub hv1];rfl] at hpv
 refine Val.ofV ?_
 refine hc_ofS (okc Tryd.f78.ntmps 0) (fn:=Tryd.f78) (cd:=_) rfl rfl rfl rfl rfl rfl (fun hbd=>?_)
 by_cases hLV : L.length = x.V
 ·repeat' (
   conv=>whnf
   first
   |refine ifd (fun h=>?_) (fun h=>?_)
   |refine ifn (fun h=>?_) (fun h=>?_)
   |with_reducible refine ivZ ?_
   |((with_reducible refine hcI ?_);refine vcE hpv ?_))
  all_goals (conv=>whnf)
  all_goals (first|(exfalso;omega)|skip)
  refine lpX (X:=Nat × Nat) (fun y=>[(2,.ref (.agg [.leaf,.leaf]) x.D),(7,reachF x),(8,iD y.2),(34,.list false (.agg [.leaf,.leaf]) (lvlsL L)),(35,iD (lvlsL L).length),(36,iD y.1)]) (fun y=>[])
   (fun y=>y.1 ≤ x.V ∧ y.2 ≤ 7 ^ y.1 ∧ chkAll x 0 1 L = chkAll x y.1 y.2 (L.drop y.1)) (fun y=>x.V - y.1) ⟨_,nxF (ρ:=[]) (0,1) (.fvar 0 x.D rfl rfl (.fvar 2 (intsD (preI (x.V - 1) (x.V - 1))) rfl rfl (.refl _))) ?_ trivial rfl rfl (Nat.lt_succ_self _) ⟨Nat.zero_le _,Nat.le_refl _,rfl⟩⟩ ?_
  ·exact seL (show LeD _ (.ref (.agg [.leaf,.leaf]) x.D) (.ptr 0 []) from .fvar 0 x.D rfl) rfl (seL (show LeD _ (reachF x) (.func 95 [.ptr 0 [],.ptr 2 []]) from .func _ _ _ (.cons _ _ _ _ (show LeD _ (.ref (.agg [.leaf,.leaf]) x.D) (.ptr 0 []) from .fvar 0 x.D rfl) (.cons _ _ _ _ (show LeD _ (.ref .leaf (intsD (preI (x.V - 1) (x.V - 1)))) (.ptr 2 []) from .fvar 2 (intsD (preI (x.V - 1) (x.V - 1))) rfl) .nil))) rfl sCA)
  rintro ⟨i,n⟩ ⟨hi,hn,hc⟩
  dsimp only at hi hn hc ⊢
  rcases Nat.lt_or_ge i x.V with hlt|hge
  ·obtain ⟨⟨ys,ns⟩,hl⟩ : ∃ l,L[i]? = some l:=⟨L[i],List.getElem?_eq_getElem (by omega)⟩
   have hL2:=hL _ (List.mem_of_getElem? hl)
   dsimp only at hL2
   have hdrop : L.drop i = (ys,ns) :: L.drop (i + 1):=by
    rw [List.drop_eq_getElem_cons (by omega)]
    rw [List.getElem?_eq_getElem (by omega)] at hl
    rw [Option.some.inj hl]
   have hfail : lvRun x i (x.V - i) i ys ns = false → chkD (chkN x L) = .tuple [.int .i64 0,.int .i64 200]:=fun e=>by
    unfold chkN;rw [if_pos hLV,hc,hdrop,chkAll,if_neg (by simp [e])];rfl
   have hgo : lvRun x i (x.V - i) i ys ns = true → chkAll x 0 1 L = chkAll x (i + 1) (n * ys.length) (L.drop (i + 1)):=fun e=>by
    rw [hc,hdrop,chkAll,if_pos e]
   have hnb : n ≤ 823543:=Nat.le_trans hn (Nat.le_trans (Nat.pow_le_pow_right (by omega) (show i ≤ 7 by omega)) (by decide))
   have hnm : n * ys.length ≤ 823543 * 1000000:=Nat.mul_le_mul hnb hL2.1
   have hnm2 : (n : Int) * (((rchL ys).length : Nat) : Int) = ((n * ys.length : Nat) : Int):=by rw [rchL_len,Int.natCast_mul]
   repeat' (
    conv=>whnf
    first
    |refine ifd (fun h=>?_) (fun h=>?_)
    |((with_reducible refine exL (by omega) ?_);intro y hy;simp only [Int.toNat_natCast] at hy;rw [hl] at hy;obtain rfl:=Option.some.inj hy)
    |((with_reducible refine ivMulN hnm2 (by omega) ?_))
    |((with_reducible apply drT 5);rfl)
    |((with_reducible apply ob);(exact oT)))
   all_goals (conv=>whnf)
   all_goals (first|(exfalso;omega)|skip)
   refine lpX (X:=Nat × List (Int × List Int) × List (Int × Tree)) (fun y=>[(2,.ref (.agg [.leaf,.leaf]) x.D),(7,reachF x),(8,iD (n * ys.length)),(9,iD i),(11,.list false (.agg [.leaf,.leaf]) (rchL y.2.1)),(12,.list false (.agg [.leaf,.agg [.leaf]]) (unsL y.2.2)),(13,iD y.1),(34,.list false (.agg [.leaf,.leaf]) (lvlsL L)),(35,iD (lvlsL L).length),(36,iD i)]) (fun y=>[])
    (fun y=>i ≤ y.1 ∧ y.1 ≤ x.V ∧ y.2.1.length ≤ 1000000 ∧ y.2.2.length ≤ 1000000 ∧ lvRun x i (x.V - i) i ys ns = lvRun x i (x.V - y.1) y.1 y.2.1 y.2.2) (fun y=>x.V - y.1) ⟨_,nx (ρ:=[]) (i,ys,ns) sCA trivial rfl rfl (Nat.lt_succ_self _) ⟨Nat.le_refl _,hi,hL2.1,hL2.2,rfl⟩⟩ ?_
   rintro ⟨j,ys',ns'⟩ ⟨hij,hj,hy1,hn1,hrun⟩
   dsimp only at hij hj hy1 hn1 hrun ⊢
   rcases Nat.lt_or_ge j x.V with hjl|hjg
   ·have hd:=pre_dif i j x.V hij hjl
    have hpj:=pre_len i j
    have hck:=fun yj ym=>vCheck1 x i yj ym hx hb hlt
    have hch:=fun um=>vCheckT x x (preI i j) (.node um) hx hx hx7 hx7 hd (by omega)
    rcases ys' with _|⟨⟨yj,ym⟩,yt⟩ <;> rcases ns' with _|⟨⟨uj,⟨um⟩⟩,ut⟩
    ·repeat' (
      conv=>whnf
      first
      |refine ifd (fun h=>?_) (fun h=>?_)
      |with_reducible refine ivZ ?_
      |((with_reducible apply drT 21);rfl))
     all_goals (conv=>whnf)
     all_goals (first|(exfalso;omega)|skip)
     all_goals first
      |(refine fC rfl (Eq.symm (hfail (hrun.trans (lvRun_bad hjl ?_ ?_)))) <;> (first|rfl|(refine yes_f1 ?_;assumption)|(refine yes_f2 ?_;assumption)|(refine yes_t ?_ ?_ <;> assumption)|(refine no_f1 ?_;assumption)|(refine no_f2 ?_;assumption)|(refine no_t ?_ ?_ <;> assumption)))
      |(refine nx0 (X:=Nat × List (Int × List Int) × List (Int × Tree)) (j + 1,yt,[]) ?_ rfl ?_ ?_ <;> first|(refine ⟨?_,?_,?_,hn1,hrun.trans (lvRun_yes hjl ?_)⟩ <;> first|(dsimp only;omega)|(simp only [List.length_cons] at hy1 ⊢;omega)|(refine yes_f1 ?_;assumption)|(refine yes_f2 ?_;assumption)|(refine yes_t ?_ ?_ <;> assumption)|(refine no_f1 ?_;assumption)|(refine no_f2 ?_;assumption)|(refine no_t ?_ ?_ <;> assumption))|(dsimp only;omega)|(simp only [List.length_cons] at hy1 ⊢;omega)|(refine yes_f1 ?_;assumption)|(refine yes_f2 ?_;assumption)|(refine yes_t ?_ ?_ <;> assumption)|(refine no_f1 ?_;assumption)|(refine no_f2 ?_;assumption)|(refine no_t ?_ ?_ <;> assumption)|(focus (repeat (first|exact trivial|refine se0 rfl ?_));done))
      |(refine nx0 (X:=Nat × List (Int × List Int) × List (Int × Tree)) (j + 1,yt,(uj,Tree.node um) :: ut) ?_ rfl ?_ ?_ <;> first|(refine ⟨?_,?_,?_,hn1,hrun.trans (lvRun_yes hjl ?_)⟩ <;> first|(dsimp only;omega)|(simp only [List.length_cons] at hy1 ⊢;omega)|(refine yes_f1 ?_;assumption)|(refine yes_f2 ?_;assumption)|(refine yes_t ?_ ?_ <;> assumption)|(refine no_f1 ?_;assumption)|(refine no_f2 ?_;assumption)|(refine no_t ?_ ?_ <;> assumption))|(dsimp only;omega)|(simp only [List.length_cons] at hy1 ⊢;omega)|(refine yes_f1 ?_;assumption)|(refine yes_f2 ?_;assumption)|(refine yes_t ?_ ?_ <;> assumption)|(refine no_f1 ?_;assumption)|(refine no_f2 ?_;assumption)|(refine no_t ?_ ?_ <;> assumption)|(focus (repeat (first|exact trivial|refine se0 rfl ?_));done))
      |(refine nx0 (X:=Nat × List (Int × List Int) × List (Int × Tree)) (j + 1,[],ut) ?_ rfl ?_ ?_ <;> first|(refine ⟨?_,?_,hy1,?_,hrun.trans (lvRun_no hjl ?_ ?_)⟩ <;> first|rfl|(dsimp only;omega)|(simp only [List.length_cons] at hn1 ⊢;omega)|(refine yes_f1 ?_;assumption)|(refine yes_f2 ?_;assumption)|(refine yes_t ?_ ?_ <;> assumption)|(refine no_f1 ?_;assumption)|(refine no_f2 ?_;assumption)|(refine no_t ?_ ?_ <;> assumption))|rfl|(dsimp only;omega)|(simp only [List.length_cons] at hn1 ⊢;omega)|(refine yes_f1 ?_;assumption)|(refine yes_f2 ?_;assumption)|(refine yes_t ?_ ?_ <;> assumption)|(refine no_f1 ?_;assumption)|(refine no_f2 ?_;assumption)|(refine no_t ?_ ?_ <;> assumption)|(focus (repeat (first|exact trivial|refine se0 rfl ?_));done))
      |(refine nx0 (X:=Nat × List (Int × List Int) × List (Int × Tree)) (j + 1,(yj,ym) :: yt,ut) ?_ rfl ?_ ?_ <;> first|(refine ⟨?_,?_,hy1,?_,hrun.trans (lvRun_no hjl ?_ ?_)⟩ <;> first|rfl|(dsimp only;omega)|(simp only [List.length_cons] at hn1 ⊢;omega)|(refine yes_f1 ?_;assumption)|(refine yes_f2 ?_;assumption)|(refine yes_t ?_ ?_ <;> assumption)|(refine no_f1 ?_;assumption)|(refine no_f2 ?_;assumption)|(refine no_t ?_ ?_ <;> assumption))|rfl|(dsimp only;omega)|(simp only [List.length_cons] at hn1 ⊢;omega)|(refine yes_f1 ?_;assumption)|(refine yes_f2 ?_;assumption)|(refine yes_t ?_ ?_ <;> assumption)|(refine no_f1 ?_;assumption)|(refine no_f2 ?_;assumption)|(refine no_t ?_ ?_ <;> assumption)|(focus (repeat (first|exact trivial|refine se0 rfl ?_));done))
      |skip
    ·have hp2 : (0 : Int) < ((unsL ((uj,Tree.node um) :: ut)).length : Int):=by simp only [unsL_len,List.length_cons];omega
     have hch:=hch um
     cases hk : chkM x x (preI i j) (.node um) <;> rw [hk] at hch
     all_goals
      repeat' (
       conv=>whnf
       first
       |refine ifd (fun h=>?_) (fun h=>?_)
       |with_reducible refine ivZ ?_
       |((with_reducible refine exW0 ?_))
       |((with_reducible refine hcI ?_);refine vcE hch ?_)
       |((with_reducible refine pcI ?_);refine vpE (vPrefix _ _ (by omega)) ?_)
       |((with_reducible apply drT 21);rfl)
       |((with_reducible apply ob);(exact oT)))
      all_goals (conv=>whnf)
      all_goals (first|(exfalso;omega)|skip)
      all_goals first
       |(refine fC rfl (Eq.symm (hfail (hrun.trans (lvRun_bad hjl ?_ ?_)))) <;> (first|rfl|(refine yes_f1 ?_;assumption)|(refine yes_f2 ?_;assumption)|(refine yes_t ?_ ?_ <;> assumption)|(refine no_f1 ?_;assumption)|(refine no_f2 ?_;assumption)|(refine no_t ?_ ?_ <;> assumption)))
       |(refine nx0 (X:=Nat × List (Int × List Int) × List (Int × Tree)) (j + 1,yt,[]) ?_ rfl ?_ ?_ <;> first|(refine ⟨?_,?_,?_,hn1,hrun.trans (lvRun_yes hjl ?_)⟩ <;> first|(dsimp only;omega)|(simp only [List.length_cons] at hy1 ⊢;omega)|(refine yes_f1 ?_;assumption)|(refine yes_f2 ?_;assumption)|(refine yes_t ?_ ?_ <;> assumption)|(refine no_f1 ?_;assumption)|(refine no_f2 ?_;assumption)|(refine no_t ?_ ?_ <;> assumption))|(dsimp only;omega)|(simp only [List.length_cons] at hy1 ⊢;omega)|(refine yes_f1 ?_;assumption)|(refine yes_f2 ?_;assumption)|(refine yes_t ?_ ?_ <;> assumption)|(refine no_f1 ?_;assumption)|(refine no_f2 ?_;assumption)|(refine no_t ?_ ?_ <;> assumption)|(focus (repeat (first|exact trivial|refine se0 rfl ?_));done))
       |(refine nx0 (X:=Nat × List (Int × List Int) × List (Int × Tree)) (j + 1,yt,(uj,Tree.node um) :: ut) ?_ rfl ?_ ?_ <;> first|(refine ⟨?_,?_,?_,hn1,hrun.trans (lvRun_yes hjl ?_)⟩ <;> first|(dsimp only;omega)|(simp only [List.length_cons] at hy1 ⊢;omega)|(refine yes_f1 ?_;assumption)|(refine yes_f2 ?_;assumption)|(refine yes_t ?_ ?_ <;> assumption)|(refine no_f1 ?_;assumption)|(refine no_f2 ?_;assumption)|(refine no_t ?_ ?_ <;> assumption))|(dsimp only;omega)|(simp only [List.length_cons] at hy1 ⊢;omega)|(refine yes_f1 ?_;assumption)|(refine yes_f2 ?_;assumption)|(refine yes_t ?_ ?_ <;> assumption)|(refine no_f1 ?_;assumption)|(refine no_f2 ?_;assumption)|(refine no_t ?_ ?_ <;> assumption)|(focus (repeat (first|exact trivial|refine se0 rfl ?_));done))
       |(refine nx0 (X:=Nat × List (Int × List Int) × List (Int × Tree)) (j + 1,[],ut) ?_ rfl ?_ ?_ <;> first|(refine ⟨?_,?_,hy1,?_,hrun.trans (lvRun_no hjl ?_ ?_)⟩ <;> first|rfl|(dsimp only;omega)|(simp only [List.length_cons] at hn1 ⊢;omega)|(refine yes_f1 ?_;assumption)|(refine yes_f2 ?_;assumption)|(refine yes_t ?_ ?_ <;> assumption)|(refine no_f1 ?_;assumption)|(refine no_f2 ?_;assumption)|(refine no_t ?_ ?_ <;> assumption))|rfl|(dsimp only;omega)|(simp only [List.length_cons] at hn1 ⊢;omega)|(refine yes_f1 ?_;assumption)|(refine yes_f2 ?_;assumption)|(refine yes_t ?_ ?_ <;> assumption)|(refine no_f1 ?_;assumption)|(refine no_f2 ?_;assumption)|(refine no_t ?_ ?_ <;> assumption)|(focus (repeat (first|exact trivial|refine se0 rfl ?_));done))
       |(refine nx0 (X:=Nat × List (Int × List Int) × List (Int × Tree)) (j + 1,(yj,ym) :: yt,ut) ?_ rfl ?_ ?_ <;> first|(refine ⟨?_,?_,hy1,?_,hrun.trans (lvRun_no hjl ?_ ?_)⟩ <;> first|rfl|(dsimp only;omega)|(simp only [List.length_cons] at hn1 ⊢;omega)|(refine yes_f1 ?_;assumption)|(refine yes_f2 ?_;assumption)|(refine yes_t ?_ ?_ <;> assumption)|(refine no_f1 ?_;assumption)|(refine no_f2 ?_;assumption)|(refine no_t ?_ ?_ <;> assumption))|rfl|(dsimp only;omega)|(simp only [List.length_cons] at hn1 ⊢;omega)|(refine yes_f1 ?_;assumption)|(refine yes_f2 ?_;assumption)|(refine yes_t ?_ ?_ <;> assumption)|(refine no_f1 ?_;assumption)|(refine no_f2 ?_;assumption)|(refine no_t ?_ ?_ <;> assumption)|(focus (repeat (first|exact trivial|refine se0 rfl ?_));done))
       |skip
    ·have hp1 : (0 : Int) < ((rchL ((yj,ym) :: yt)).length : Int):=by simp only [rchL_len,List.length_cons];omega
     have hck:=hck yj ym
     cases hr : reachB x i yj ym <;> rw [hr] at hck
     all_goals
      repeat' (
       conv=>whnf
       first
       |refine ifd (fun h=>?_) (fun h=>?_)
       |with_reducible refine ivZ ?_
       |((with_reducible refine exC0 ?_))
       |((with_reducible refine hcI ?_);refine vcE hck ?_)
       |((with_reducible apply drT 21);rfl)
       |((with_reducible apply ob);(exact oT)))
      all_goals (conv=>whnf)
      all_goals (first|(exfalso;omega)|skip)
      all_goals first
       |(refine fC rfl (Eq.symm (hfail (hrun.trans (lvRun_bad hjl ?_ ?_)))) <;> (first|rfl|(refine yes_f1 ?_;assumption)|(refine yes_f2 ?_;assumption)|(refine yes_t ?_ ?_ <;> assumption)|(refine no_f1 ?_;assumption)|(refine no_f2 ?_;assumption)|(refine no_t ?_ ?_ <;> assumption)))
       |(refine nx0 (X:=Nat × List (Int × List Int) × List (Int × Tree)) (j + 1,yt,[]) ?_ rfl ?_ ?_ <;> first|(refine ⟨?_,?_,?_,hn1,hrun.trans (lvRun_yes hjl ?_)⟩ <;> first|(dsimp only;omega)|(simp only [List.length_cons] at hy1 ⊢;omega)|(refine yes_f1 ?_;assumption)|(refine yes_f2 ?_;assumption)|(refine yes_t ?_ ?_ <;> assumption)|(refine no_f1 ?_;assumption)|(refine no_f2 ?_;assumption)|(refine no_t ?_ ?_ <;> assumption))|(dsimp only;omega)|(simp only [List.length_cons] at hy1 ⊢;omega)|(refine yes_f1 ?_;assumption)|(refine yes_f2 ?_;assumption)|(refine yes_t ?_ ?_ <;> assumption)|(refine no_f1 ?_;assumption)|(refine no_f2 ?_;assumption)|(refine no_t ?_ ?_ <;> assumption)|(focus (repeat (first|exact trivial|refine se0 rfl ?_));done))
       |(refine nx0 (X:=Nat × List (Int × List Int) × List (Int × Tree)) (j + 1,yt,(uj,Tree.node um) :: ut) ?_ rfl ?_ ?_ <;> first|(refine ⟨?_,?_,?_,hn1,hrun.trans (lvRun_yes hjl ?_)⟩ <;> first|(dsimp only;omega)|(simp only [List.length_cons] at hy1 ⊢;omega)|(refine yes_f1 ?_;assumption)|(refine yes_f2 ?_;assumption)|(refine yes_t ?_ ?_ <;> assumption)|(refine no_f1 ?_;assumption)|(refine no_f2 ?_;assumption)|(refine no_t ?_ ?_ <;> assumption))|(dsimp only;omega)|(simp only [List.length_cons] at hy1 ⊢;omega)|(refine yes_f1 ?_;assumption)|(refine yes_f2 ?_;assumption)|(refine yes_t ?_ ?_ <;> assumption)|(refine no_f1 ?_;assumption)|(refine no_f2 ?_;assumption)|(refine no_t ?_ ?_ <;> assumption)|(focus (repeat (first|exact trivial|refine se0 rfl ?_));done))
       |(refine nx0 (X:=Nat × List (Int × List Int) × List (Int × Tree)) (j + 1,[],ut) ?_ rfl ?_ ?_ <;> first|(refine ⟨?_,?_,hy1,?_,hrun.trans (lvRun_no hjl ?_ ?_)⟩ <;> first|rfl|(dsimp only;omega)|(simp only [List.length_cons] at hn1 ⊢;omega)|(refine yes_f1 ?_;assumption)|(refine yes_f2 ?_;assumption)|(refine yes_t ?_ ?_ <;> assumption)|(refine no_f1 ?_;assumption)|(refine no_f2 ?_;assumption)|(refine no_t ?_ ?_ <;> assumption))|rfl|(dsimp only;omega)|(simp only [List.length_cons] at hn1 ⊢;omega)|(refine yes_f1 ?_;assumption)|(refine yes_f2 ?_;assumption)|(refine yes_t ?_ ?_ <;> assumption)|(refine no_f1 ?_;assumption)|(refine no_f2 ?_;assumption)|(refine no_t ?_ ?_ <;> assumption)|(focus (repeat (first|exact trivial|refine se0 rfl ?_));done))
       |(refine nx0 (X:=Nat × List (Int × List Int) × List (Int × Tree)) (j + 1,(yj,ym) :: yt,ut) ?_ rfl ?_ ?_ <;> first|(refine ⟨?_,?_,hy1,?_,hrun.trans (lvRun_no hjl ?_ ?_)⟩ <;> first|rfl|(dsimp only;omega)|(simp only [List.length_cons] at hn1 ⊢;omega)|(refine yes_f1 ?_;assumption)|(refine yes_f2 ?_;assumption)|(refine yes_t ?_ ?_ <;> assumption)|(refine no_f1 ?_;assumption)|(refine no_f2 ?_;assumption)|(refine no_t ?_ ?_ <;> assumption))|rfl|(dsimp only;omega)|(simp only [List.length_cons] at hn1 ⊢;omega)|(refine yes_f1 ?_;assumption)|(refine yes_f2 ?_;assumption)|(refine yes_t ?_ ?_ <;> assumption)|(refine no_f1 ?_;assumption)|(refine no_f2 ?_;assumption)|(refine no_t ?_ ?_ <;> assumption)|(focus (repeat (first|exact trivial|refine se0 rfl ?_));done))
       |skip
    ·have hp1 : (0 : Int) < ((rchL ((yj,ym) :: yt)).length : Int):=by simp only [rchL_len,List.length_cons];omega
     have hp2 : (0 : Int) < ((unsL ((uj,Tree.node um) :: ut)).length : Int):=by simp only [unsL_len,List.length_cons];omega
     have hck:=hck yj ym
     have hch:=hch um
     cases hr : reachB x i yj ym <;> rw [hr] at hck <;> cases hk : chkM x x (preI i j) (.node um) <;> rw [hk] at hch
     all_goals
      repeat' (
       conv=>whnf
       first
       |refine ifd (fun h=>?_) (fun h=>?_)
       |with_reducible refine ivZ ?_
       |((with_reducible refine exC0 ?_))
       |((with_reducible refine exW0 ?_))
       |((with_reducible refine hcI ?_);refine vcE hck ?_)
       |((with_reducible refine hcI ?_);refine vcE hch ?_)
       |((with_reducible refine pcI ?_);refine vpE (vPrefix _ _ (by omega)) ?_)
       |((with_reducible apply drT 21);rfl)
       |((with_reducible apply ob);(exact oT)))
      all_goals (conv=>whnf)
      all_goals (first|(exfalso;omega)|skip)
      all_goals first
       |(refine fC rfl (Eq.symm (hfail (hrun.trans (lvRun_bad hjl ?_ ?_)))) <;> (first|rfl|(refine yes_f1 ?_;assumption)|(refine yes_f2 ?_;assumption)|(refine yes_t ?_ ?_ <;> assumption)|(refine no_f1 ?_;assumption)|(refine no_f2 ?_;assumption)|(refine no_t ?_ ?_ <;> assumption)))
       |(refine nx0 (X:=Nat × List (Int × List Int) × List (Int × Tree)) (j + 1,yt,[]) ?_ rfl ?_ ?_ <;> first|(refine ⟨?_,?_,?_,hn1,hrun.trans (lvRun_yes hjl ?_)⟩ <;> first|(dsimp only;omega)|(simp only [List.length_cons] at hy1 ⊢;omega)|(refine yes_f1 ?_;assumption)|(refine yes_f2 ?_;assumption)|(refine yes_t ?_ ?_ <;> assumption)|(refine no_f1 ?_;assumption)|(refine no_f2 ?_;assumption)|(refine no_t ?_ ?_ <;> assumption))|(dsimp only;omega)|(simp only [List.length_cons] at hy1 ⊢;omega)|(refine yes_f1 ?_;assumption)|(refine yes_f2 ?_;assumption)|(refine yes_t ?_ ?_ <;> assumption)|(refine no_f1 ?_;assumption)|(refine no_f2 ?_;assumption)|(refine no_t ?_ ?_ <;> assumption)|(focus (repeat (first|exact trivial|refine se0 rfl ?_));done))
       |(refine nx0 (X:=Nat × List (Int × List Int) × List (Int × Tree)) (j + 1,yt,(uj,Tree.node um) :: ut) ?_ rfl ?_ ?_ <;> first|(refine ⟨?_,?_,?_,hn1,hrun.trans (lvRun_yes hjl ?_)⟩ <;> first|(dsimp only;omega)|(simp only [List.length_cons] at hy1 ⊢;omega)|(refine yes_f1 ?_;assumption)|(refine yes_f2 ?_;assumption)|(refine yes_t ?_ ?_ <;> assumption)|(refine no_f1 ?_;assumption)|(refine no_f2 ?_;assumption)|(refine no_t ?_ ?_ <;> assumption))|(dsimp only;omega)|(simp only [List.length_cons] at hy1 ⊢;omega)|(refine yes_f1 ?_;assumption)|(refine yes_f2 ?_;assumption)|(refine yes_t ?_ ?_ <;> assumption)|(refine no_f1 ?_;assumption)|(refine no_f2 ?_;assumption)|(refine no_t ?_ ?_ <;> assumption)|(focus (repeat (first|exact trivial|refine se0 rfl ?_));done))
       |(refine nx0 (X:=Nat × List (Int × List Int) × List (Int × Tree)) (j + 1,[],ut) ?_ rfl ?_ ?_ <;> first|(refine ⟨?_,?_,hy1,?_,hrun.trans (lvRun_no hjl ?_ ?_)⟩ <;> first|rfl|(dsimp only;omega)|(simp only [List.length_cons] at hn1 ⊢;omega)|(refine yes_f1 ?_;assumption)|(refine yes_f2 ?_;assumption)|(refine yes_t ?_ ?_ <;> assumption)|(refine no_f1 ?_;assumption)|(refine no_f2 ?_;assumption)|(refine no_t ?_ ?_ <;> assumption))|rfl|(dsimp only;omega)|(simp only [List.length_cons] at hn1 ⊢;omega)|(refine yes_f1 ?_;assumption)|(refine yes_f2 ?_;assumption)|(refine yes_t ?_ ?_ <;> assumption)|(refine no_f1 ?_;assumption)|(refine no_f2 ?_;assumption)|(refine no_t ?_ ?_ <;> assumption)|(focus (repeat (first|exact trivial|refine se0 rfl ?_));done))
       |(refine nx0 (X:=Nat × List (Int × List Int) × List (Int × Tree)) (j + 1,(yj,ym) :: yt,ut) ?_ rfl ?_ ?_ <;> first|(refine ⟨?_,?_,hy1,?_,hrun.trans (lvRun_no hjl ?_ ?_)⟩ <;> first|rfl|(dsimp only;omega)|(simp only [List.length_cons] at hn1 ⊢;omega)|(refine yes_f1 ?_;assumption)|(refine yes_f2 ?_;assumption)|(refine yes_t ?_ ?_ <;> assumption)|(refine no_f1 ?_;assumption)|(refine no_f2 ?_;assumption)|(refine no_t ?_ ?_ <;> assumption))|rfl|(dsimp only;omega)|(simp only [List.length_cons] at hn1 ⊢;omega)|(refine yes_f1 ?_;assumption)|(refine yes_f2 ?_;assumption)|(refine yes_t ?_ ?_ <;> assumption)|(refine no_f1 ?_;assumption)|(refine no_f2 ?_;assumption)|(refine no_t ?_ ?_ <;> assumption)|(focus (repeat (first|exact trivial|refine se0 rfl ?_));done))
       |skip
   ·have hjv : j = x.V:=by omega
    have hl1:=rchL_len ys'
    have hl2:=unsL_len ns'
    subst hjv
    have hrun2 : lvRun x i (x.V - i) i ys ns = decide (ys'.length + ns'.length = 0):=by rw [hrun,Nat.sub_self];rfl
    repeat' (
     conv=>whnf
     first
     |refine ifd (fun h=>?_) (fun h=>?_)
     |with_reducible refine ivZ ?_
     |((with_reducible apply drT 21);rfl)
     |((with_reducible apply ob);(exact oT)))
    all_goals (conv=>whnf)
    all_goals (first|(exfalso;omega)|skip)
    ·exact fC rfl (Eq.symm (hfail (by rw [hrun2];exact decide_eq_false (by omega))))
    ·have ht : lvRun x i (x.V - i) i ys ns = true:=by rw [hrun2];exact decide_eq_true (by omega)
     have hle:=lvRun_le x i _ _ _ _ ht
     refine nx (X:=Nat × Nat) (ρ:=[]) (i + 1,n * ys.length) sCA trivial rfl rfl ?_ ?_
     ·dsimp only;omega
     ·refine ⟨?_,?_,hgo ht⟩
      ·dsimp only;omega
      ·dsimp only;rw [Nat.pow_succ];exact Nat.mul_le_mul hn (by omega)
  ·have hiv : i = x.V:=by omega
   have hlast : chkN x L = n:=by
    unfold chkN;rw [if_pos hLV,hc,List.drop_eq_nil_of_le (by omega)];rfl
   repeat' (
    conv=>whnf
    first
    |refine ifd (fun h=>?_) (fun h=>?_)
    |((with_reducible apply ob);(exact oT)))
   all_goals (conv=>whnf)
   all_goals (first|(exfalso;omega)|skip)
   ·exact fC rfl (by rw [hlast,show n = 0 by omega];rfl)
   ·refine fC rfl (by rw [hlast];unfold chkD;rw [if_neg (by omega)];rfl)
 ·repeat' (
   conv=>whnf
   first
   |refine ifd (fun h=>?_) (fun h=>?_)
   |refine ifn (fun h=>?_) (fun h=>?_)
   |with_reducible refine ivZ ?_)
  all_goals (conv=>whnf)
  all_goals (first|(exfalso;omega)|skip)
  have e : chkN x L = 0:=by unfold chkN;rw [if_neg hLV]
  exact fC rfl (by rw [e];rfl)
open Go
open Go
structure Inc.Fam (x : Inc) : Prop where
 ok : x.Ok
 v7 : x.V ≤ 7
 s : Srt x.B
 lt : ∀ b ∈ x.B,b < 2 ^ x.V
theorem traceK_bit (b : Nat) (l : List Int) (q : Nat) : ∀ k,(traceK b l k).testBit q = (decide (q < k) && b.testBit (l.getD q 0).toNat)
 |0=>by simp [traceK]
 |k + 1=>by
  have h1 : ∀ y : Nat,(y &&& 1).testBit (q - k) = (decide (q - k = 0) && y.testBit 0):=fun y=>by
   rw [Nat.testBit_and]
   rcases Nat.eq_zero_or_pos (q - k) with h|h
   ·rw [h];simp
   ·have : Nat.testBit 1 (q - k) = false:=by
     have e : (1 : Nat) = 2 ^ 0:=rfl
     rw [e,Nat.testBit_two_pow];simp;omega
    rw [this];simp;omega
  rw [traceK,Nat.testBit_or,traceK_bit b l q k,Nat.testBit_shiftLeft,h1,Nat.testBit_shiftRight]
  rcases Nat.lt_trichotomy q k with h|h|h
  ·have a1 : ¬ q ≥ k:=by omega
   have a2 : q < k + 1:=by omega
   simp [h,a1,a2]
  ·subst h;simp
  ·have a1 : ¬ q < k:=by omega
   have a2 : ¬ q < k + 1:=by omega
   have a3 : q - k ≠ 0:=by omega
   simp [a1,a2,a3]
theorem traceB_bit (l : List Int) (b q : Nat) : (traceB l b).testBit q = (decide (q < l.length) && b.testBit (l.getD q 0).toNat):=traceK_bit b l q _
theorem trace_take (l : List Int) (b k : Nat) (hk : k ≤ l.length) : traceB (l.take k) b = traceB l b % 2 ^ k:=by
 apply Nat.eq_of_testBit_eq
 intro q
 rw [Nat.testBit_mod_two_pow,traceB_bit,traceB_bit,List.length_take,Nat.min_eq_left hk]
 by_cases h : q < k
 ·have h2 : q < l.length:=by omega
  have e : (l.take k).getD q 0 = l.getD q 0:=by simp [List.getD,List.getElem?_take,h]
  simp [h,h2,e]
 ·simp [h]
theorem one_getD (n q : Nat) (h : q < n) : (oneI n).getD q 0 = (q : Int):=by
 have : (oneI n)[q]? = some (q : Int):=by simp [oneI,natsI,h]
 exact getD_of this
theorem trace_one (n b : Nat) : traceB (oneI n) b = b % 2 ^ n:=by
 apply Nat.eq_of_testBit_eq
 intro q
 rw [Nat.testBit_mod_two_pow,traceB_bit,one_len]
 by_cases h : q < n
 ·rw [one_getD n q h];simp
 ·simp [h]
theorem oneT (n k : Nat) (h : k ≤ n) : (oneI n).take k = oneI k:=by
 simp [oneI,natsI,← List.map_take,List.take_range,Nat.min_eq_left h]
theorem one_dif (k n : Nat) (h : k ≤ n) : Dif (oneI k) n:=by
 refine ⟨fun x hx=>?_,?_⟩
 ·simp only [oneI,natsI,List.mem_map,List.mem_range] at hx
  obtain ⟨y,hy,rfl⟩:=hx
  omega
 ·unfold oneI natsI
  exact List.Pairwise.map _ (fun a b (hab : a ≠ b)=>by intro e;exact hab (by omega)) List.nodup_range
theorem dif_take {m : List Int} {n : Int} (h : Dif m n) (k : Nat) : Dif (m.take k) n:=⟨fun x hx=>h.1 x (List.mem_of_mem_take hx),h.2.sublist (List.take_sublist k m)⟩
theorem sortL_iff (l m : List Nat) : sortL l = sortL m ↔ l.Perm m :=
 ⟨fun h=>((sortL_perm l).symm.trans (h ▸ List.Perm.refl _)).trans (sortL_perm m),fun h=>sort_uniq ((sortL_perm l).trans h) (sortL_srt l)⟩
def OkM (x : Inc) (m : List Int) : Prop:=(x.B.map (traceB (oneI m.length))).Perm (x.B.map (traceB m))
theorem fails_iff (x : Inc) {m : List Int} (hd : Dif m x.V) : ¬ Fails x x m ↔ OkM x m:=by
 have hl:=dif_len hd
 have h1:=one_dif m.length x.V hl
 unfold Fails tracesL OkM
 rw [if_pos h1,if_pos hd,← sortL_iff]
 simp
def Aut (x : Inc) (g : List Int) : Prop:=Pm g x.V ∧ OkM x g
theorem okM_take {x : Inc} {g : List Int} (h : OkM x g) (k : Nat) (hk : k ≤ g.length) : OkM x (g.take k):=by
 have h1:=h.map (fun t=>t % 2 ^ k)
 unfold OkM
 rw [List.map_map,List.map_map] at h1
 rw [List.length_take,Nat.min_eq_left hk]
 have e1 : x.B.map (traceB (oneI k)) = x.B.map ((fun t=>t % 2 ^ k) ∘ traceB (oneI g.length)):=List.map_congr_left fun b _=>by
  show _ = traceB (oneI g.length) b % 2 ^ k
  rw [← trace_take _ _ _ (by rw [one_len];exact hk),oneT _ _ hk]
 have e2 : x.B.map (traceB (g.take k)) = x.B.map ((fun t=>t % 2 ^ k) ∘ traceB g):=List.map_congr_left fun b _=>trace_take _ _ _ hk
 rw [e1,e2];exact h1
theorem aut_take {x : Inc} {g : List Int} (h : Aut x g) (k : Nat) : ¬ Fails x x (g.take k):=by
 rw [fails_iff x (dif_take h.1.2 k)]
 rcases Nat.le_total k g.length with hk|hk
 ·exact okM_take h.2 k hk
 ·rw [List.take_of_length_le hk];exact h.2
theorem firstS_no {α : Type} {F : Nat → Option α} : ∀ {l : List Nat},firstS F l = none → ∀ p ∈ l,F p = none
 |[],_,p,hp=>by cases hp
 |q :: ps,h,p,hp=>by
  cases hq : F q with
  |some y=>simp [firstS,hq] at h
  |none =>
   simp only [firstS,hq] at h
   rcases List.mem_cons.1 hp with rfl|hp
   ·exact hq
   ·exact firstS_no h p hp
theorem allS_no {α : Type} {F : Nat → Option α} : ∀ {l : List Nat},allS F l = none → ∃ p ∈ l,F p = none
 |[],h=>by cases h
 |q :: ps,h=>by
  cases hq : F q with
  |none=>exact ⟨q,List.mem_cons_self,hq⟩
  |some y =>
   cases ht : allS F ps with
   |some ts=>simp [allS,hq,ht] at h
   |none=>obtain ⟨p,hp,e⟩:=allS_no ht;exact ⟨p,List.mem_cons_of_mem _ hp,e⟩
theorem allS_get {α : Type} {F : Nat → Option α} : ∀ {l : List Nat} {ts : List α},allS F l = some ts → ts.length = l.length ∧ ∀ (i p : Nat) (t : α),l[i]? = some p → ts[i]? = some t → F p = some t
 |[],ts,h=>by cases h;exact ⟨rfl,by simp⟩
 |q :: ps,ts,h=>by
  cases hq : F q with
  |none=>simp [allS,hq] at h
  |some y =>
   cases ht : allS F ps with
   |none=>simp [allS,hq,ht] at h
   |some us =>
    simp only [allS,hq,ht] at h
    cases h
    obtain ⟨h1,h2⟩:=allS_get ht
    refine ⟨by simp [h1],?_⟩
    rintro (_|i) p t hp ht
    ·simp at hp ht;subst hp;subst ht;exact hq
    ·exact h2 i p t (by simpa using hp) (by simpa using ht)
theorem take_snoc {g m : List Int} {p : Int} (h : g.take (m.length + 1) = m ++ [p]) : g.take m.length = m:=by
 have:=congrArg (List.take m.length) h
 rwa [List.take_take,Nat.min_eq_left (by omega),List.take_left] at this
theorem take_more {g m : List Int} (h : g.take m.length = m) (hl : m.length < g.length) : g.take (m.length + 1) = m ++ [g[m.length]]:=by
 rw [List.take_add_one,h,List.getElem?_eq_getElem hl];rfl
theorem look_aut (x : Inc) (hx : x.V ≤ 7) : ∀ f m g,m.length + f = x.V → Dif m x.V → lookA x x f m = some g → Aut x g ∧ g.take m.length = m
 |0,m,g,hl,hd,h=>by
  unfold lookA at h
  by_cases hf : Fails x x m
  ·rw [if_pos hf] at h;cases h
  ·rw [if_neg hf] at h;cases h
   exact ⟨⟨⟨by omega,hd⟩,(fails_iff x hd).1 hf⟩,List.take_length⟩
 |f + 1,m,g,hl,hd,h=>by
  unfold lookA at h
  by_cases hf : Fails x x m
  ·rw [if_pos hf] at h;cases h
  ·rw [if_neg hf] at h
   obtain ⟨p,hp,e⟩:=firstS_get h
   have hp2:=(restL_mem (by omega) hd.1 p).1 hp
   have hd2 : Dif (m ++ [(p : Int)]) x.V:=dif_snoc (by omega) hd hp
   obtain ⟨h1,h2⟩:=look_aut x hx f _ g (by simp;omega) hd2 e
   refine ⟨h1,take_snoc (p:=(p : Int)) ?_⟩
   rw [← h2];simp
theorem aut_next {x : Inc} (hx : x.V ≤ 7) {g m : List Int} (hg : Pm g x.V) (hm : g.take m.length = m) (hl : m.length < x.V) : ∃ p : Nat,p ∈ restL x.V m ∧ g.take (m.length + 1) = m ++ [(p : Int)]:=by
 have hlg : m.length < g.length:=by rw [hg.1];exact hl
 have hr:=hg.2.1 _ (List.getElem_mem hlg)
 have hd : Dif m x.V:=hm ▸ dif_take hg.2 m.length
 have e : ((g[m.length].toNat : Nat) : Int) = g[m.length]:=by omega
 refine ⟨g[m.length].toNat,(restL_mem (by omega) hd.1 _).2 ⟨by omega,?_⟩,by rw [e];exact take_more hm hlg⟩
 rw [e]
 intro hmem
 have h2 : (g.take (m.length + 1)).Nodup:=hg.2.2.sublist (List.take_sublist _ _)
 rw [take_more hm hlg] at h2
 exact (List.nodup_append.1 h2).2.2 _ hmem _ (List.mem_singleton.2 rfl) rfl
theorem look_ne (x : Inc) (hx : x.V ≤ 7) (g : List Int) (hg : Aut x g) : ∀ f m,m.length + f = x.V → g.take m.length = m → lookA x x f m ≠ none
 |0,m,hl,hm=>by
  have h:=aut_take hg m.length
  rw [hm] at h
  simp [lookA,h]
 |f + 1,m,hl,hm=>by
  have h:=aut_take hg m.length
  rw [hm] at h
  obtain ⟨p,hp,hp2⟩:=aut_next hx hg.1 hm (by omega)
  unfold lookA
  rw [if_neg h]
  intro hn
  exact look_ne x hx g hg f (m ++ [(p : Int)]) (by simp;omega) (by rw [List.length_append];exact hp2) (firstS_no hn p hp)
theorem ref_acc (x : Inc) (hx : x.V ≤ 7) : ∀ f m t,m.length + f = x.V → Dif m x.V → refM x x f m = some t → accM x x f m t = true
 |0,m,t,hl,hd,h=>by
  unfold refM at h
  by_cases hf : Fails x x m
  ·rw [if_pos hf] at h;cases h
   show (if _ then _ else _) = _
   rw [if_pos (by rfl)];exact decide_eq_true hf
  ·rw [if_neg hf] at h;cases h
 |f + 1,m,t,hl,hd,h=>by
  unfold refM at h
  by_cases hf : Fails x x m
  ·rw [if_pos hf] at h;cases h
   show (if _ then _ else _) = _
   rw [if_pos (by rfl)];exact decide_eq_true hf
  ·rw [if_neg hf] at h
   cases ha : allS (fun p=>refM x x f (m ++ [(p : Int)])) (restL x.V m) with
   |none=>rw [ha] at h;cases h
   |some ts =>
    rw [ha] at h;cases h
    obtain ⟨h1,h2⟩:=allS_get ha
    have hrl:=restL_len (V:=x.V) (by omega) hd
    unfold accM
    rw [if_neg (show ¬ (Tree.node ts).kids.length = 0 by show ¬ ts.length = 0;omega),if_neg (by simp only [Tree.kids];omega)]
    refine allB2_true fun i p t hp ht=>?_
    have hp2:=(restL_mem (by omega) hd.1 p).1 (List.mem_of_getElem? hp)
    exact ref_acc x hx f _ _ (by simp;omega) (dif_snoc (by omega) hd (List.mem_of_getElem? hp)) (h2 i p t hp ht)
theorem ref_none (x : Inc) : ∀ f m,refM x x f m = none → lookA x x f m ≠ none
 |0,m,h=>by
  unfold refM at h
  by_cases hf : Fails x x m
  ·rw [if_pos hf] at h;cases h
  ·unfold lookA;rw [if_neg hf];simp
 |f + 1,m,h=>by
  unfold refM at h
  by_cases hf : Fails x x m
  ·rw [if_pos hf] at h;cases h
  ·rw [if_neg hf] at h
   cases ha : allS (fun p=>refM x x f (m ++ [(p : Int)])) (restL x.V m) with
   |some ts=>rw [ha] at h;cases h
   |none =>
    obtain ⟨p,hp,e⟩:=allS_no ha
    unfold lookA;rw [if_neg hf]
    intro hn
    exact ref_none x f _ e (firstS_no hn p hp)
theorem rest_one (V k : Nat) (hV : V ≤ 7) (h : k < V) : ∃ l,restL V (oneI k) = k :: l:=by
 have hd:=one_dif k V (by omega)
 have hs : (restL V (oneI k)).Pairwise (· < ·):=List.Pairwise.filter _ List.pairwise_lt_range
 have hm:=fun p=>restL_mem (V:=V) (m:=oneI k) (by omega) hd.1 p
 have hk : k ∈ restL V (oneI k):=(hm k).2 ⟨h,fun hh=>by
  simp only [oneI,natsI,List.mem_map,List.mem_range] at hh
  obtain ⟨y,hy,e⟩:=hh
  omega⟩
 cases hl : restL V (oneI k) with
 |nil=>rw [hl] at hk;cases hk
 |cons a l =>
  refine ⟨l,?_⟩
  rw [hl] at hs hk
  rcases List.mem_cons.1 hk with e|e
  ·rw [e]
  ·have h1:=(List.pairwise_cons.1 hs).1 k e
   have h2:=(hm a).1 (hl ▸ List.mem_cons_self)
   exact absurd (List.mem_map.2 ⟨a,List.mem_range.2 h1,rfl⟩) h2.2
theorem one_snoc (k : Nat) : oneI k ++ [(k : Int)] = oneI (k + 1):=by simp only [oneI,natsI,List.range_succ,List.map_append,List.map_cons,List.map_nil]
theorem okM_one (x : Inc) (k : Nat) : OkM x (oneI k):=by unfold OkM;rw [one_len]
theorem look_one (x : Inc) (hx : x.V ≤ 7) : ∀ f k,k + f = x.V → lookA x x f (oneI k) = some (oneI x.V)
 |0,k,h=>by
  have : k = x.V:=by omega
  subst this
  have hn:=(fails_iff x (one_dif x.V x.V (Nat.le_refl _))).2 (okM_one x x.V)
  simp [lookA,hn]
 |f + 1,k,h=>by
  have hn:=(fails_iff x (one_dif k x.V (by omega))).2 (okM_one x k)
  obtain ⟨l,hl⟩:=rest_one x.V k hx (by omega)
  unfold lookA
  rw [if_neg hn,hl]
  have:=look_one x hx f (k + 1) (by omega)
  simp only [firstS,one_snoc,this]
theorem mov_bit (g : List Int) (q : Nat) : ∀ (l : List Nat) (o : Nat),(l.foldl (fun o p=>o ||| 1 <<< (g.getD p 0).toNat) o).testBit q = true ↔ (o.testBit q = true ∨ ∃ p ∈ l,(g.getD p 0).toNat = q)
 |[],o=>by simp
 |p :: l,o=>by
  rw [List.foldl_cons,mov_bit g q l]
  rw [Nat.testBit_or,Nat.one_shiftLeft,Nat.testBit_two_pow]
  simp only [Bool.or_eq_true,decide_eq_true_eq,List.mem_cons,exists_eq_or_imp]
  exact or_assoc
theorem bitsL_mem (b q : Nat) : q ∈ bitsL b ↔ q < 64 ∧ b.testBit q = true:=by unfold bitsL;rw [List.mem_filter,List.mem_range]
theorem bits_lt {b V : Nat} (hb : b < 2 ^ V) {q : Nat} (h : b.testBit q = true) : q < V:=by
 rcases Nat.lt_or_ge q V with h1|h1
 ·exact h1
 ·rw [Nat.testBit_lt_two_pow (Nat.lt_of_lt_of_le hb (Nat.pow_le_pow_right (by decide) h1))] at h;cases h
theorem pm_inj {g : List Int} {V : Nat} (hg : Pm g V) {p q : Nat} (hp : p < V) (hq : q < V) (h : (g.getD p 0).toNat = (g.getD q 0).toNat) : p = q:=by
 have hp2 : p < g.length:=by rw [hg.1];exact hp
 have hq2 : q < g.length:=by rw [hg.1];exact hq
 rw [getD_of (List.getElem?_eq_getElem hp2),getD_of (List.getElem?_eq_getElem hq2)] at h
 have h1:=hg.2.1 _ (List.getElem_mem hp2)
 have h2:=hg.2.1 _ (List.getElem_mem hq2)
 have e : g[p] = g[q]:=by omega
 exact (List.getElem_inj hg.2.2).1 e
theorem trace_mov {g : List Int} {V b : Nat} (hV : V ≤ 64) (hg : Pm g V) (hb : b < 2 ^ V) : traceB g (movL g (bitsL b)) = b:=by
 apply Nat.eq_of_testBit_eq
 intro q
 rw [traceB_bit,hg.1]
 have h1:=mov_bit g (g.getD q 0).toNat (bitsL b) 0
 rw [Bool.eq_iff_iff,Bool.and_eq_true,decide_eq_true_eq]
 unfold movL
 rw [h1]
 simp only [Nat.zero_testBit,Bool.false_eq_true,false_or]
 constructor
 ·rintro ⟨hq,p,hp,e⟩
  rw [bitsL_mem] at hp
  have:=pm_inj hg (bits_lt hb hp.2) hq e
  rw [← this];exact hp.2
 ·intro h
  exact ⟨bits_lt hb h,q,(bitsL_mem _ _).2 ⟨by have:=bits_lt hb h;omega,h⟩,rfl⟩
theorem trace_lt (g : List Int) (b : Nat) : traceB g b < 2 ^ g.length:=by
 refine Nat.lt_pow_two_of_testBit _ fun i hi=>?_
 rw [traceB_bit]
 have : ¬ i < g.length:=by omega
 simp [this]
theorem trace_inj {g : List Int} {V b c : Nat} (hg : Pm g V) (hV : V ≤ 64) (hb : b < 2 ^ V) (hc : c < 2 ^ V) (h : traceB g b = traceB g c) : b = c:=by
 have hs : ∀ q,q < V → ∃ p,p < V ∧ (g.getD p 0).toNat = q:=by
  have hnd : (g.map Int.toNat).Nodup:=(nd_map (fun a ha b hb e=>by have:=hg.2.1 a ha;have:=hg.2.1 b hb;omega)).2 hg.2.2
  have h1:=(count_lt V (g.map Int.toNat) (fun x hx=>by
   obtain ⟨y,hy,rfl⟩:=List.mem_map.1 hx
   have:=hg.2.1 y hy;omega) (by rw [List.length_map];exact hg.1)).2 hnd
  intro q hq
  obtain ⟨y,hy,e⟩:=List.mem_map.1 (h1 q hq)
  obtain ⟨p,hp,rfl⟩:=List.getElem_of_mem hy
  exact ⟨p,by rw [← hg.1];exact hp,by rw [getD_of (List.getElem?_eq_getElem hp)];exact e⟩
 apply Nat.eq_of_testBit_eq
 intro q
 rcases Nat.lt_or_ge q V with hq|hq
 ·obtain ⟨p,hp,e⟩:=hs q hq
  have h1:=congrArg (fun t=>t.testBit p) h
  simp only [traceB_bit,hg.1,hp,decide_true,Bool.true_and,e] at h1
  exact h1
 ·rw [Nat.testBit_lt_two_pow (Nat.lt_of_lt_of_le hb (Nat.pow_le_pow_right (by decide) hq)),Nat.testBit_lt_two_pow (Nat.lt_of_lt_of_le hc (Nat.pow_le_pow_right (by decide) hq))]
theorem mov_lt {g : List Int} {V : Nat} (hg : Pm g V) (l : List Nat) (hl : ∀ p ∈ l,p < V) : movL g l < 2 ^ V:=by
 refine Nat.lt_pow_two_of_testBit _ fun i hi=>?_
 cases hb : (movL g l).testBit i with
 |false=>rfl
 |true =>
  rcases (mov_bit g i l 0).1 hb with h|⟨p,hp,e⟩
  ·simp at h
  ·have hp2 : p < g.length:=by rw [hg.1];exact hl p hp
   rw [getD_of (List.getElem?_eq_getElem hp2)] at e
   have:=hg.2.1 _ (List.getElem_mem hp2)
   omega
theorem mov_trace {g : List Int} {V b : Nat} (hV : V ≤ 64) (hg : Pm g V) (hb : b < 2 ^ V) : movL g (bitsL (traceB g b)) = b:=by
 have h1 : traceB g b < 2 ^ V:=by have:=trace_lt g b;rwa [hg.1] at this
 exact trace_inj hg hV (mov_lt hg _ fun p hp=>bits_lt h1 ((bitsL_mem _ _).1 hp).2) hb (trace_mov hV hg h1)
theorem mapB_one {x : Inc} (hx : x.Fam) : x.B.map (traceB (oneI x.V)) = x.B:=by
 conv=>rhs;rw [← List.map_id x.B]
 exact List.map_congr_left fun b hb=>by rw [trace_one,Nat.mod_eq_of_lt (hx.lt b hb)];rfl
theorem isG_iff {x : Inc} (hx : x.Fam) (g : List Int) : isG x g = true ↔ Aut x g:=by
 have hv:=hx.v7
 have hv1:=hx.ok.v1
 have h1:=mapB_one hx
 unfold isG Aut imageI OkM
 rw [decide_eq_true_eq]
 constructor
 ·rintro ⟨hl,⟨h3,h4,h5⟩,h6⟩
  have hd : Dif g x.V:=by rw [← hl];exact h5
  have hg : Pm g x.V:=⟨hl,hd⟩
  rw [if_pos hg] at h6
  refine ⟨hg,?_⟩
  rw [hl,h1]
  have h7 : (movB g x.B).Perm x.B:=by have:=sortL_perm (movB g x.B);rw [show sortL (movB g x.B) = x.B from h6] at this;exact this.symm
  have h8:=h7.map (traceB g)
  refine List.Perm.trans ?_ h8
  unfold movB
  rw [List.map_map]
  refine List.Perm.of_eq ?_
  conv=>lhs;rw [← List.map_id x.B]
  exact List.map_congr_left fun b hb=>(trace_mov (by omega) hg (hx.lt b hb)).symm
 ·rintro ⟨hg,h⟩
  have hl:=hg.1
  rw [hl,h1] at h
  refine ⟨hl,⟨by omega,by omega,by rw [hl];exact hg.2⟩,?_⟩
  rw [if_pos hg]
  show sortL (movB g x.B) = x.B
  refine (sort_uniq ?_ hx.s).symm
  have h8:=h.map (fun b=>movL g (bitsL b))
  refine List.Perm.trans ?_ h8.symm
  rw [List.map_map]
  refine List.Perm.of_eq ?_
  conv=>lhs;rw [← List.map_id x.B]
  exact List.map_congr_left fun b hb=>(mov_trace (by omega) hg (hx.lt b hb)).symm
open Go
theorem mapN_iff {x : Inc} (hx : x.V ≤ 7) {i j : Nat} (hij : i ≤ j) (hj : j < x.V) : (mapN x x (preI i j)).isSome = true ↔ ∃ g,Aut x g ∧ g.take (i + 1) = preI i j:=by
 have hd:=pre_dif i j x.V hij hj
 have hl:=pre_len i j
 unfold mapN
 constructor
 ·intro h
  obtain ⟨g,hg⟩:=Option.isSome_iff_exists.1 h
  obtain ⟨h1,h2⟩:=look_aut x hx _ _ g (by omega) hd hg
  exact ⟨g,h1,by rw [← hl];exact h2⟩
 ·rintro ⟨g,hg,h⟩
  have:=look_ne x hx g hg (x.V - (preI i j).length) (preI i j) (by omega) (by rw [hl];exact h)
  cases he : lookA x x (x.V - (preI i j).length) (preI i j) with
  |none=>exact absurd he this
  |some g=>rfl
theorem pre_one (k : Nat) (h : 1 ≤ k) : preI (k - 1) (k - 1) = oneI k:=by
 unfold preI
 rw [one_snoc,Nat.sub_add_cancel h]
theorem map_reach {x : Inc} (hx : x.Fam) {i j : Nat} (hij : i ≤ j) (hj : j < x.V) {m : List Int} (h : mapN x x (preI i j) = some m) : reachB x i (j : Int) m = true:=by
 have hd:=pre_dif i j x.V hij hj
 have hl:=pre_len i j
 have hv1:=hx.ok.v1
 unfold mapN at h
 obtain ⟨h1,h2⟩:=look_aut x hx.v7 _ _ m (by omega) hd h
 rw [hl] at h2
 have hm : i < m.length:=by rw [h1.1.1];omega
 have h3:=congrArg (List.take i) h2
 rw [List.take_take,Nat.min_eq_left (by omega)] at h3
 have h4 : (preI i j).take i = oneI i:=by
  unfold preI;rw [List.take_append_of_le_length (by rw [one_len];omega),List.take_of_length_le (by rw [one_len];omega)]
 have h5 : m[i]? = some (j : Int):=by
  have e:=congrArg (fun l=>l[i]?) h2
  simp only [List.getElem?_take,Nat.lt_succ_self,if_pos] at e
  rw [e]
  unfold preI
  rw [List.getElem?_append_right (by rw [one_len];omega),one_len];simp
 unfold reachB
 simp only [Bool.and_eq_true,decide_eq_true_eq]
 refine ⟨⟨⟨(isG_iff hx m).2 h1,?_⟩,getD_of h5⟩,?_⟩
 ·rw [h3,h4,pre_one x.V hv1,oneT x.V i (by omega)]
 ·rw [Bool.or_eq_true,decide_eq_true_eq,decide_eq_true_eq]
  by_cases hji : j = i
  ·right
   subst hji
   have e : preI j j = oneI (j + 1):=by unfold preI;exact one_snoc j
   rw [e,one_len,look_one x hx.v7 _ (j + 1) (by omega)] at h
   cases h
   rw [pre_one x.V hv1]
  ·left;intro e;exact hji (by omega)
theorem prv_chk {x : Inc} (hx : x.V ≤ 7) {i j : Nat} (hij : i ≤ j) (hj : j < x.V) (h : mapN x x (preI i j) = none) : chkM x x (preI i j) (prvT x x (preI i j)) = true:=by
 have hd:=pre_dif i j x.V hij hj
 have hl:=pre_len i j
 unfold prvT chkM
 unfold mapN at h
 cases hr : refM x x (x.V - (preI i j).length) (preI i j) with
 |none=>exact absurd h (ref_none x _ _ hr)
 |some t=>exact ref_acc x hx _ _ t (by omega) hd hr
def cntL (x : Inc) (i j f : Nat) : Nat:=(List.range' j f).countP fun q=>(mapN x x (preI i q)).isSome
theorem lvK_succ (x : Inc) (i k : Nat) : lvK x i (k + 1) = match mapN x x (preI i (i + k)) with
  |some m=>((lvK x i k).1 ++ [(i + k,m)],(lvK x i k).2)
  |none=>((lvK x i k).1,(lvK x i k).2 ++ [(i + k,prvT x x (preI i (i + k)))]):=rfl
theorem lvK_cnt (x : Inc) (i : Nat) : ∀ k,(lvK x i k).1.length = cntL x i i k
 |0=>rfl
 |k + 1=>by
  have ih:=lvK_cnt x i k
  unfold cntL at ih ⊢
  rw [List.range'_concat,List.countP_append,← ih,lvK_succ]
  cases h : mapN x x (preI i (i + k)) <;> simp [h]
theorem ordK_succ (x : Inc) (k : Nat) : ordK x (k + 1) = ordK x k * cntL x k k (x.V - k):=by rw [ordK,lvK_cnt]
def lvC (x : Inc) (i : Nat) : Nat → Nat → List (Nat × List Int) × List (Nat × Tree)
 |0,_=>([],[])
 |f + 1,j=>match mapN x x (preI i j) with
  |some m=>((j,m) :: (lvC x i f (j + 1)).1,(lvC x i f (j + 1)).2)
  |none=>((lvC x i f (j + 1)).1,(j,prvT x x (preI i j)) :: (lvC x i f (j + 1)).2)
theorem lvC_snoc (x : Inc) (i : Nat) : ∀ f j,lvC x i (f + 1) j = match mapN x x (preI i (j + f)) with
  |some m=>((lvC x i f j).1 ++ [(j + f,m)],(lvC x i f j).2)
  |none=>((lvC x i f j).1,(lvC x i f j).2 ++ [(j + f,prvT x x (preI i (j + f)))])
 |0,j=>by simp only [lvC,Nat.add_zero];cases mapN x x (preI i j) <;> rfl
 |f + 1,j=>by
  rw [lvC,lvC_snoc x i f (j + 1),show j + 1 + f = j + (f + 1) by omega]
  conv=>rhs;rw [lvC]
  cases mapN x x (preI i j) <;> cases mapN x x (preI i (j + (f + 1))) <;> rfl
theorem lvK_C (x : Inc) (i : Nat) : ∀ k,lvK x i k = lvC x i k i
 |0=>rfl
 |k + 1=>by
  rw [lvC_snoc,← lvK_C x i k];rfl
def toI (l : List (Nat × List Int) × List (Nat × Tree)) : Lvl:=(l.1.map fun y=>((y.1 : Int),y.2),l.2.map fun y=>((y.1 : Int),y.2))
theorem toI_D (l : List (Nat × List Int) × List (Nat × Tree)) : lvlD l = lvlI (toI l):=by
 unfold lvlD lvlI toI rchL unsL
 rw [List.map_map,List.map_map];rfl
theorem lvC_ge (x : Inc) (i : Nat) : ∀ f j,∀ y ∈ (lvC x i f j).1,j ≤ y.1
 |0,j,y,h=>by cases h
 |f + 1,j,y,h=>by
  unfold lvC at h
  cases hm : mapN x x (preI i j) with
  |some m =>
   rw [hm] at h
   rcases List.mem_cons.1 h with rfl|h
   ·exact Nat.le_refl _
   ·have:=lvC_ge x i f (j + 1) y h;omega
  |none =>
   rw [hm] at h
   have:=lvC_ge x i f (j + 1) y h;omega
theorem lvRun_C {x : Inc} (hx : x.Fam) {i : Nat} : ∀ f j,i ≤ j → j + f = x.V → lvRun x i f j (toI (lvC x i f j)).1 (toI (lvC x i f j)).2 = true
 |0,j,_,_=>by simp [lvRun,toI,lvC]
 |f + 1,j,hij,hjf=>by
  have ih:=lvRun_C hx (i:=i) f (j + 1) (by omega) (by omega)
  unfold lvRun lvC
  cases hm : mapN x x (preI i j) with
  |some m =>
   have h1:=map_reach hx hij (by omega) hm
   have h2 : yesB x i j (toI ((j,m) :: (lvC x i f (j + 1)).1,(lvC x i f (j + 1)).2)).1 = true:=by simp [toI,yesB,h1]
   simp only [h2,if_pos]
   exact ih
  |none =>
   have h0 : ¬ yesB x i j (toI ((lvC x i f (j + 1)).1,(j,prvT x x (preI i j)) :: (lvC x i f (j + 1)).2)).1 = true:=by
    have hge:=lvC_ge x i f (j + 1)
    unfold toI
    cases hl : (lvC x i f (j + 1)).1 with
    |nil=>simp [yesB]
    |cons y l =>
     rw [hl] at hge
     have:=hge y List.mem_cons_self
     simp only [List.map_cons,yesB,Bool.and_eq_true,decide_eq_true_eq]
     intro ⟨e,_⟩;omega
   have h1:=prv_chk hx.v7 hij (by omega) hm
   have h2 : noB x i j (toI ((lvC x i f (j + 1)).1,(j,prvT x x (preI i j)) :: (lvC x i f (j + 1)).2)).2 = true:=by simp [toI,noB,h1]
   simp only [if_neg h0,h2,if_pos]
   exact ih
theorem chkAll_prf {x : Inc} (hx : x.Fam) : ∀ f i,i + f = x.V → chkAll x i (ordK x i) ((List.range' i f).map fun i=>toI (lvK x i (x.V - i))) = ordK x x.V
 |0,i,h=>by simp at h;subst h;rfl
 |f + 1,i,h=>by
  rw [List.range'_succ,List.map_cons,chkAll]
  have h1:=lvRun_C hx (i:=i) (x.V - i) i (Nat.le_refl _) (by omega)
  rw [← lvK_C] at h1
  rw [if_pos h1]
  have e : ordK x i * (toI (lvK x i (x.V - i))).1.length = ordK x (i + 1):=by rw [ordK];simp [toI]
  rw [e]
  exact chkAll_prf hx f (i + 1) (by omega)
theorem chkN_prf {x : Inc} (hx : x.Fam) : chkN x ((List.range x.V).map fun i=>toI (lvK x i (x.V - i))) = ordK x x.V:=by
 unfold chkN
 rw [if_pos (by simp),List.range_eq_range']
 exact chkAll_prf hx x.V 0 (by omega)
theorem prf_D (x : Inc) : prfD x = prfI ((List.range x.V).map fun i=>toI (lvK x i (x.V - i))):=by
 unfold prfD prfI lvlsL proofL
 rw [List.map_map]
 congr 3
 exact List.map_congr_left fun i _=>toI_D _
open Go
theorem Inc.Fam.bits {x : Inc} (h : x.Fam) : ∀ s ∈ x.B,∀ p ∈ bitsL s,p < x.V:=fun s hs p hp=>bits_lt (h.lt s hs) ((bitsL_mem _ _).1 hp).2
open Go
open Go
open Go
def repI (l : List (Nat × List Int)) : List (List Int):=l.map fun y=>y.2
open Go
abbrev How:=List (Option (List Int))
def howL (h : How) : List D:=h.map optD
@[simp] theorem howL_len (h : How) : (howL h).length = h.length:=by simp [howL]
def orbS (x : Nat) (g : List Int) (s : How × List Int) : How × List Int :=
 match s.1[(g.getD x 0).toNat]? with
 |some none=>(s.1.set (g.getD x 0).toNat (some (mulI ((s.1.getD x none).getD []) g)),s.2 ++ [g.getD x 0])
 |_=>s
def orbT (gens : List (List Int)) (x : Nat) (s : How × List Int) : Nat → How × List Int
 |0=>s
 |k + 1=>orbS x (gens.getD k []) (orbT gens x s k)
def orbF (gens : List (List Int)) : Nat → How × List Int → How
 |0,s=>s.1
 |f + 1,s=>match s.2 with
  |[]=>s.1
  |x :: q=>orbF gens f (orbT gens x.toNat (s.1,q) gens.length)
def orb0 (n p : Nat) : How:=(List.replicate n none).set p (some (oneI n))
def orbM (n p : Nat) (gens : List (List Int)) : How:=orbF gens (2 * n) (orb0 n p,[(p : Int)])
structure OrbOk (n : Nat) (s : How × List Int) : Prop where
 len : s.1.length = n
 pm : ∀ l,some l ∈ s.1 → Pm l n
 q : ∀ y ∈ s.2,0 ≤ y ∧ y < n ∧ ∃ l,s.1[y.toNat]? = some (some l)
theorem mul_pm {n : Nat} {a b : List Int} (ha : Pm a n) (hb : Pm b n) : Pm (mulI a b) n:=by
 have hal : a.length = n:=ha.1
 have e : mulI a b = (List.range a.length).map (mulF a b):=mulK_map a b a.length
 have hF : ∀ i,i < n → ∃ (h1 : i < a.length) (h2 : (a[i]).toNat < b.length),mulF a b i = b[(a[i]).toNat]:=fun i hi=>by
  have h1 : i < a.length:=by omega
  have hr:=ha.2.1 _ (List.getElem_mem h1)
  have h2 : (a[i]).toNat < b.length:=by rw [hb.1];omega
  exact ⟨h1,h2,by unfold mulF;rw [getD_of (List.getElem?_eq_getElem h1),getD_of (List.getElem?_eq_getElem h2)]⟩
 refine ⟨by rw [e];simp [hal],fun x hx=>?_,?_⟩
 ·rw [e] at hx
  obtain ⟨i,hi,rfl⟩:=List.mem_map.1 hx
  obtain ⟨h1,h2,h3⟩:=hF i (by have:=List.mem_range.1 hi;omega)
  rw [h3]
  exact hb.2.1 _ (List.getElem_mem h2)
 ·rw [e,hal]
  refine (nd_map fun i hi j hj hij=>?_).2 List.nodup_range
  obtain ⟨h1,h2,h3⟩:=hF i (List.mem_range.1 hi)
  obtain ⟨g1,g2,g3⟩:=hF j (List.mem_range.1 hj)
  rw [h3,g3] at hij
  have h4:=(List.getElem_inj hb.2.2).1 hij
  have r1:=ha.2.1 _ (List.getElem_mem h1)
  have r2:=ha.2.1 _ (List.getElem_mem g1)
  exact (List.getElem_inj ha.2.2).1 (by omega)
theorem one_pm (n : Nat) : Pm (oneI n) n:=⟨one_len n,one_dif n n (Nat.le_refl _)⟩
open Go
def lK (h : How) : Nat → List Int
 |0=>[]
 |i + 1=>if (h.getD i none).isSome = true then lK h i ++ [(i : Int)] else lK h i
def boolsL (l : List Bool) : List D:=l.map D.bool
@[simp] theorem boolsL_len (l : List Bool) : (boolsL l).length = l.length:=by simp [boolsL]
def gensK (x : Inc) : Nat → List (List Int)
 |0=>[]
 |k + 1=>gensK x k ++ repI (lvK x k (x.V - k)).1
open Go
open Go
open Go
open Go
def prfX (x : Inc) : List Lvl:=(List.range x.V).map fun i=>toI (lvK x i (x.V - i))
theorem prfX_b {x : Inc} (hx : x.V ≤ 7) : ∀ l ∈ prfX x,l.1.length ≤ 7 ∧ l.2.length ≤ 7:=by
 intro l hl
 obtain ⟨i,_,rfl⟩:=List.mem_map.1 hl
 have:=lvK_len x i (x.V - i)
 simp only [toI,List.length_map]
 omega
open Go
theorem tyU8 {n : Nat} {d : D} (h : TyD (cx 0 0) (n + 1) 5 d) : ∃ x : Nat,d = .int .u8 (x : Int) ∧ x < 256:=by
 obtain ⟨x,rfl,hx⟩:=h
 have hx : (decide (IntKind.u8.min ≤ x) && decide (x ≤ IntKind.u8.max)) = true:=hx
 simp only [Bool.and_eq_true,decide_eq_true_eq] at hx
 have h1 : IntKind.u8.min = 0:=by decide
 have h2 : IntKind.u8.max = 255:=by decide
 exact ⟨x.toNat,by rw [Int.toNat_of_nonneg (by omega)],by omega⟩
open Go
def pk : Nat → List Int → Nat → List Int
 |0,_,_=>[]
 |m + 1,rest,k=>rest.getD (k / factL m % (m + 1)) 0 :: pk m (rest.take (k / factL m % (m + 1)) ++ rest.drop (k / factL m % (m + 1) + 1)) k
theorem perS_pk (n k : Nat) : ∀ m t,t + m = n → (perS n k n).2 = (perS n k t).2 ++ pk m (perS n k t).1 k
 |0,t,h=>by simp at h;subst h;simp [pk]
 |m + 1,t,h=>by
  rw [perS_pk n k m (t + 1) (by omega)]
  have hp : perA n k t = k / factL m % (m + 1):=by unfold perA;rw [show n - t - 1 = m by omega,show n - t = m + 1 by omega]
  simp only [perS,pk,hp,List.append_assoc,List.cons_append,List.nil_append]
def permL (n k : Nat) : List Int:=(perS n k n).2
theorem permL_pk (n k : Nat) : permL n k = pk n (oneI n) k:=by unfold permL;rw [perS_pk n k n 0 (by omega)];rfl
theorem fact_div {m k i : Nat} : (i * factL (m + 1) + k) / factL m % (m + 1) = k / factL m % (m + 1):=by
 have h0:=fact_pos m
 rw [show i * factL (m + 1) + k = k + factL m * (i * (m + 1)) by rw [factL];rw [show i * ((m + 1) * factL m) = factL m * (i * (m + 1)) by rw [← Nat.mul_assoc,Nat.mul_comm]];omega]
 rw [Nat.add_mul_div_left _ _ h0,show k / factL m + i * (m + 1) = k / factL m + (m + 1) * i by rw [Nat.mul_comm i],Nat.add_mul_mod_self_left]
theorem fact_dvd (j : Nat) : ∀ m,j ≤ m → ∃ c,factL m = c * factL j
 |0,h=>⟨1,by rw [Nat.le_zero.1 h];simp⟩
 |m + 1,h=>by
  rcases Nat.lt_or_ge m j with h1|h1
  ·exact ⟨1,by rw [show j = m + 1 by omega];simp⟩
  ·obtain ⟨c,hc⟩:=fact_dvd j m h1
   exact ⟨(m + 1) * c,by rw [factL,hc,Nat.mul_assoc]⟩
theorem pk_mod (M i : Nat) : ∀ (m : Nat) (rest : List Int) (k : Nat),m ≤ M → pk m rest (i * factL M + k) = pk m rest k
 |0,_,_,_=>rfl
 |m + 1,rest,k,h=>by
  obtain ⟨c,hc⟩:=fact_dvd (m + 1) M h
  have e : (i * factL M + k) / factL m % (m + 1) = k / factL m % (m + 1):=by
   rw [hc,← Nat.mul_assoc];exact fact_div
  unfold pk
  rw [e,pk_mod M i m _ k (by omega)]
def allR : Nat → List Int → List (List Int)
 |0,_=>[[]]
 |m + 1,rest=>(List.range (m + 1)).flatMap fun i=>(allR m (rest.take i ++ rest.drop (i + 1))).map (rest.getD i 0 :: ·)
theorem range_mul {β : Type} (f : Nat → β) (b : Nat) : ∀ a,(List.range (a * b)).map f = (List.range a).flatMap fun i=>(List.range b).map fun r=>f (i * b + r)
 |0=>by simp
 |a + 1=>by
  rw [Nat.add_mul,Nat.one_mul,List.range_add,List.map_append,range_mul f b a,List.range_succ,List.flatMap_append]
  simp [List.map_map,Function.comp_def]
theorem flat_congr {α β : Type} {f g : α → List β} : ∀ {l : List α},(∀ a ∈ l,f a = g a) → l.flatMap f = l.flatMap g
 |[],_=>rfl
 |a :: l,h=>by rw [List.flatMap_cons,List.flatMap_cons,h a List.mem_cons_self,flat_congr fun b hb=>h b (List.mem_cons_of_mem _ hb)]
theorem allR_pk : ∀ (m : Nat) (rest : List Int),(List.range (factL m)).map (pk m rest) = allR m rest
 |0,_=>rfl
 |m + 1,rest=>by
  have h0:=fact_pos m
  rw [show factL (m + 1) = (m + 1) * factL m from rfl,range_mul]
  unfold allR
  refine flat_congr fun i hi=>?_
  have hi:=List.mem_range.1 hi
  rw [← allR_pk m,List.map_map]
  refine List.map_congr_left fun r hr=>?_
  have hr:=List.mem_range.1 hr
  have e : (i * factL m + r) / factL m % (m + 1) = i:=by
   rw [Nat.mul_comm,Nat.mul_add_div h0,Nat.div_eq_of_lt hr,Nat.add_zero,Nat.mod_eq_of_lt hi]
  show pk (m + 1) rest (i * factL m + r) = _
  rw [pk,e,pk_mod m i m _ r (Nat.le_refl _)]
  rfl
theorem take_drop_perm {l : List Int} {i : Nat} {a : Int} (h : l[i]? = some a) : l.Perm (a :: (l.take i ++ l.drop (i + 1))):=by
 have hi : i < l.length:=(List.getElem?_eq_some_iff.1 h).1
 have e : l = l.take i ++ a :: l.drop (i + 1):=by
  conv=>lhs;rw [← List.take_append_drop i l]
  rw [List.drop_eq_getElem_cons hi]
  rw [List.getElem?_eq_getElem hi] at h
  rw [Option.some.inj h]
 conv=>lhs;rw [e]
 exact List.perm_middle
theorem allR_mem : ∀ (m : Nat) (rest g : List Int),rest.length = m → (g ∈ allR m rest ↔ g.Perm rest)
 |0,rest,g,h=>by
  have : rest = []:=List.eq_nil_of_length_eq_zero h
  subst this
  simp [allR]
 |m + 1,rest,g,h=>by
  unfold allR
  rw [List.mem_flatMap]
  constructor
  ·rintro ⟨i,hi,hg⟩
   have hi:=List.mem_range.1 hi
   obtain ⟨g',hg',rfl⟩:=List.mem_map.1 hg
   have ha : rest[i]? = some (rest.getD i 0):=by
    have : rest[i]? = some rest[i]:=List.getElem?_eq_getElem (by omega)
    rw [this,getD_of this]
   have hp:=take_drop_perm ha
   have:=(allR_mem m _ g' (by simp;omega)).1 hg'
   exact (this.cons _).trans hp.symm
  ·intro hp
   cases g with
   |nil=>have:=hp.length_eq;simp at this;omega
   |cons a g' =>
    have ha : a ∈ rest:=hp.mem_iff.1 List.mem_cons_self
    obtain ⟨i,hi,e⟩:=List.getElem_of_mem ha
    have ha2 : rest[i]? = some a:=by rw [List.getElem?_eq_getElem hi,e]
    refine ⟨i,List.mem_range.2 (by omega),List.mem_map.2 ⟨g',?_,by rw [getD_of ha2]⟩⟩
    exact (allR_mem m _ g' (by simp;omega)).2 (List.Perm.cons_inv (hp.trans (take_drop_perm ha2)))
theorem allR_nodup : ∀ (m : Nat) (rest : List Int),rest.length = m → rest.Nodup → (allR m rest).Nodup
 |0,_,_,_=>by simp [allR]
 |m + 1,rest,h,hn=>by
  unfold allR List.Nodup
  rw [List.pairwise_flatMap]
  constructor
  ·intro i hi
   have hi:=List.mem_range.1 hi
   have ha : rest[i]? = some (rest.getD i 0):=by
    have : rest[i]? = some rest[i]:=List.getElem?_eq_getElem (by omega)
    rw [this,getD_of this]
   have hn2:=(List.nodup_cons.1 ((take_drop_perm ha).nodup_iff.1 hn)).2
   exact List.Pairwise.map _ (fun a b (hab : a ≠ b)=>by intro e;exact hab (List.cons.inj e).2) (allR_nodup m _ (by simp;omega) hn2)
  ·refine List.Pairwise.imp_of_mem (fun {i j} hi hj hij=>?_) (List.nodup_range (n:=m + 1))
   intro x hx y hy
   obtain ⟨x',_,rfl⟩:=List.mem_map.1 hx
   obtain ⟨y',_,rfl⟩:=List.mem_map.1 hy
   have hi:=List.mem_range.1 hi
   have hj:=List.mem_range.1 hj
   intro e
   have e1:=(List.cons.inj e).1
   rw [getD_of (List.getElem?_eq_getElem (by omega : i < rest.length)),getD_of (List.getElem?_eq_getElem (by omega : j < rest.length))] at e1
   exact hij ((List.getElem_inj hn).1 e1)
theorem pm_perm {g : List Int} {n : Nat} : Pm g n ↔ g.Perm (oneI n):=by
 have h1:=one_pm n
 constructor
 ·intro hg
  refine (List.perm_ext_iff_of_nodup hg.2.2 h1.2.2).2 fun a=>⟨fun ha=>?_,fun ha=>?_⟩
  ·have:=hg.2.1 a ha
   simp only [oneI,natsI,List.mem_map,List.mem_range]
   exact ⟨a.toNat,by omega,by omega⟩
  ·have hnd : (g.map Int.toNat).Nodup:=(nd_map (fun a ha b hb e=>by have:=hg.2.1 a ha;have:=hg.2.1 b hb;omega)).2 hg.2.2
   have h2:=(count_lt n (g.map Int.toNat) (fun x hx=>by
    obtain ⟨y,hy,rfl⟩:=List.mem_map.1 hx
    have:=hg.2.1 y hy;omega) (by rw [List.length_map];exact hg.1)).2 hnd
   have h3:=h1.2.1 a ha
   obtain ⟨y,hy,e⟩:=List.mem_map.1 (h2 a.toNat (by omega))
   have:=hg.2.1 y hy
   have : y = a:=by omega
   rw [← this];exact hy
 ·intro hp
  exact ⟨by rw [hp.length_eq];exact h1.1,fun a ha=>h1.2.1 a (hp.mem_iff.1 ha),hp.nodup_iff.2 h1.2.2⟩
def permsA (n : Nat) : List (List Int):=allR n (oneI n)
theorem permsA_mem (n : Nat) (g : List Int) : g ∈ permsA n ↔ Pm g n:=by
 unfold permsA;rw [allR_mem n _ g (one_len n),pm_perm]
theorem permsA_nodup (n : Nat) : (permsA n).Nodup:=allR_nodup n _ (one_len n) (one_pm n).2.2
theorem permL_all (n : Nat) : (List.range (factL n)).map (permL n) = permsA n:=by
 unfold permsA
 rw [← allR_pk]
 exact List.map_congr_left fun k _=>permL_pk n k
theorem permL_pm {n k : Nat} (h : k < factL n) : Pm (permL n k) n:=by
 rw [← permsA_mem,← permL_all]
 exact List.mem_map.2 ⟨k,List.mem_range.2 h,rfl⟩
open Go
theorem mul_len (a b : List Int) : (mulI a b).length = a.length:=mulK_len a b _
theorem mul_get {a b : List Int} {k : Nat} (hk : k < a.length) : (mulI a b).getD k 0 = b.getD (a.getD k 0).toNat 0:=by
 have e : mulI a b = (List.range a.length).map (mulF a b):=mulK_map a b a.length
 rw [e,List.getD,List.getElem?_map,List.getElem?_range hk];rfl
theorem pm_get {g : List Int} {n k : Nat} (hg : Pm g n) (hk : k < n) : 0 ≤ g.getD k 0 ∧ g.getD k 0 < n:=by
 have h : k < g.length:=by rw [hg.1];exact hk
 rw [getD_of (List.getElem?_eq_getElem h)]
 exact hg.2.1 _ (List.getElem_mem h)
theorem ext_get {a b : List Int} {n : Nat} (ha : a.length = n) (hb : b.length = n) (h : ∀ k,k < n → a.getD k 0 = b.getD k 0) : a = b:=by
 apply List.ext_getElem?
 intro k
 rcases Nat.lt_or_ge k n with hk|hk
 ·have:=h k hk
  have h1 : a[k]? = some a[k]:=List.getElem?_eq_getElem (by omega)
  have h2 : b[k]? = some b[k]:=List.getElem?_eq_getElem (by omega)
  rw [getD_of h1,getD_of h2] at this
  rw [h1,h2,this]
 ·rw [List.getElem?_eq_none (by omega),List.getElem?_eq_none (by omega)]
theorem pm_eq {g : List Int} {n p q : Nat} (hg : Pm g n) (hp : p < n) (hq : q < n) (h : g.getD p 0 = g.getD q 0) : p = q:=pm_inj hg hp hq (by rw [h])
theorem mul_cancel {a b c : List Int} {n : Nat} (ha : Pm a n) (hb : Pm b n) (hc : Pm c n) (h : mulI a c = mulI b c) : a = b:=by
 refine ext_get ha.1 hb.1 fun k hk=>?_
 have e : (mulI a c).getD k 0 = (mulI b c).getD k 0:=by rw [h]
 rw [mul_get (by rw [ha.1];exact hk),mul_get (by rw [hb.1];exact hk)] at e
 have h1:=pm_get ha hk
 have h2:=pm_get hb hk
 have:=pm_eq hc (by omega) (by omega) e
 omega
theorem mul_cancelL {a b c : List Int} {n : Nat} (ha : Pm a n) (hb : Pm b n) (hc : Pm c n) (h : mulI c a = mulI c b) : a = b:=by
 have hs : ∀ q,q < n → ∃ p,p < n ∧ c.getD p 0 = (q : Int):=by
  intro q hq
  have hm : (q : Int) ∈ c:=(pm_perm.1 hc).mem_iff.2 (by simp only [oneI,natsI,List.mem_map,List.mem_range];exact ⟨q,hq,rfl⟩)
  obtain ⟨p,hp,e⟩:=List.getElem_of_mem hm
  exact ⟨p,by rw [← hc.1];exact hp,by rw [getD_of (List.getElem?_eq_getElem hp)];exact e⟩
 refine ext_get ha.1 hb.1 fun k hk=>?_
 obtain ⟨p,hp,e⟩:=hs k hk
 have e2 : (mulI c a).getD p 0 = (mulI c b).getD p 0:=by rw [h]
 rw [mul_get (by rw [hc.1];exact hp),mul_get (by rw [hc.1];exact hp),e] at e2
 simpa using e2
theorem trace_mul {a b : List Int} {V : Nat} (ha : Pm a V) (hb : Pm b V) (s : Nat) : traceB (mulI a b) s = traceB a (traceB b s):=by
 apply Nat.eq_of_testBit_eq
 intro q
 rw [traceB_bit,traceB_bit,traceB_bit,mul_len,ha.1,hb.1]
 by_cases h : q < V
 ·have h1:=pm_get ha h
  rw [mul_get (by rw [ha.1];exact h)]
  have h2 : (a.getD q 0).toNat < V:=by omega
  rw [decide_eq_true h,decide_eq_true h2];rfl
 ·simp [h]
theorem aut_iff {x : Inc} (hx : x.Fam) {g : List Int} : Aut x g ↔ Pm g x.V ∧ x.B.Perm (x.B.map (traceB g)):=by
 have h1:=mapB_one hx
 unfold Aut OkM
 constructor
 ·rintro ⟨hg,h⟩
  refine ⟨hg,?_⟩
  rw [hg.1,h1] at h
  exact h
 ·rintro ⟨hg,h⟩
  refine ⟨hg,?_⟩
  rw [hg.1,h1]
  exact h
theorem aut_mul {x : Inc} (hx : x.Fam) {a b : List Int} (ha : Aut x a) (hb : Aut x b) : Aut x (mulI a b):=by
 rw [aut_iff hx] at ha hb ⊢
 refine ⟨mul_pm ha.1 hb.1,?_⟩
 have h1:=hb.2.map (traceB a)
 rw [List.map_map] at h1
 refine (ha.2.trans h1).trans (List.Perm.of_eq ?_)
 exact List.map_congr_left fun s _=>(trace_mul ha.1 hb.1 s).symm
theorem aut_one {x : Inc} (hx : x.Fam) : Aut x (oneI x.V):=⟨one_pm x.V,okM_one x x.V⟩
theorem inv_ex {m : List Int} {n : Nat} (hm : Pm m n) : ∃ h,Pm h n ∧ mulI m h = oneI n:=by
 have h1 : ((permsA n).map (mulI m ·)).Nodup:=(nd_map (fun a ha b hb e=>mul_cancelL ((permsA_mem n a).1 ha) ((permsA_mem n b).1 hb) hm e)).2 (permsA_nodup n)
 have h2 : ∀ a ∈ (permsA n).map (mulI m ·),a ∈ permsA n:=by
  intro a ha
  obtain ⟨b,hb,rfl⟩:=List.mem_map.1 ha
  exact (permsA_mem n _).2 (mul_pm hm ((permsA_mem n b).1 hb))
 have h4 : oneI n ∈ (permsA n).map (mulI m ·):=by
  refine Classical.byContradiction fun hn=>?_
  have:=nd_le (oneI n :: (permsA n).map (mulI m ·)) (permsA n) (List.nodup_cons.2 ⟨hn,h1⟩) (by
   intro a ha
   rcases List.mem_cons.1 ha with rfl|ha
   ·exact (permsA_mem n _).2 (one_pm n)
   ·exact h2 a ha)
  simp at this
  omega
 obtain ⟨b,hb,e⟩:=List.mem_map.1 h4
 exact ⟨b,(permsA_mem n b).1 hb,e⟩
theorem aut_inv {x : Inc} (hx : x.Fam) {m h : List Int} (hm : Aut x m) (hh : Pm h x.V) (e : mulI m h = oneI x.V) : Aut x h:=by
 rw [aut_iff hx] at hm ⊢
 refine ⟨hh,?_⟩
 have hv:=hx.v7
 have h1 : (x.B.map (traceB h)).map (traceB m) = x.B:=by
  rw [List.map_map]
  conv=>rhs;rw [← mapB_one hx]
  exact List.map_congr_left fun s _=>by show traceB m (traceB h s) = _;rw [← trace_mul hm.1 hh,e]
 have h2 : ((x.B.map (traceB h)).map (traceB m)).Perm (x.B.map (traceB m)):=by rw [h1];exact hm.2
 have h3:=h2.map (fun b=>movL m (bitsL b))
 have e1 : ((x.B.map (traceB h)).map (traceB m)).map (fun b=>movL m (bitsL b)) = x.B.map (traceB h):=by
  rw [List.map_map]
  conv=>rhs;rw [← List.map_id (x.B.map (traceB h))]
  refine List.map_congr_left fun b hb=>?_
  obtain ⟨s,_,rfl⟩:=List.mem_map.1 hb
  exact mov_trace (by omega) hm.1 (by have:=trace_lt h s;rwa [hh.1] at this)
 have e2 : (x.B.map (traceB m)).map (fun b=>movL m (bitsL b)) = x.B:=by
  rw [List.map_map]
  conv=>rhs;rw [← List.map_id x.B]
  exact List.map_congr_left fun b hb=>mov_trace (by omega) hm.1 (hx.lt b hb)
 rw [e1,e2] at h3
 exact h3.symm
def autos (x : Inc) : List (List Int):=(permsA x.V).filter (isG x)
def preB (i j : Nat) (g : List Int) : Bool:=decide (g.take (i + 1) = preI i j)
def stB (i : Nat) (g : List Int) : Bool:=decide (g.take i = oneI i)
theorem autos_mem {x : Inc} (hx : x.Fam) (g : List Int) : g ∈ autos x ↔ Aut x g:=by
 unfold autos
 rw [List.mem_filter,permsA_mem,isG_iff hx]
 exact ⟨fun h=>h.2,fun h=>⟨h.1,h⟩⟩
theorem autos_nodup (x : Inc) : (autos x).Nodup:=(permsA_nodup x.V).filter _
theorem take_one_iff {g : List Int} {i : Nat} (hl : i ≤ g.length) : g.take i = oneI i ↔ ∀ k,k < i → g.getD k 0 = (k : Int):=by
 constructor
 ·intro h k hk
  have e : (g.take i).getD k 0 = g.getD k 0:=by simp [List.getD,List.getElem?_take,hk]
  rw [← e,h,one_getD i k hk]
 ·intro h
  refine ext_get (n:=i) (by simp;omega) (one_len i) fun k hk=>?_
  have e : (g.take i).getD k 0 = g.getD k 0:=by simp [List.getD,List.getElem?_take,hk]
  rw [e,h k hk,one_getD i k hk]
theorem take_pre_iff {g : List Int} {i j : Nat} (hl : i < g.length) : g.take (i + 1) = preI i j ↔ g.take i = oneI i ∧ g.getD i 0 = (j : Int):=by
 have h1 : g[i]? = some g[i]:=List.getElem?_eq_getElem hl
 rw [List.take_add_one,h1,getD_of h1]
 unfold preI
 constructor
 ·intro h
  have:=List.append_inj' h (by simp)
  exact ⟨this.1,by simpa using this.2⟩
 ·rintro ⟨h2,h3⟩
  rw [h2,h3];rfl
theorem split_len {α : Type} (f : α → Nat) : ∀ (J : List Nat) (L : List α),J.Nodup → (∀ a ∈ L,f a ∈ J) → L.length = (J.map fun j=>(L.filter fun a=>decide (f a = j)).length).sum
 |[],L,_,h=>by
  cases L with
  |nil=>rfl
  |cons a L=>have:=h a List.mem_cons_self;cases this
 |j :: J,L,hJ,h=>by
  obtain ⟨hj,hJ2⟩:=List.nodup_cons.1 hJ
  have ih:=split_len f J (L.filter fun a=>!decide (f a = j)) hJ2 (by
   intro a ha
   obtain ⟨h1,h2⟩:=List.mem_filter.1 ha
   rcases List.mem_cons.1 (h a h1) with h3|h3
   ·simp [h3] at h2
   ·exact h3)
  have e : (J.map fun j'=>((L.filter fun a=>!decide (f a = j)).filter fun a=>decide (f a = j')).length) = J.map fun j'=>(L.filter fun a=>decide (f a = j')).length:=by
   refine List.map_congr_left fun j' hj'=>?_
   rw [List.filter_filter]
   congr 1
   refine List.filter_congr fun a _=>?_
   by_cases h4 : f a = j'
   ·have : ¬ j' = j:=fun e=>hj (e ▸ hj')
    simp [h4,this]
   ·simp [h4]
  rw [e] at ih
  rw [List.map_cons,List.sum_cons,← ih]
  have:=List.length_eq_countP_add_countP (fun a=>decide (f a = j)) (l:=L)
  rw [List.countP_eq_length_filter,List.countP_eq_length_filter] at this
  rw [this]
  congr 2
  refine List.filter_congr fun a _=>?_
  simp
theorem sum_if (p : Nat → Bool) (c : Nat) : ∀ J : List Nat,(J.map fun j=>if p j = true then c else 0).sum = J.countP p * c
 |[]=>by simp
 |j :: J=>by
  rw [List.map_cons,List.sum_cons,sum_if p c J,List.countP_cons]
  by_cases h : p j = true
  ·simp [h,Nat.add_mul];omega
  ·simp [h]
theorem fib_len {x : Inc} (hx : x.Fam) {i j : Nat} (hij : i ≤ j) (hj : j < x.V) : ((autos x).filter (preB i j)).length = if (mapN x x (preI i j)).isSome = true then ((autos x).filter (preB i i)).length else 0:=by
 by_cases hr : (mapN x x (preI i j)).isSome = true
 ·rw [if_pos hr]
  obtain ⟨m,hm,hmt⟩:=(mapN_iff hx.v7 hij hj).1 hr
  obtain ⟨h,hh,he⟩:=inv_ex hm.1
  have hha:=aut_inv hx hm hh he
  have hl : ∀ g,Aut x g → i < g.length:=fun g hg=>by rw [hg.1.1];omega
  obtain ⟨hm1,hm2⟩:=(take_pre_iff (hl m hm)).1 hmt
  have hm3:=(take_one_iff (by have:=hl m hm;omega)).1 hm1
  have hh3 : ∀ k,k < i → h.getD k 0 = (k : Int):=fun k hk=>by
   have e : (mulI m h).getD k 0 = (k : Int):=by rw [he,one_getD _ _ (by omega)]
   rw [mul_get (by have:=hl m hm;omega),hm3 k hk] at e
   simpa using e
  have hh4 : h.getD j 0 = (i : Int):=by
   have e : (mulI m h).getD i 0 = (i : Int):=by rw [he,one_getD _ _ (by omega)]
   rw [mul_get (hl m hm),hm2] at e
   simpa using e
  have mem : ∀ (j' : Nat) (g : List Int),g ∈ (autos x).filter (preB i j') ↔ Aut x g ∧ (∀ k,k < i → g.getD k 0 = (k : Int)) ∧ g.getD i 0 = (j' : Int):=by
   intro j' g
   rw [List.mem_filter,autos_mem hx]
   constructor
   ·rintro ⟨ha,hb⟩
    obtain ⟨h1,h2⟩:=(take_pre_iff (hl g ha)).1 (of_decide_eq_true hb)
    exact ⟨ha,(take_one_iff (by have:=hl g ha;omega)).1 h1,h2⟩
   ·rintro ⟨ha,h1,h2⟩
    exact ⟨ha,decide_eq_true ((take_pre_iff (hl g ha)).2 ⟨(take_one_iff (by have:=hl g ha;omega)).2 h1,h2⟩)⟩
  have nd : ∀ j',((autos x).filter (preB i j')).Nodup:=fun j'=>(autos_nodup x).filter _
  have leq : ∀ (a b : Nat) (c : List Int),Aut x c → (∀ g,g ∈ (autos x).filter (preB i a) → mulI g c ∈ (autos x).filter (preB i b)) → ((autos x).filter (preB i a)).length ≤ ((autos x).filter (preB i b)).length:=by
   intro a b c hc hmap
   have h1:=nd_le (((autos x).filter (preB i a)).map (mulI · c)) ((autos x).filter (preB i b)) ((nd_map (fun u hu v hv e=>mul_cancel ((mem a u).1 hu).1.1 ((mem a v).1 hv).1.1 hc.1 e)).2 (nd a)) (by
    intro u hu
    obtain ⟨v,hv,rfl⟩:=List.mem_map.1 hu
    exact hmap v hv)
   rwa [List.length_map] at h1
  refine Nat.le_antisymm (leq j i h hha fun g hg=>?_) (leq i j m hm fun g hg=>?_)
  ·obtain ⟨h1,h2,h3⟩:=(mem j g).1 hg
   refine (mem i _).2 ⟨aut_mul hx h1 hha,fun k hk=>?_,?_⟩
   ·rw [mul_get (by have:=hl g h1;omega),h2 k hk]
    simpa using hh3 k hk
   ·rw [mul_get (hl g h1),h3]
    simpa using hh4
  ·obtain ⟨h1,h2,h3⟩:=(mem i g).1 hg
   refine (mem j _).2 ⟨aut_mul hx h1 hm,fun k hk=>?_,?_⟩
   ·rw [mul_get (by have:=hl g h1;omega),h2 k hk]
    simpa using hm3 k hk
   ·rw [mul_get (hl g h1),h3]
    simpa using hm2
 ·rw [if_neg hr]
  rw [List.length_eq_zero_iff,List.filter_eq_nil_iff]
  intro g hg hb
  exact hr ((mapN_iff hx.v7 hij hj).2 ⟨g,(autos_mem hx g).1 hg,of_decide_eq_true hb⟩)
theorem st_len {x : Inc} (hx : x.Fam) {i : Nat} (hi : i < x.V) : ((autos x).filter (stB i)).length = cntL x i i (x.V - i) * ((autos x).filter (stB (i + 1))).length:=by
 have e1 : ((autos x).filter (stB (i + 1))) = (autos x).filter (preB i i):=List.filter_congr fun g _=>by unfold stB preB;rw [show preI i i = oneI (i + 1) from by unfold preI;exact one_snoc i]
 rw [e1]
 have hl : ∀ g,Aut x g → i < g.length:=fun g hg=>by rw [hg.1.1];omega
 have h1:=split_len (fun g : List Int=>(g.getD i 0).toNat) (List.range' i (x.V - i)) ((autos x).filter (stB i)) (show (List.range' i (x.V - i)).Nodup from List.nodup_range') (by
  intro g hg
  obtain ⟨ha,hb⟩:=List.mem_filter.1 hg
  have ha:=(autos_mem hx g).1 ha
  have h2:=(take_one_iff (by have:=hl g ha;omega)).1 (of_decide_eq_true hb)
  have h3:=pm_get ha.1 hi
  rw [List.mem_range'_1]
  refine ⟨?_,by omega⟩
  rcases Nat.lt_or_ge (g.getD i 0).toNat i with h4|h4
  ·have h5:=h2 _ h4
   have:=pm_eq ha.1 (p:=(g.getD i 0).toNat) (q:=i) (by omega) hi (by rw [h5];omega)
   omega
  ·exact h4)
 rw [h1]
 have h2 : ((List.range' i (x.V - i)).map fun j=>(((autos x).filter (stB i)).filter fun a=>decide ((a.getD i 0).toNat = j)).length) = (List.range' i (x.V - i)).map fun j=>if (fun q=>(mapN x x (preI i q)).isSome) j = true then ((autos x).filter (preB i i)).length else 0:=by
  refine List.map_congr_left fun j hj=>?_
  obtain ⟨hj1,hj2⟩:=List.mem_range'_1.1 hj
  rw [← fib_len hx hj1 (by omega),List.filter_filter]
  congr 1
  refine List.filter_congr fun g hg=>?_
  have ha:=(autos_mem hx g).1 hg
  have h3:=pm_get ha.1 hi
  have h4:=take_pre_iff (j:=j) (hl g ha)
  unfold preB stB
  rw [Bool.eq_iff_iff,Bool.and_eq_true,decide_eq_true_eq,decide_eq_true_eq,decide_eq_true_eq,h4]
  constructor
  ·rintro ⟨h5,h6⟩;exact ⟨h6,by omega⟩
  ·rintro ⟨h5,h6⟩;exact ⟨by omega,h5⟩
 rw [h2,sum_if]
 rfl
theorem autos_len {x : Inc} (hx : x.Fam) : (autos x).length = ordK x x.V:=by
 have key : ∀ i,i ≤ x.V → (autos x).length = ordK x i * ((autos x).filter (stB i)).length:=by
  intro i
  induction i with
  |zero =>
   intro _
   rw [show ordK x 0 = 1 from rfl,Nat.one_mul]
   congr 1
   refine (List.filter_eq_self.2 fun g _=>?_).symm
   simp [stB,oneI,natsI]
  |succ i ih =>
   intro h
   rw [ih (by omega),st_len hx (by omega),ordK_succ,Nat.mul_assoc]
 rw [key x.V (Nat.le_refl _)]
 have : ((autos x).filter (stB x.V)).length = 1:=by
  have hn : ((autos x).filter (stB x.V)).Nodup:=(autos_nodup x).filter _
  have h1:=nd_le _ [oneI x.V] hn (by
   intro g hg
   obtain ⟨ha,hb⟩:=List.mem_filter.1 hg
   have ha:=(autos_mem hx g).1 ha
   have:=of_decide_eq_true hb
   rw [List.take_of_length_le (by rw [ha.1.1];omega)] at this
   rw [this];exact List.mem_singleton.2 rfl)
  have h2 : oneI x.V ∈ (autos x).filter (stB x.V):=List.mem_filter.2 ⟨(autos_mem hx _).2 (aut_one hx),decide_eq_true (List.take_of_length_le (by rw [one_len];omega))⟩
  have h3:=List.length_pos_of_mem h2
  simp at h1
  omega
 rw [this,Nat.mul_one]
open Go
theorem moveK_bit (b : Nat) (g : List Int) (q : Nat) : ∀ k,(moveK b g k).testBit q = true ↔ ∃ p,p < k ∧ b.testBit p = true ∧ (g.getD p 0).toNat = q
 |0=>by simp [moveK]
 |k + 1=>by
  have ih:=moveK_bit b g q k
  unfold moveK
  by_cases hb : b.testBit k = true
  ·rw [if_pos hb,Nat.testBit_or,Bool.or_eq_true,ih,Nat.one_shiftLeft,Nat.testBit_two_pow,decide_eq_true_eq]
   constructor
   ·rintro (⟨p,h1,h2⟩|h)
    ·exact ⟨p,by omega,h2⟩
    ·exact ⟨k,by omega,hb,h⟩
   ·rintro ⟨p,h1,h2,h3⟩
    rcases Nat.lt_succ_iff_lt_or_eq.1 h1 with h|rfl
    ·exact .inl ⟨p,h,h2,h3⟩
    ·exact .inr h3
  ·rw [if_neg hb,ih]
   constructor
   ·rintro ⟨p,h1,h2⟩;exact ⟨p,by omega,h2⟩
   ·rintro ⟨p,h1,h2,h3⟩
    rcases Nat.lt_succ_iff_lt_or_eq.1 h1 with h|rfl
    ·exact ⟨p,h,h2,h3⟩
    ·exact absurd h2 hb
theorem moved_eq {b V : Nat} {g : List Int} (hg : Pm g V) (hV : V ≤ 64) (hb : b < 2 ^ V) : movedN b g = movL g (bitsL b):=by
 apply Nat.eq_of_testBit_eq
 intro q
 rw [Bool.eq_iff_iff]
 unfold movedN movL
 rw [moveK_bit,mov_bit]
 simp only [Nat.zero_testBit,Bool.false_eq_true,false_or]
 constructor
 ·rintro ⟨p,h1,h2,h3⟩
  exact ⟨p,(bitsL_mem _ _).2 ⟨by rw [hg.1] at h1;omega,h2⟩,h3⟩
 ·rintro ⟨p,h1,h2⟩
  have h3:=((bitsL_mem _ _).1 h1).2
  exact ⟨p,by rw [hg.1];exact bits_lt hb h3,h3,h2⟩
theorem imgK_srt (B : List Nat) (g : List Int) : ∀ k,Srt (imgK B g k)
 |0=>List.Pairwise.nil
 |k + 1=>withL_srt (imgK_srt B g k) _
theorem imgK_perm (B : List Nat) (g : List Int) : ∀ k,k ≤ B.length → (imgK B g k).Perm ((B.take k).map (movedN · g))
 |0,_=>by simp [imgK]
 |k + 1,h=>by
  have ih:=imgK_perm B g k (by omega)
  have hk : B[k]? = some B[k]:=List.getElem?_eq_getElem (by omega)
  rw [imgK,getD_of hk,List.take_add_one,hk,List.map_append]
  refine (withL_perm _ _).trans ?_
  refine ((ih.cons _).trans ?_)
  exact (List.perm_append_singleton _ _).symm
theorem imgI_eq {x : Inc} (hx : x.Fam) {g : List Int} (hg : Pm g x.V) : imgI x g = ⟨x.V,sortL (movB g x.B)⟩:=by
 have hv:=hx.v7
 unfold imgI
 rw [if_pos hg]
 congr 1
 refine sort_uniq ?_ (imgK_srt _ _ _)
 have h:=imgK_perm x.B g x.B.length (Nat.le_refl _)
 rw [List.take_length] at h
 refine h.trans (List.Perm.of_eq ?_)
 exact List.map_congr_left fun b hb=>moved_eq hg (by omega) (hx.lt b hb)
theorem img_self {x : Inc} (hx : x.Fam) {g : List Int} (hg : Pm g x.V) : imgI x g = x ↔ Aut x g:=by
 have hv:=hx.v7
 have hv1:=hx.ok.v1
 rw [imgI_eq hx hg,← isG_iff hx]
 unfold isG imageI
 rw [decide_eq_true_eq,if_pos hg]
 constructor
 ·intro h
  exact ⟨hg.1,⟨by rw [hg.1];omega,by rw [hg.1];omega,by rw [hg.1];exact hg.2⟩,congrArg Inc.B h⟩
 ·rintro ⟨_,_,h⟩
  have : (⟨x.V,sortL (movB g x.B)⟩ : Inc) = ⟨x.V,x.B⟩:=by rw [show sortL (movB g x.B) = x.B from h]
  exact this
open Go
theorem ord_pos {x : Inc} (hx : x.Fam) : 1 ≤ ordK x x.V:=by
 rw [← autos_len hx]
 exact List.length_pos_of_mem ((autos_mem hx _).2 (aut_one hx))
theorem fact_le : ∀ n,n ≤ 7 → factL n ≤ 5040:=by decide
open Go
theorem vFull (v : Nat) (hv : v ≤ 63) : Val Tryd.prog 64 [iD v] (fun r=>r = sD (2 ^ v - 1)):=by
 refine Val.ofV ?_
 refine hc_ofS (okc Tryd.f64.ntmps 0) (fn:=Tryd.f64) (cd:=_) rfl rfl rfl rfl rfl rfl (fun hbd=>?_)
 repeat' (
  conv=>whnf
  first
  |((with_reducible apply ivShl);(rfl);(rfl);(omega);(exact wA))
  |((with_reducible apply ivSub);(rfl);(rfl);(first|exact one_pos _|omega);(exact wA))
  |((with_reducible apply ob);(exact oT)))
 all_goals (conv=>whnf)
 exact fC rfl (by rw [Nat.shiftLeft_eq,Nat.one_mul];rfl)
open Go
def mvN (g : List Int) (s : Nat) : Nat:=movL g (bitsL s)
theorem mv_lt {g : List Int} {V s : Nat} (hg : Pm g V) (hs : s < 2 ^ V) : mvN g s < 2 ^ V:=mov_lt hg _ fun p hp=>bits_lt hs ((bitsL_mem s p).1 hp).2
theorem mul_assoc {a b c : List Int} {n : Nat} (ha : Pm a n) (hb : Pm b n) (hc : Pm c n) : mulI (mulI a b) c = mulI a (mulI b c):=by
 refine ext_get (n:=n) (by rw [mul_len,mul_len];exact ha.1) (by rw [mul_len];exact ha.1) fun k hk=>?_
 have ea:=ha.1
 have eb:=hb.1
 have h1:=pm_get ha hk
 rw [mul_get (by rw [mul_len];omega),mul_get (by omega),mul_get (by omega),mul_get (by omega)]
theorem mul_one {a : List Int} {n : Nat} (ha : Pm a n) : mulI a (oneI n) = a:=by
 refine ext_get (n:=n) (by rw [mul_len];exact ha.1) ha.1 fun k hk=>?_
 have ea:=ha.1
 have h1:=pm_get ha hk
 rw [mul_get (by omega),one_getD _ _ (by omega)]
 omega
theorem one_mul {a : List Int} {n : Nat} (ha : Pm a n) : mulI (oneI n) a = a:=by
 refine ext_get (n:=n) (by rw [mul_len,one_len]) ha.1 fun k hk=>?_
 rw [mul_get (by rw [one_len];omega),one_getD _ _ hk]
 rfl
theorem mv_mul {a b : List Int} {V s : Nat} (hV : V ≤ 64) (ha : Pm a V) (hb : Pm b V) (hs : s < 2 ^ V) : mvN b (mvN a s) = mvN (mulI a b) s:=by
 have hab:=mul_pm ha hb
 refine trace_inj hab hV (mv_lt hb (mv_lt ha hs)) (mv_lt hab hs) ?_
 rw [trace_mul ha hb]
 have h1 : traceB b (mvN b (mvN a s)) = mvN a s:=trace_mov hV hb (mv_lt ha hs)
 have h2 : traceB a (mvN a s) = s:=trace_mov hV ha hs
 have h3 : traceB (mulI a b) (mvN (mulI a b) s) = s:=trace_mov hV hab hs
 rw [h1,h2,h3]
theorem img_V {x : Inc} {g : List Int} : (imgI x g).V = x.V:=by unfold imgI;split <;> rfl
theorem img_fam {x : Inc} (hx : x.Fam) {g : List Int} (hg : Pm g x.V) : (imgI x g).Fam:=by
 rw [imgI_eq hx hg]
 have hlt : ∀ b ∈ sortL (movB g x.B),b < 2 ^ x.V:=by
  intro b hb
  obtain ⟨s,hs,rfl⟩:=List.mem_map.1 ((sortL_perm _).mem_iff.1 hb)
  exact mv_lt hg (hx.lt s hs)
 have h2 : 2 ^ x.V ≤ 2 ^ 7:=Nat.pow_le_pow_right (by decide) hx.v7
 refine ⟨⟨hx.ok.v1,hx.ok.v,fun b hb=>?_,?_⟩,hx.v7,sortL_srt _,hlt⟩
 ·have:=hlt b hb;unfold W64;omega
 ·show (sortL _).length ≤ 12
  rw [(sortL_perm _).length_eq]
  have:=hx.ok.n
  simpa [movB] using this
theorem img_mul {x : Inc} (hx : x.Fam) {a b : List Int} (ha : Pm a x.V) (hb : Pm b x.V) : imgI (imgI x a) b = imgI x (mulI a b):=by
 have hf:=img_fam hx ha
 have hv:=hx.v7
 rw [imgI_eq hf (g:=b) (by rw [img_V];exact hb),imgI_eq hx (mul_pm ha hb),imgI_eq hx ha]
 have e : sortL (movB b (sortL (movB a x.B))) = sortL (movB (mulI a b) x.B):=by
  refine (sortL_iff _ _).2 ?_
  have h1 : (movB b (sortL (movB a x.B))).Perm (movB b (movB a x.B)):=(sortL_perm _).map _
  refine h1.trans (List.Perm.of_eq ?_)
  unfold movB
  rw [List.map_map]
  exact List.map_congr_left fun s hs=>mv_mul (by omega) ha hb (hx.lt s hs)
 show (⟨x.V,_⟩ : Inc) = _
 rw [e]
theorem img_one {x : Inc} (hx : x.Fam) : imgI x (oneI x.V) = x:=(img_self hx (one_pm _)).2 (aut_one hx)
def fibL (x y : Inc) : List (List Int):=(permsA x.V).filter fun g=>decide (imgI x g = y)
theorem fib_mem (x y : Inc) (g : List Int) : g ∈ fibL x y ↔ Pm g x.V ∧ imgI x g = y:=by
 unfold fibL;rw [List.mem_filter,permsA_mem,decide_eq_true_eq]
theorem fib_nd (x y : Inc) : (fibL x y).Nodup:=(permsA_nodup x.V).filter _
theorem autos_fib {x : Inc} (hx : x.Fam) : autos x = fibL x x:=by
 unfold autos fibL
 refine List.filter_congr fun g hg=>?_
 have hp:=(permsA_mem _ _).1 hg
 rw [Bool.eq_iff_iff,isG_iff hx,decide_eq_true_eq,img_self hx hp]
theorem fib_le {x y z : Inc} (hx : x.Fam) {c : List Int} (hc : Pm c x.V) (h : imgI y c = z) (hy : y.Fam) (hyx : y.V = x.V) : (fibL x y).length ≤ (fibL x z).length:=by
 have h1:=nd_le ((fibL x y).map (mulI · c)) (fibL x z) ((nd_map (fun u hu v hv e=>mul_cancel ((fib_mem x y u).1 hu).1 ((fib_mem x y v).1 hv).1 hc e)).2 (fib_nd x y)) (by
  intro u hu
  obtain ⟨v,hv,rfl⟩:=List.mem_map.1 hu
  obtain ⟨h2,h3⟩:=(fib_mem x y v).1 hv
  refine (fib_mem x z _).2 ⟨mul_pm h2 hc,?_⟩
  rw [← img_mul hx h2 hc,h3,h])
 rwa [List.length_map] at h1
theorem fib_img {x : Inc} (hx : x.Fam) {g : List Int} (hg : Pm g x.V) : (fibL x (imgI x g)).length = (fibL x x).length:=by
 obtain ⟨h,hh,e⟩:=inv_ex hg
 refine Nat.le_antisymm (fib_le hx hh ?_ (img_fam hx hg) img_V) (fib_le hx hg rfl hx rfl)
 rw [img_mul hx hg hh,e,img_one hx]
theorem fib_ord {x : Inc} (hx : x.Fam) {g : List Int} (hg : Pm g x.V) : (fibL x (imgI x g)).length = ordK x x.V:=by
 rw [fib_img hx hg,← autos_fib hx,autos_len hx]
theorem split_gen {α β : Type} [DecidableEq β] (f : α → β) (c : Nat) : ∀ (J : List β) (L : List α),J.Nodup → (∀ a ∈ L,f a ∈ J) → (∀ j ∈ J,(L.filter fun a=>decide (f a = j)).length = c) → L.length = c * J.length
 |[],L,_,h,_=>by
  cases L with
  |nil=>rfl
  |cons a L=>have:=h a List.mem_cons_self;cases this
 |j :: J,L,hJ,h,hc=>by
  obtain ⟨hj,hJ2⟩:=List.nodup_cons.1 hJ
  have e : ∀ j' ∈ J,((L.filter fun a=>!decide (f a = j)).filter fun a=>decide (f a = j')).length = (L.filter fun a=>decide (f a = j')).length:=by
   intro j' hj'
   rw [List.filter_filter]
   congr 1
   refine List.filter_congr fun a _=>?_
   by_cases h4 : f a = j'
   ·have : ¬ j' = j:=fun e=>hj (e ▸ hj')
    simp [h4,this]
   ·simp [h4]
  have ih:=split_gen f c J (L.filter fun a=>!decide (f a = j)) hJ2 (by
   intro a ha
   obtain ⟨h1,h2⟩:=List.mem_filter.1 ha
   rcases List.mem_cons.1 (h a h1) with h3|h3
   ·simp [h3] at h2
   ·exact h3) (fun j' hj'=>by rw [e j' hj'];exact hc j' (List.mem_cons_of_mem _ hj'))
  have h0:=hc j List.mem_cons_self
  have h5:=List.length_eq_countP_add_countP (fun a=>decide (f a = j)) (l:=L)
  rw [List.countP_eq_length_filter,List.countP_eq_length_filter,h0] at h5
  have h6 : (L.filter fun a=>decide ¬(decide (f a = j)) = true) = L.filter fun a=>!decide (f a = j):=List.filter_congr fun a _=>by simp
  rw [h6,ih] at h5
  rw [h5,List.length_cons,Nat.mul_add,Nat.mul_one]
  omega
def imsK (x : Inc) : Nat → List Inc
 |0=>[]
 |k + 1=>if imgI x (permL x.V k) ∈ imsK x k then imsK x k else imsK x k ++ [imgI x (permL x.V k)]
theorem imsK_nd (x : Inc) : ∀ k,(imsK x k).Nodup
 |0=>List.nodup_nil
 |k + 1=>by
  have ih:=imsK_nd x k
  unfold imsK
  split
  ·exact ih
  ·rename_i h
   exact List.nodup_append.2 ⟨ih,by simp,by rintro a ha b hb rfl;rw [List.mem_singleton.1 hb] at ha;exact h ha⟩
theorem imsK_mem (x : Inc) (y : Inc) : ∀ k,y ∈ imsK x k ↔ ∃ r,r < k ∧ imgI x (permL x.V r) = y
 |0=>by simp [imsK]
 |k + 1=>by
  have ih:=imsK_mem x y k
  have hs : y ∈ imsK x (k + 1) ↔ y ∈ imsK x k ∨ imgI x (permL x.V k) = y:=by
   rw [imsK]
   split
   ·rename_i h
    constructor
    ·exact Or.inl
    ·rintro (h1|h1)
     ·exact h1
     ·rw [← h1];exact h
   ·rw [List.mem_append,List.mem_singleton]
    constructor
    ·rintro (h1|h1)
     ·exact .inl h1
     ·exact .inr h1.symm
    ·rintro (h1|h1)
     ·exact .inl h1
     ·exact .inr h1.symm
  rw [hs,ih]
  constructor
  ·rintro (⟨r,h1,h2⟩|h1)
   ·exact ⟨r,by omega,h2⟩
   ·exact ⟨k,by omega,h1⟩
  ·rintro ⟨r,h1,h2⟩
   rcases Nat.lt_or_ge r k with h3|h3
   ·exact .inl ⟨r,h3,h2⟩
   ·have : r = k:=by omega
    subst this
    exact .inr h2
theorem imsK_len (x : Inc) : ∀ k,(imsK x k).length ≤ k
 |0=>Nat.le_refl _
 |k + 1=>by
  have:=imsK_len x k
  unfold imsK
  split
  ·omega
  ·rw [List.length_append];simp;omega
theorem ims_all {x : Inc} (hx : x.Fam) : ordK x x.V * (imsK x (factL x.V)).length = factL x.V:=by
 have hl : (permsA x.V).length = factL x.V:=by rw [← permL_all,List.length_map,List.length_range]
 rw [← hl]
 refine (split_gen (imgI x) (ordK x x.V) (imsK x (permsA x.V).length) (permsA x.V) (imsK_nd _ _) ?_ ?_).symm
 ·intro g hg
  rw [← permL_all] at hg
  obtain ⟨r,hr,rfl⟩:=List.mem_map.1 hg
  rw [hl]
  exact (imsK_mem x _ _).2 ⟨r,List.mem_range.1 hr,rfl⟩
 ·intro y hy
  rw [hl] at hy
  obtain ⟨r,hr,rfl⟩:=(imsK_mem x _ _).1 hy
  exact fib_ord hx (permL_pm hr)
open Go
def lexB : List Nat → List Nat → Bool
 |[],[]=>false
 |[],_ :: _=>true
 |_ :: _,[]=>false
 |a :: l,b :: m=>if a < b then true else if b < a then false else lexB l m
theorem lexB_irr : ∀ l,lexB l l = false
 |[]=>rfl
 |a :: l=>by simp [lexB,lexB_irr l]
theorem lexB_tri : ∀ {l m : List Nat},lexB l m = false → lexB m l = false → l = m
 |[],[],_,_=>rfl
 |[],_ :: _,h,_=>by simp [lexB] at h
 |_ :: _,[],_,h=>by simp [lexB] at h
 |a :: l,b :: m,h,h2=>by
  unfold lexB at h h2
  by_cases h3 : a < b
  ·simp [h3] at h
  ·by_cases h4 : b < a
   ·simp [h4] at h2
   ·simp only [h3,h4,if_false] at h h2
    rw [lexB_tri h h2,show a = b by omega]
theorem lexB_asy : ∀ {l m : List Nat},lexB l m = true → lexB m l = false
 |[],[],h=>by simp [lexB] at h
 |[],_ :: _,_=>rfl
 |_ :: _,[],h=>by simp [lexB] at h
 |a :: l,b :: m,h=>by
  unfold lexB at h ⊢
  by_cases h3 : a < b
  ·simp [h3,show ¬ b < a by omega]
  ·by_cases h4 : b < a
   ·simp [h3,h4] at h
   ·simp only [h3,h4,if_false] at h ⊢
    exact lexB_asy h
theorem lexB_tr : ∀ {l m n : List Nat},lexB l m = true → lexB m n = true → lexB l n = true
 |[],_,[],h,h2=>by
  rename_i m
  cases m <;> simp [lexB] at h h2
 |[],_,_ :: _,_,_=>rfl
 |_ :: _,[],_,h,_=>by simp [lexB] at h
 |_ :: _,_ :: _,[],_,h=>by simp [lexB] at h
 |a :: l,b :: m,c :: n,h,h2=>by
  unfold lexB at h h2 ⊢
  by_cases h3 : a < b
  ·by_cases h5 : b < c
   ·simp [show a < c by omega]
   ·by_cases h6 : c < b
    ·simp [h5,h6] at h2
    ·simp [show a < c by omega]
  ·by_cases h4 : b < a
   ·simp [h3,h4] at h
   ·simp only [h3,h4,if_false] at h
    by_cases h5 : b < c
    ·simp [show a < c by omega]
    ·by_cases h6 : c < b
     ·simp [h5,h6] at h2
     ·simp only [h5,h6,if_false] at h2
      simp only [show ¬ a < c by omega,show ¬ c < a by omega,if_false]
      exact lexB_tr h h2
def minB : List (List Nat) → List Nat → List Nat
 |[],b=>b
 |y :: l,b=>minB l (if lexB y b then y else b)
theorem minB_mem : ∀ (l : List (List Nat)) (b : List Nat),minB l b = b ∨ minB l b ∈ l
 |[],b=>.inl rfl
 |y :: l,b=>by
  unfold minB
  rcases minB_mem l (if lexB y b then y else b) with h|h
  ·rw [h]
   split
   ·exact .inr List.mem_cons_self
   ·exact .inl rfl
  ·exact .inr (List.mem_cons_of_mem _ h)
theorem lexB_le {a b c : List Nat} (h : lexB b a = false) (h2 : lexB c b = false) : lexB c a = false:=by
 cases h3 : lexB c a with
 |false=>rfl
 |true =>
  exfalso
  cases h4 : lexB a b with
  |true=>have:=lexB_tr h3 h4;rw [h2] at this;cases this
  |false =>
   have:=lexB_tri h h4
   subst this
   rw [h3] at h2;cases h2
theorem minB_le : ∀ (l : List (List Nat)) (b : List Nat),lexB b (minB l b) = false ∧ ∀ y ∈ l,lexB y (minB l b) = false
 |[],b=>⟨lexB_irr b,fun y hy=>by cases hy⟩
 |y :: l,b=>by
  unfold minB
  obtain ⟨h1,h2⟩:=minB_le l (if lexB y b then y else b)
  have key : lexB b (minB l (if lexB y b then y else b)) = false ∧ lexB y (minB l (if lexB y b then y else b)) = false:=by
   cases hc : lexB y b with
   |true =>
    rw [hc,if_pos rfl] at h1
    exact ⟨by rw [if_pos rfl];exact lexB_le h1 (lexB_asy hc),by rw [if_pos rfl];exact h1⟩
   |false =>
    rw [hc] at h1
    simp only [Bool.false_eq_true,if_false] at h1 ⊢
    exact ⟨h1,lexB_le h1 hc⟩
  exact ⟨key.1,fun z hz=>by
   rcases List.mem_cons.1 hz with rfl|hz
   ·exact key.2
   ·exact h2 z hz⟩
def imgsL (x : Inc) : List (List Nat):=(permsA x.V).map fun g=>(imgI x g).B
def formB (x : Inc) : List Nat:=match imgsL x with
 |[]=>x.B
 |y :: l=>minB l y
def formI (x : Inc) : Inc:=⟨x.V,formB x⟩
theorem imgs_mem (x : Inc) (B : List Nat) : B ∈ imgsL x ↔ ∃ g,Pm g x.V ∧ (imgI x g).B = B:=by
 unfold imgsL
 rw [List.mem_map]
 constructor
 ·rintro ⟨g,hg,rfl⟩;exact ⟨g,(permsA_mem _ _).1 hg,rfl⟩
 ·rintro ⟨g,hg,rfl⟩;exact ⟨g,(permsA_mem _ _).2 hg,rfl⟩
theorem formB_spec (x : Inc) : formB x ∈ imgsL x ∧ ∀ y ∈ imgsL x,lexB y (formB x) = false:=by
 have h0 : (imgI x (oneI x.V)).B ∈ imgsL x:=(imgs_mem x _).2 ⟨_,one_pm _,rfl⟩
 unfold formB
 cases h : imgsL x with
 |nil=>rw [h] at h0;cases h0
 |cons y l =>
  dsimp only
  obtain ⟨h1,h2⟩:=minB_le l y
  refine ⟨?_,fun z hz=>?_⟩
  ·rcases minB_mem l y with e|e
   ·rw [e];exact List.mem_cons_self
   ·exact List.mem_cons_of_mem _ e
  ·rcases List.mem_cons.1 hz with rfl|hz
   ·exact h1
   ·exact h2 z hz
theorem formI_img (x : Inc) : ∃ g,Pm g x.V ∧ formI x = imgI x g:=by
 obtain ⟨g,hg,e⟩:=(imgs_mem x _).1 (formB_spec x).1
 refine ⟨g,hg,?_⟩
 have hv : (imgI x g).V = x.V:=img_V
 cases hi : imgI x g with
 |mk V B=>rw [hi] at e hv;simp only at e hv;unfold formI;rw [e,hv]
theorem form_le (x : Inc) {g : List Int} (hg : Pm g x.V) : lexB (imgI x g).B (formI x).B = false:=(formB_spec x).2 _ ((imgs_mem x _).2 ⟨g,hg,rfl⟩)
theorem form_uniq {x y : Inc} {g : List Int} (hg : Pm g x.V) (e : y = imgI x g) (h : ∀ k,Pm k x.V → lexB (imgI x k).B y.B = false) : y = formI x:=by
 obtain ⟨k,hk,e2⟩:=formI_img x
 have h1:=h k hk
 rw [← e2] at h1
 have h2:=form_le x hg
 rw [← e] at h2
 have hB:=lexB_tri h1 h2
 have hv : y.V = x.V:=by rw [e];exact img_V
 cases y with
 |mk V B=>simp only at hB hv;subst hB hv;rfl
theorem img_inv {x : Inc} (hx : x.Fam) {g : List Int} (hg : Pm g x.V) : ∃ h,Pm h x.V ∧ imgI (imgI x g) h = x:=by
 obtain ⟨h,hh,e⟩:=inv_ex hg
 exact ⟨h,hh,by rw [img_mul hx hg hh,e,img_one hx]⟩
theorem form_img {x : Inc} (hx : x.Fam) {g : List Int} (hg : Pm g x.V) : formI (imgI x g) = formI x:=by
 have hv : (imgI x g).V = x.V:=img_V
 obtain ⟨h,hh,e⟩:=formI_img (imgI x g)
 rw [hv] at hh
 rw [img_mul hx hg hh] at e
 refine form_uniq (mul_pm hg hh) e fun k hk=>?_
 obtain ⟨i,hi,e2⟩:=img_inv hx hg
 have : imgI x k = imgI (imgI x g) (mulI i k):=by
  rw [← img_mul (img_fam hx hg) (hv ▸ hi) (hv ▸ hk),e2]
 rw [this]
 exact form_le _ (hv ▸ mul_pm hi hk)
theorem form_eq {x y : Inc} (hx : x.Fam) (hy : y.Fam) (hv : x.V = y.V) (h : formI x = formI y) : ∃ g,Pm g x.V ∧ imgI x g = y:=by
 obtain ⟨g,hg,e⟩:=formI_img x
 obtain ⟨k,hk,e2⟩:=formI_img y
 obtain ⟨i,hi,e3⟩:=img_inv hy hk
 rw [← hv] at hi
 refine ⟨mulI g i,mul_pm hg hi,?_⟩
 rw [← img_mul hx hg hi,← e,h,e2,e3]
open Go
theorem sizeK_len (b : Nat) : ∀ k,sizeK b k = ((List.range k).filter b.testBit).length
 |0=>rfl
 |k + 1=>by
  rw [List.range_succ,List.filter_append,List.length_append,sizeK,sizeK_len b k]
  cases h : b.testBit k <;> simp [h]
theorem sizeN_bits (b : Nat) : sizeN b = (bitsL b).length:=sizeK_len b 64
theorem mvN_bit {g : List Int} {V s q : Nat} (hg : Pm g V) (hV : V ≤ 64) (hs : s < 2 ^ V) : (mvN g s).testBit q = true ↔ ∃ p,p < V ∧ s.testBit p = true ∧ (g.getD p 0).toNat = q:=by
 unfold mvN movL
 rw [mov_bit]
 simp only [Nat.zero_testBit,Bool.false_eq_true,false_or]
 constructor
 ·rintro ⟨p,hp,e⟩
  have:=(bitsL_mem s p).1 hp
  exact ⟨p,bits_lt hs this.2,this.2,e⟩
 ·rintro ⟨p,hp,h,e⟩
  exact ⟨p,(bitsL_mem s p).2 ⟨by omega,h⟩,e⟩
theorem mvN_bits {g : List Int} {V s : Nat} (hg : Pm g V) (hV : V ≤ 64) (hs : s < 2 ^ V) : (bitsL (mvN g s)).Perm ((bitsL s).map fun p=>(g.getD p 0).toNat):=by
 have hnd : ((bitsL s).map fun p=>(g.getD p 0).toNat).Nodup:=(nd_map (fun a ha b hb e=>by
  have h1:=(bitsL_mem s a).1 ha
  have h2:=(bitsL_mem s b).1 hb
  exact pm_inj hg (bits_lt hs h1.2) (bits_lt hs h2.2) e)).2 (List.nodup_range.filter _)
 refine (List.perm_ext_iff_of_nodup (List.nodup_range.filter _) hnd).2 fun q=>?_
 rw [List.mem_map]
 constructor
 ·intro h
  obtain ⟨p,hp,h1,e⟩:=(mvN_bit hg hV hs).1 ((bitsL_mem _ q).1 h).2
  exact ⟨p,(bitsL_mem s p).2 ⟨by omega,h1⟩,e⟩
 ·rintro ⟨p,hp,rfl⟩
  have h1:=(bitsL_mem s p).1 hp
  have h2:=pm_get hg (bits_lt hs h1.2)
  exact (bitsL_mem _ _).2 ⟨by omega,(mvN_bit hg hV hs).2 ⟨p,bits_lt hs h1.2,h1.2,rfl⟩⟩
theorem mvN_size {g : List Int} {V s : Nat} (hg : Pm g V) (hV : V ≤ 64) (hs : s < 2 ^ V) : sizeN (mvN g s) = sizeN s:=by
 rw [sizeN_bits,sizeN_bits,(mvN_bits hg hV hs).length_eq,List.length_map]
def prsB (B : List Nat) (p q : Nat) : Nat:=B.countP fun b=>b.testBit p && b.testBit q
theorem mvN_at {g : List Int} {V s p : Nat} (hg : Pm g V) (hV : V ≤ 64) (hs : s < 2 ^ V) (hp : p < V) : (mvN g s).testBit (g.getD p 0).toNat = s.testBit p:=by
 cases h : s.testBit p with
 |true=>exact (mvN_bit hg hV hs).2 ⟨p,hp,h,rfl⟩
 |false =>
  cases h2 : (mvN g s).testBit (g.getD p 0).toNat with
  |false=>rfl
  |true =>
   obtain ⟨q,hq,h3,e⟩:=(mvN_bit hg hV hs).1 h2
   rw [pm_inj hg hq hp e] at h3
   rw [h3] at h;cases h
structure Kd where
 V : Nat
 K : Nat
 L : Nat
structure Kd.Ok (k : Kd) : Prop where
 v3 : 3 ≤ k.V
 v6 : k.V ≤ 6
 k2 : 2 ≤ k.K
 k4 : k.K ≤ 4
 kv : k.K ≤ k.V
 l1 : 1 ≤ k.L
 l2 : k.L ≤ 2
structure IsF (k : Kd) (x : Inc) : Prop where
 ok : k.Ok
 v : x.V = k.V
 s : x.B.Pairwise (· < ·)
 lt : ∀ b ∈ x.B,b < 2 ^ k.V
 sz : ∀ b ∈ x.B,sizeN b = k.K
 pr : ∀ p q,p < k.V → q < k.V → p ≠ q → prsB x.B p q ≤ k.L
theorem IsF.fam {k : Kd} {x : Inc} (h : IsF k x) (hl : x.B.length ≤ 12) : x.Fam:=by
 have:=h.ok.v3
 have:=h.ok.v6
 have hv:=h.v
 refine ⟨⟨by omega,by omega,fun b hb=>?_,hl⟩,by omega,h.s.imp fun h=>Nat.le_of_lt h,fun b hb=>by rw [hv];exact h.lt b hb⟩
 have h1:=h.lt b hb
 have h2 : 2 ^ k.V ≤ 2 ^ 6:=Nat.pow_le_pow_right (by decide) h.ok.v6
 unfold W64;omega
open Go
def addI (x : Inc) (b : Nat) : Inc:=⟨x.V,withL x.B b⟩
def parI (x : Inc) : Inc:=formI ⟨x.V,(formI x).B.dropLast⟩
structure IsFm (k : Kd) (n : Nat) (f : Inc) : Prop where
 fm : IsF k f
 len : f.B.length = n
 form : formI f = f
open Go
def setsK (V K : Nat) : List Nat:=(List.range (2 ^ V)).filter fun b=>sizeN b == K
def smallK : List (Nat × Nat):=[(4,2),(5,2),(5,3),(4,3),(3,2),(5,4),(4,4),(3,3)]
theorem setsK_len : ∀ p ∈ smallK,(setsK p.1 p.2).length ≤ 10:=by decide +kernel
theorem isF_len {k : Kd} {x : Inc} (hk : (k.V,k.K) ∈ smallK) (h : IsF k x) : x.B.length ≤ 10:=by
 refine Nat.le_trans (nd_le x.B (setsK k.V k.K) (h.s.imp fun h=>Nat.ne_of_lt h) fun b hb=>?_) (setsK_len _ hk)
 exact List.mem_filter.2 ⟨List.mem_range.2 (h.lt b hb),by rw [h.sz b hb];exact beq_self_eq_true _⟩
end Go.Proofs.YtbpifoakbkmblaaDoor.Pw
