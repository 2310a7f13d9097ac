/- Parts of the proof, merged: AB AC AD BF CB AE AF AG AH AM AO AI AQ AJ AK AN YT ZR AL AP AR CC ZJ ZK YU YV. -/
import Derived.Test.YtbpifoakbkmblaaGreatDoorXc
import Derived.Test.YtbpifoakbkmblaaGreatDoorXa

set_option linter.unusedVariables false
set_option linter.unusedSimpArgs false
set_option maxHeartbeats 40000000
set_option maxRecDepth 10000
namespace Go.Proofs.YtbpifoakbkmblaaGreatDoor.Pw
open Go
theorem YC.view {P : Program} {g : Nat} {ds : List D} {H : List Ob} {Q0 Q : D → List Ob → Prop} (h : YC P g ds H Q0)
  (hQ : ∀ r H',Q0 r H' → ∃ H1 r1 n,Frz H' H1 ∧ LeD H1 r1 r ∧ H.length ≤ n ∧ n ≤ H1.length ∧ Cy n r1 = true ∧ (∀ o ∈ H1.take n,As n o = true) ∧ Q r1 (H1.take n)) : YC P g ds H Q:=by
 unfold YC at h ⊢
 intro F β w vs kb l hst hdom hkb hl hrv
 obtain ⟨fn,tmps,asg,body,h1,h2⟩:=h F β w vs kb l hst hdom hkb hl hrv
 refine ⟨fn,tmps,asg,body,h1,h2.mono ?_⟩
 rintro en w' ⟨r,v,F',β',H',rfl,hq,hlen,s',d',hr,ext⟩
 obtain ⟨H1,r1,n,hz,hle,hn1,hn2,hin,hino,hq1⟩:=hQ r H' hq
 obtain ⟨F1,hx1,s1,a1,e1,l1,q1⟩:=Gx hz s' (B8 β' H')
 have q1:=q1 rfl
 subst q1
 have hl : (H1.take n).length = n:=by simp;omega
 have hsub : DM (List.range n) (H1.take n).length H1 (H1.take n) (List.range n):=by
  refine JB _ _ (by simp;omega) ?_
  intro i o g h1 h2
  have hi : i < n:=by have:=(List.getElem?_eq_some_iff.1 h1).1;omega
  rw [List.getElem?_range hi] at h2
  cases h2
  have ho:=hino o (List.mem_of_getElem? h1)
  rw [hl]
  refine ⟨?_,ho⟩
  rw [DV n o ho]
  rw [List.getElem?_take,if_pos hi] at h1
  simp [List.getD,h1]
 obtain ⟨s0,d0,o0,_⟩:=s1.sub hsub (Km _ List.nodup_range)
 rw [hl] at s0 d0 o0
 have hr1 : R F1 r1 (BS (List.range n) n β') v:=DG r1 hin (by rw [F9 n r1 hin];exact Eo s1 (B8 β' H1) hle (R.mono e1.fle _ e1.ble hr))
 refine ⟨r1,v,F1,_,H1.take n,rfl,hq1,by rw [hl];exact hn1,s0,d0,hr1,?_⟩
 have ee:=ext.trans e1
 refine ⟨ee.os,ee.tape,ee.output,ee.size,ee.keep,?_,ee.fz,ee.fle,?_⟩
 ·intro b hb
  obtain ⟨i,hi,k,h1,h2,h3⟩:=o0 b hb
  exact ee.own b ⟨_,k,h1,h2,h3⟩
 ·intro i k hi
  have:=hdom i k hi
  unfold BS
  rw [if_pos (by omega)]
  have e : (List.range n).getD i 0 = i:=by simp [List.getD,List.getElem?_range (show i < n by omega)]
  rw [e]
  exact ee.ble i k hi
theorem Fm {P : Program} {g : Nat} {ds : List D} {H : List Ob} {Q : D → List Ob → Prop} (h : YC P g ds H (fun r H'=>Bz (∃ A Y,H' = A ++ Y ∧ A.length = H.length ∧ (∀ o ∈ A,As A.length o = true) ∧ Bu r = true ∧ Q r A))) : YC P g ds H (fun r H'=>Bz (Q r H')):=by
 refine YC.view h ?_
 intro r H' hq
 obtain ⟨A,Y,rfl,hl,hin,hr,hq⟩:=A2 hq
 refine ⟨A ++ Y,r,A.length,.refl _,.refl _,by omega,by simp,Nh _ _ hr,?_,?_⟩
 ·rw [List.take_left];exact hin
 ·rw [List.take_left];exact Ac hq
theorem Acv {α : Type} {l : List α} (h : l.length = 7) : ∃ o0 o1 o2 o3 o4 o5 o6,l = [o0,o1,o2,o3,o4,o5,o6]:=by
 match l,h with
 |[o0,o1,o2,o3,o4,o5,o6],_=>exact ⟨o0,o1,o2,o3,o4,o5,o6,rfl⟩
theorem X5 (s : Nat) (hs : Ax s) (g : Nat) (hg : g < 7) (J : Nat → List Ob → Prop) (Q : D → List Ob → Prop)
  (hJ : ∀ k H,J k H → ∃ o0 o1 o2 o3 o4 o5 o6,H = [o0,o1,o2,o3,o4,o5,o6] ∧ ∀ o ∈ H,As 7 o = true)
  (hyl : ∀ k p H,J k H → (Aa s)[k]? = some p → YC Tryz.prog g [iD p] H (fun r H'=>Bz (H'.length = 7 ∧ (∀ o ∈ H',As 7 o = true) ∧ ((r = .bool true ∧ J (k + 1) H') ∨ (r = .bool false ∧ Q (.tuple []) H')))))
  (hend : ∀ H,J (Aa s).length H → Q (.tuple []) H) (H0 : List Ob) (h0 : J 0 H0) :
  HC Tryz.prog 90 [sD s,.yld g] H0 Q:=by
 obtain ⟨o0,o1,o2,o3,o4,o5,o6,rfl,hin⟩:=hJ 0 H0 h0
 refine HC.view (Q0:=fun r H'=>Bz (∃ Hc Y,H' = Hc ++ Y ∧ Hc.length = 7 ∧ (∀ o ∈ Hc,As 7 o = true) ∧ r = .tuple [] ∧ Q r Hc)) ?_ ?_
 ·refine Ai (okc Tryz.f90.ntmps 7) (fn:=Tryz.f90) (cd:=_) rfl rfl rfl rfl rfl rfl (fun hbd=>?_)
  all_goals (conv=>whnf)
  refine Bt (X:=Nat × Nat × List Ob) (fun x=>[(1,.yld g),(4,sD x.2.1)]) (fun x=>x.2.2) (fun x=>Ax x.2.1 ∧ Aa x.2.1 = (Aa s).drop x.1 ∧ J x.1 x.2.2 ∧ x.1 ≤ (Aa s).length) (fun x=>(Aa x.2.1).length) ⟨_,A4 (0,s,[o0,o1,o2,o3,o4,o5,o6]) Bn rfl (Nat.lt_succ_self _) ⟨hs,rfl,h0,Nat.zero_le _⟩⟩ ?_
  rintro ⟨j,x,Hc⟩ ⟨hx,hb,hj,hjle⟩
  dsimp only at hx hb hj hjle ⊢
  clear hin h0
  obtain ⟨o0,o1,o2,o3,o4,o5,o6,rfl,hin⟩:=hJ _ _ hj
  cases hbx : Aa x with
  |nil =>
   have hx0:=DE hx hbx
   subst hx0
   conv=>whnf
   rw [hbx] at hb
   have hjl : j = (Aa s).length:=by
    have:=congrArg List.length hb
    rw [List.length_drop] at this
    simp only [List.length_nil] at this
    omega
   exact Ac ⟨[o0,o1,o2,o3,o4,o5,o6],[],rfl,rfl,hin,rfl,hend _ (hjl ▸ hj)⟩
  |cons i t =>
   obtain ⟨hi,hlow,hpred,hi64⟩:=Dv hbx
   have hx1 : 1 ≤ x:=by
    rcases Nat.eq_zero_or_pos x with e|e
    ·rw [e] at hi;simp at hi
    ·exact e
   have hjl : j < (Aa s).length:=by
    have:=congrArg List.length hb
    rw [hbx,List.length_drop] at this
    simp only [List.length_cons] at this
    omega
   rw [hbx] at hb
   have hji : (Aa s)[j]? = some i:=by
    have:=congrArg (fun l=>l[0]?) hb
    simpa [List.getElem?_drop] using this.symm
   have hjt : t = (Aa s).drop (j + 1):=by
    have:=congrArg List.tail hb
    simpa using this
   repeat' (
    conv=>whnf
    first
    |refine D4 (fun h=>?_) (fun h=>?_)
    |((with_reducible refine Aw ?_);refine Bd (K5 x i hx hi hlow) ?_)
    |refine BW ?_)
   all_goals (conv=>whnf)
   ·refine FQ (Hc:=[o0,o1,o2,o3,o4,o5,o6]) (Y:=[]) (Y1:=[]) (hyl j i _ hj hji) hg (.refl _) hin (Dj _ _) rfl ?_
    intro r H' hq
    obtain ⟨hl',hin',hcase⟩:=A2 hq
    refine ⟨hl',hin',by rcases hcase with ⟨rfl,_⟩|⟨rfl,_⟩ <;> rfl,?_⟩
    rcases hcase with ⟨rfl,hJ'⟩|⟨rfl,hQ'⟩
    ·clear hin hj
     obtain ⟨o0,o1,o2,o3,o4,o5,o6,rfl,hin⟩:=hJ _ _ hJ'
     repeat' (
      conv=>whnf
      first
      |((with_reducible apply BM);(rfl);(rfl);(exact wA);(exact wA))
      |((with_reducible apply Ew);(rfl);(rfl);(first|exact Dx _|omega);(exact wA)))
     all_goals (conv=>whnf)
     refine A4 (j + 1,x &&& (x - 1),[o0,o1,o2,o3,o4,o5,o6]) Bn rfl ?_ ⟨HF hx,hpred.trans hjt,hJ',hjl⟩
     show (Aa (x &&& (x - 1))).length < (i :: t).length
     rw [hpred];simp
    ·all_goals (conv=>whnf)
     exact Ac ⟨H',_,rfl,hl',hin',rfl,hQ'⟩
   ·exact absurd h (by omega)
 ·intro r H' hq
  obtain ⟨Hc,Y,rfl,hl,hino,rfl,hq⟩:=A2 hq
  refine ⟨Hc ++ Y,.tuple [],7,.refl _,.refl _,Nat.le_refl _,by simp;omega,rfl,?_,?_⟩
  ·rw [← hl,List.take_left];rw [hl];exact hino
  ·rw [← hl,List.take_left];exact hq
theorem WC (s : Nat) (hs : Ax s) (g : Nat) (hg : g < 7) {H0 : List Ob} (lp : Ob) (pre0 : List Ob) (hH : H0 = pre0 ++ [lp]) (J : Nat → List Ob → Prop) (Q : D → List Ob → Prop)
  (hJ : ∀ k X,J k X → X.length + 1 = 7 ∧ ∀ o ∈ X,As 7 o = true) (hlp : As 7 lp = true)
  (hyl : ∀ k p X,J k X → (Aa s)[k]? = some p → YC Tryz.prog g [iD p] (X ++ [lp]) (fun r H'=>Bz ((r = .bool true ∧ ∃ X',H' = X' ++ [lp] ∧ J (k + 1) X') ∨ (r = .bool false ∧ H'.length = 7 ∧ (∀ o ∈ H',As 7 o = true) ∧ Q (.tuple []) H'))))
  (hend : ∀ X,J (Aa s).length X → Q (.tuple []) (X ++ [lp])) (h0 : J 0 pre0) :
  HC Tryz.prog 90 [sD s,.yld g] H0 Q:=by
 have hin : ∀ k X,J k X → (X ++ [lp]).length = 7 ∧ ∀ o ∈ X ++ [lp],As 7 o = true:=by
  intro k X h
  obtain ⟨h1,h2⟩:=hJ k X h
  refine ⟨by simp;omega,fun o ho=>?_⟩
  rcases List.mem_append.1 ho with ho|ho
  ·exact h2 o ho
  ·simp at ho;subst ho;exact hlp
 refine X5 s hs g hg (fun k H=>∃ X,H = X ++ [lp] ∧ J k X) Q (fun k H h=>?_) (fun k p H h hp=>?_) (fun H h=>?_) H0 ⟨pre0,hH,h0⟩
 ·obtain ⟨X,rfl,hj⟩:=h
  obtain ⟨h1,h2⟩:=hin k X hj
  obtain ⟨o0,o1,o2,o3,o4,o5,o6,h3⟩:=Acv h1
  exact ⟨o0,o1,o2,o3,o4,o5,o6,h3,h2⟩
 ·obtain ⟨X,rfl,hj⟩:=h
  refine YC.mono (hyl k p X hj hp) fun r H' hq=>?_
  rcases A2 hq with ⟨h1,X',rfl,h3⟩|⟨h1,h2,h3,h4⟩
  ·obtain ⟨h4,h5⟩:=hin _ _ h3
   exact Ac ⟨h4,h5,.inl ⟨h1,X',rfl,h3⟩⟩
  ·exact Ac ⟨h2,h3,.inr ⟨h1,h4⟩⟩
 ·obtain ⟨X,rfl,hj⟩:=h
  exact hend X hj
theorem Aca {α : Type} {l : List α} (h : l.length = 8) : ∃ o0 o1 o2 o3 o4 o5 o6 o7,l = [o0,o1,o2,o3,o4,o5,o6,o7]:=by
 match l,h with
 |[o0,o1,o2,o3,o4,o5,o6,o7],_=>exact ⟨o0,o1,o2,o3,o4,o5,o6,o7,rfl⟩
theorem Xi (s : Nat) (hs : Ax s) (g : Nat) (hg : g < 8) (J : Nat → List Ob → Prop) (Q : D → List Ob → Prop)
  (hJ : ∀ k H,J k H → ∃ o0 o1 o2 o3 o4 o5 o6 o7,H = [o0,o1,o2,o3,o4,o5,o6,o7] ∧ ∀ o ∈ H,As 8 o = true)
  (hyl : ∀ k p H,J k H → (Aa s)[k]? = some p → YC Tryz.prog g [iD p] H (fun r H'=>Bz (H'.length = 8 ∧ (∀ o ∈ H',As 8 o = true) ∧ ((r = .bool true ∧ J (k + 1) H') ∨ (r = .bool false ∧ Q (.tuple []) H')))))
  (hend : ∀ H,J (Aa s).length H → Q (.tuple []) H) (H0 : List Ob) (h0 : J 0 H0) :
  HC Tryz.prog 90 [sD s,.yld g] H0 Q:=by
 obtain ⟨o0,o1,o2,o3,o4,o5,o6,o7,rfl,hin⟩:=hJ 0 H0 h0
 refine HC.view (Q0:=fun r H'=>Bz (∃ Hc Y,H' = Hc ++ Y ∧ Hc.length = 8 ∧ (∀ o ∈ Hc,As 8 o = true) ∧ r = .tuple [] ∧ Q r Hc)) ?_ ?_
 ·refine Ai (okc Tryz.f90.ntmps 8) (fn:=Tryz.f90) (cd:=_) rfl rfl rfl rfl rfl rfl (fun hbd=>?_)
  all_goals (conv=>whnf)
  refine Bt (X:=Nat × Nat × List Ob) (fun x=>[(1,.yld g),(4,sD x.2.1)]) (fun x=>x.2.2) (fun x=>Ax x.2.1 ∧ Aa x.2.1 = (Aa s).drop x.1 ∧ J x.1 x.2.2 ∧ x.1 ≤ (Aa s).length) (fun x=>(Aa x.2.1).length) ⟨_,A4 (0,s,[o0,o1,o2,o3,o4,o5,o6,o7]) Bn rfl (Nat.lt_succ_self _) ⟨hs,rfl,h0,Nat.zero_le _⟩⟩ ?_
  rintro ⟨j,x,Hc⟩ ⟨hx,hb,hj,hjle⟩
  dsimp only at hx hb hj hjle ⊢
  clear hin h0
  obtain ⟨o0,o1,o2,o3,o4,o5,o6,o7,rfl,hin⟩:=hJ _ _ hj
  cases hbx : Aa x with
  |nil =>
   have hx0:=DE hx hbx
   subst hx0
   conv=>whnf
   rw [hbx] at hb
   have hjl : j = (Aa s).length:=by
    have:=congrArg List.length hb
    rw [List.length_drop] at this
    simp only [List.length_nil] at this
    omega
   exact Ac ⟨[o0,o1,o2,o3,o4,o5,o6,o7],[],rfl,rfl,hin,rfl,hend _ (hjl ▸ hj)⟩
  |cons i t =>
   obtain ⟨hi,hlow,hpred,hi64⟩:=Dv hbx
   have hx1 : 1 ≤ x:=by
    rcases Nat.eq_zero_or_pos x with e|e
    ·rw [e] at hi;simp at hi
    ·exact e
   have hjl : j < (Aa s).length:=by
    have:=congrArg List.length hb
    rw [hbx,List.length_drop] at this
    simp only [List.length_cons] at this
    omega
   rw [hbx] at hb
   have hji : (Aa s)[j]? = some i:=by
    have:=congrArg (fun l=>l[0]?) hb
    simpa [List.getElem?_drop] using this.symm
   have hjt : t = (Aa s).drop (j + 1):=by
    have:=congrArg List.tail hb
    simpa using this
   repeat' (
    conv=>whnf
    first
    |refine D4 (fun h=>?_) (fun h=>?_)
    |((with_reducible refine Aw ?_);refine Bd (K5 x i hx hi hlow) ?_)
    |refine BW ?_)
   all_goals (conv=>whnf)
   ·refine FQ (Hc:=[o0,o1,o2,o3,o4,o5,o6,o7]) (Y:=[]) (Y1:=[]) (hyl j i _ hj hji) hg (.refl _) hin (Dj _ _) rfl ?_
    intro r H' hq
    obtain ⟨hl',hin',hcase⟩:=A2 hq
    refine ⟨hl',hin',by rcases hcase with ⟨rfl,_⟩|⟨rfl,_⟩ <;> rfl,?_⟩
    rcases hcase with ⟨rfl,hJ'⟩|⟨rfl,hQ'⟩
    ·clear hin hj
     obtain ⟨o0,o1,o2,o3,o4,o5,o6,o7,rfl,hin⟩:=hJ _ _ hJ'
     repeat' (
      conv=>whnf
      first
      |((with_reducible apply BM);(rfl);(rfl);(exact wA);(exact wA))
      |((with_reducible apply Ew);(rfl);(rfl);(first|exact Dx _|omega);(exact wA)))
     all_goals (conv=>whnf)
     refine A4 (j + 1,x &&& (x - 1),[o0,o1,o2,o3,o4,o5,o6,o7]) Bn rfl ?_ ⟨HF hx,hpred.trans hjt,hJ',hjl⟩
     show (Aa (x &&& (x - 1))).length < (i :: t).length
     rw [hpred];simp
    ·all_goals (conv=>whnf)
     exact Ac ⟨H',_,rfl,hl',hin',rfl,hQ'⟩
   ·exact absurd h (by omega)
 ·intro r H' hq
  obtain ⟨Hc,Y,rfl,hl,hino,rfl,hq⟩:=A2 hq
  refine ⟨Hc ++ Y,.tuple [],8,.refl _,.refl _,Nat.le_refl _,by simp;omega,rfl,?_,?_⟩
  ·rw [← hl,List.take_left];rw [hl];exact hino
  ·rw [← hl,List.take_left];exact hq
theorem WD (s : Nat) (hs : Ax s) (g : Nat) (hg : g < 8) {H0 : List Ob} (lp : Ob) (pre0 : List Ob) (hH : H0 = pre0 ++ [lp]) (J : Nat → List Ob → Prop) (Q : D → List Ob → Prop)
  (hJ : ∀ k X,J k X → X.length + 1 = 8 ∧ ∀ o ∈ X,As 8 o = true) (hlp : As 8 lp = true)
  (hyl : ∀ k p X,J k X → (Aa s)[k]? = some p → YC Tryz.prog g [iD p] (X ++ [lp]) (fun r H'=>Bz ((r = .bool true ∧ ∃ X',H' = X' ++ [lp] ∧ J (k + 1) X') ∨ (r = .bool false ∧ H'.length = 8 ∧ (∀ o ∈ H',As 8 o = true) ∧ Q (.tuple []) H'))))
  (hend : ∀ X,J (Aa s).length X → Q (.tuple []) (X ++ [lp])) (h0 : J 0 pre0) :
  HC Tryz.prog 90 [sD s,.yld g] H0 Q:=by
 have hin : ∀ k X,J k X → (X ++ [lp]).length = 8 ∧ ∀ o ∈ X ++ [lp],As 8 o = true:=by
  intro k X h
  obtain ⟨h1,h2⟩:=hJ k X h
  refine ⟨by simp;omega,fun o ho=>?_⟩
  rcases List.mem_append.1 ho with ho|ho
  ·exact h2 o ho
  ·simp at ho;subst ho;exact hlp
 refine Xi s hs g hg (fun k H=>∃ X,H = X ++ [lp] ∧ J k X) Q (fun k H h=>?_) (fun k p H h hp=>?_) (fun H h=>?_) H0 ⟨pre0,hH,h0⟩
 ·obtain ⟨X,rfl,hj⟩:=h
  obtain ⟨h1,h2⟩:=hin k X hj
  obtain ⟨o0,o1,o2,o3,o4,o5,o6,o7,h3⟩:=Aca h1
  exact ⟨o0,o1,o2,o3,o4,o5,o6,o7,h3,h2⟩
 ·obtain ⟨X,rfl,hj⟩:=h
  refine YC.mono (hyl k p X hj hp) fun r H' hq=>?_
  rcases A2 hq with ⟨h1,X',rfl,h3⟩|⟨h1,h2,h3,h4⟩
  ·obtain ⟨h4,h5⟩:=hin _ _ h3
   exact Ac ⟨h4,h5,.inl ⟨h1,X',rfl,h3⟩⟩
  ·exact Ac ⟨h2,h3,.inr ⟨h1,h4⟩⟩
 ·obtain ⟨X,rfl,hj⟩:=h
  exact hend X hj
theorem Ada {α : Type} {l : List α} (h : l.length = 9) : ∃ o0 o1 o2 o3 o4 o5 o6 o7 o8,l = [o0,o1,o2,o3,o4,o5,o6,o7,o8]:=by
 match l,h with
 |[o0,o1,o2,o3,o4,o5,o6,o7,o8],_=>exact ⟨o0,o1,o2,o3,o4,o5,o6,o7,o8,rfl⟩
theorem X6 (s : Nat) (hs : Ax s) (g : Nat) (hg : g < 9) (J : Nat → List Ob → Prop) (Q : D → List Ob → Prop)
  (hJ : ∀ k H,J k H → ∃ o0 o1 o2 o3 o4 o5 o6 o7 o8,H = [o0,o1,o2,o3,o4,o5,o6,o7,o8] ∧ ∀ o ∈ H,As 9 o = true)
  (hyl : ∀ k p H,J k H → (Aa s)[k]? = some p → YC Tryz.prog g [iD p] H (fun r H'=>Bz (H'.length = 9 ∧ (∀ o ∈ H',As 9 o = true) ∧ ((r = .bool true ∧ J (k + 1) H') ∨ (r = .bool false ∧ Q (.tuple []) H')))))
  (hend : ∀ H,J (Aa s).length H → Q (.tuple []) H) (H0 : List Ob) (h0 : J 0 H0) :
  HC Tryz.prog 90 [sD s,.yld g] H0 Q:=by
 obtain ⟨o0,o1,o2,o3,o4,o5,o6,o7,o8,rfl,hin⟩:=hJ 0 H0 h0
 refine HC.view (Q0:=fun r H'=>Bz (∃ Hc Y,H' = Hc ++ Y ∧ Hc.length = 9 ∧ (∀ o ∈ Hc,As 9 o = true) ∧ r = .tuple [] ∧ Q r Hc)) ?_ ?_
 ·refine Ai (okc Tryz.f90.ntmps 9) (fn:=Tryz.f90) (cd:=_) rfl rfl rfl rfl rfl rfl (fun hbd=>?_)
  all_goals (conv=>whnf)
  refine Bt (X:=Nat × Nat × List Ob) (fun x=>[(1,.yld g),(4,sD x.2.1)]) (fun x=>x.2.2) (fun x=>Ax x.2.1 ∧ Aa x.2.1 = (Aa s).drop x.1 ∧ J x.1 x.2.2 ∧ x.1 ≤ (Aa s).length) (fun x=>(Aa x.2.1).length) ⟨_,A4 (0,s,[o0,o1,o2,o3,o4,o5,o6,o7,o8]) Bn rfl (Nat.lt_succ_self _) ⟨hs,rfl,h0,Nat.zero_le _⟩⟩ ?_
  rintro ⟨j,x,Hc⟩ ⟨hx,hb,hj,hjle⟩
  dsimp only at hx hb hj hjle ⊢
  clear hin h0
  obtain ⟨o0,o1,o2,o3,o4,o5,o6,o7,o8,rfl,hin⟩:=hJ _ _ hj
  cases hbx : Aa x with
  |nil =>
   have hx0:=DE hx hbx
   subst hx0
   conv=>whnf
   rw [hbx] at hb
   have hjl : j = (Aa s).length:=by
    have:=congrArg List.length hb
    rw [List.length_drop] at this
    simp only [List.length_nil] at this
    omega
   exact Ac ⟨[o0,o1,o2,o3,o4,o5,o6,o7,o8],[],rfl,rfl,hin,rfl,hend _ (hjl ▸ hj)⟩
  |cons i t =>
   obtain ⟨hi,hlow,hpred,hi64⟩:=Dv hbx
   have hx1 : 1 ≤ x:=by
    rcases Nat.eq_zero_or_pos x with e|e
    ·rw [e] at hi;simp at hi
    ·exact e
   have hjl : j < (Aa s).length:=by
    have:=congrArg List.length hb
    rw [hbx,List.length_drop] at this
    simp only [List.length_cons] at this
    omega
   rw [hbx] at hb
   have hji : (Aa s)[j]? = some i:=by
    have:=congrArg (fun l=>l[0]?) hb
    simpa [List.getElem?_drop] using this.symm
   have hjt : t = (Aa s).drop (j + 1):=by
    have:=congrArg List.tail hb
    simpa using this
   repeat' (
    conv=>whnf
    first
    |refine D4 (fun h=>?_) (fun h=>?_)
    |((with_reducible refine Aw ?_);refine Bd (K5 x i hx hi hlow) ?_)
    |refine BW ?_)
   all_goals (conv=>whnf)
   ·refine FQ (Hc:=[o0,o1,o2,o3,o4,o5,o6,o7,o8]) (Y:=[]) (Y1:=[]) (hyl j i _ hj hji) hg (.refl _) hin (Dj _ _) rfl ?_
    intro r H' hq
    obtain ⟨hl',hin',hcase⟩:=A2 hq
    refine ⟨hl',hin',by rcases hcase with ⟨rfl,_⟩|⟨rfl,_⟩ <;> rfl,?_⟩
    rcases hcase with ⟨rfl,hJ'⟩|⟨rfl,hQ'⟩
    ·clear hin hj
     obtain ⟨o0,o1,o2,o3,o4,o5,o6,o7,o8,rfl,hin⟩:=hJ _ _ hJ'
     repeat' (
      conv=>whnf
      first
      |((with_reducible apply BM);(rfl);(rfl);(exact wA);(exact wA))
      |((with_reducible apply Ew);(rfl);(rfl);(first|exact Dx _|omega);(exact wA)))
     all_goals (conv=>whnf)
     refine A4 (j + 1,x &&& (x - 1),[o0,o1,o2,o3,o4,o5,o6,o7,o8]) Bn rfl ?_ ⟨HF hx,hpred.trans hjt,hJ',hjl⟩
     show (Aa (x &&& (x - 1))).length < (i :: t).length
     rw [hpred];simp
    ·all_goals (conv=>whnf)
     exact Ac ⟨H',_,rfl,hl',hin',rfl,hQ'⟩
   ·exact absurd h (by omega)
 ·intro r H' hq
  obtain ⟨Hc,Y,rfl,hl,hino,rfl,hq⟩:=A2 hq
  refine ⟨Hc ++ Y,.tuple [],9,.refl _,.refl _,Nat.le_refl _,by simp;omega,rfl,?_,?_⟩
  ·rw [← hl,List.take_left];rw [hl];exact hino
  ·rw [← hl,List.take_left];exact hq
theorem Lt (s : Nat) (hs : Ax s) (g : Nat) (hg : g < 9) {H0 : List Ob} (lp : Ob) (pre0 : List Ob) (hH : H0 = pre0 ++ [lp]) (J : Nat → List Ob → Prop) (Q : D → List Ob → Prop)
  (hJ : ∀ k X,J k X → X.length + 1 = 9 ∧ ∀ o ∈ X,As 9 o = true) (hlp : As 9 lp = true)
  (hyl : ∀ k p X,J k X → (Aa s)[k]? = some p → YC Tryz.prog g [iD p] (X ++ [lp]) (fun r H'=>Bz ((r = .bool true ∧ ∃ X',H' = X' ++ [lp] ∧ J (k + 1) X') ∨ (r = .bool false ∧ H'.length = 9 ∧ (∀ o ∈ H',As 9 o = true) ∧ Q (.tuple []) H'))))
  (hend : ∀ X,J (Aa s).length X → Q (.tuple []) (X ++ [lp])) (h0 : J 0 pre0) :
  HC Tryz.prog 90 [sD s,.yld g] H0 Q:=by
 have hin : ∀ k X,J k X → (X ++ [lp]).length = 9 ∧ ∀ o ∈ X ++ [lp],As 9 o = true:=by
  intro k X h
  obtain ⟨h1,h2⟩:=hJ k X h
  refine ⟨by simp;omega,fun o ho=>?_⟩
  rcases List.mem_append.1 ho with ho|ho
  ·exact h2 o ho
  ·simp at ho;subst ho;exact hlp
 refine X6 s hs g hg (fun k H=>∃ X,H = X ++ [lp] ∧ J k X) Q (fun k H h=>?_) (fun k p H h hp=>?_) (fun H h=>?_) H0 ⟨pre0,hH,h0⟩
 ·obtain ⟨X,rfl,hj⟩:=h
  obtain ⟨h1,h2⟩:=hin k X hj
  obtain ⟨o0,o1,o2,o3,o4,o5,o6,o7,o8,h3⟩:=Ada h1
  exact ⟨o0,o1,o2,o3,o4,o5,o6,o7,o8,h3,h2⟩
 ·obtain ⟨X,rfl,hj⟩:=h
  refine YC.mono (hyl k p X hj hp) fun r H' hq=>?_
  rcases A2 hq with ⟨h1,X',rfl,h3⟩|⟨h1,h2,h3,h4⟩
  ·obtain ⟨h4,h5⟩:=hin _ _ h3
   exact Ac ⟨h4,h5,.inl ⟨h1,X',rfl,h3⟩⟩
  ·exact Ac ⟨h2,h3,.inr ⟨h1,h4⟩⟩
 ·obtain ⟨X,rfl,hj⟩:=h
  exact hend X hj
theorem Aa2 {α : Type} {l : List α} (h : l.length = 10) : ∃ o0 o1 o2 o3 o4 o5 o6 o7 o8 o9,l = [o0,o1,o2,o3,o4,o5,o6,o7,o8,o9]:=by
 match l,h with
 |[o0,o1,o2,o3,o4,o5,o6,o7,o8,o9],_=>exact ⟨o0,o1,o2,o3,o4,o5,o6,o7,o8,o9,rfl⟩
theorem Xb (s : Nat) (hs : Ax s) (g : Nat) (hg : g < 10) (J : Nat → List Ob → Prop) (Q : D → List Ob → Prop)
  (hJ : ∀ k H,J k H → ∃ o0 o1 o2 o3 o4 o5 o6 o7 o8 o9,H = [o0,o1,o2,o3,o4,o5,o6,o7,o8,o9] ∧ ∀ o ∈ H,As 10 o = true)
  (hyl : ∀ k p H,J k H → (Aa s)[k]? = some p → YC Tryz.prog g [iD p] H (fun r H'=>Bz (H'.length = 10 ∧ (∀ o ∈ H',As 10 o = true) ∧ ((r = .bool true ∧ J (k + 1) H') ∨ (r = .bool false ∧ Q (.tuple []) H')))))
  (hend : ∀ H,J (Aa s).length H → Q (.tuple []) H) (H0 : List Ob) (h0 : J 0 H0) :
  HC Tryz.prog 90 [sD s,.yld g] H0 Q:=by
 obtain ⟨o0,o1,o2,o3,o4,o5,o6,o7,o8,o9,rfl,hin⟩:=hJ 0 H0 h0
 refine HC.view (Q0:=fun r H'=>Bz (∃ Hc Y,H' = Hc ++ Y ∧ Hc.length = 10 ∧ (∀ o ∈ Hc,As 10 o = true) ∧ r = .tuple [] ∧ Q r Hc)) ?_ ?_
 ·refine Ai (okc Tryz.f90.ntmps 10) (fn:=Tryz.f90) (cd:=_) rfl rfl rfl rfl rfl rfl (fun hbd=>?_)
  all_goals (conv=>whnf)
  refine Bt (X:=Nat × Nat × List Ob) (fun x=>[(1,.yld g),(4,sD x.2.1)]) (fun x=>x.2.2) (fun x=>Ax x.2.1 ∧ Aa x.2.1 = (Aa s).drop x.1 ∧ J x.1 x.2.2 ∧ x.1 ≤ (Aa s).length) (fun x=>(Aa x.2.1).length) ⟨_,A4 (0,s,[o0,o1,o2,o3,o4,o5,o6,o7,o8,o9]) Bn rfl (Nat.lt_succ_self _) ⟨hs,rfl,h0,Nat.zero_le _⟩⟩ ?_
  rintro ⟨j,x,Hc⟩ ⟨hx,hb,hj,hjle⟩
  dsimp only at hx hb hj hjle ⊢
  clear hin h0
  obtain ⟨o0,o1,o2,o3,o4,o5,o6,o7,o8,o9,rfl,hin⟩:=hJ _ _ hj
  cases hbx : Aa x with
  |nil =>
   have hx0:=DE hx hbx
   subst hx0
   conv=>whnf
   rw [hbx] at hb
   have hjl : j = (Aa s).length:=by
    have:=congrArg List.length hb
    rw [List.length_drop] at this
    simp only [List.length_nil] at this
    omega
   exact Ac ⟨[o0,o1,o2,o3,o4,o5,o6,o7,o8,o9],[],rfl,rfl,hin,rfl,hend _ (hjl ▸ hj)⟩
  |cons i t =>
   obtain ⟨hi,hlow,hpred,hi64⟩:=Dv hbx
   have hx1 : 1 ≤ x:=by
    rcases Nat.eq_zero_or_pos x with e|e
    ·rw [e] at hi;simp at hi
    ·exact e
   have hjl : j < (Aa s).length:=by
    have:=congrArg List.length hb
    rw [hbx,List.length_drop] at this
    simp only [List.length_cons] at this
    omega
   rw [hbx] at hb
   have hji : (Aa s)[j]? = some i:=by
    have:=congrArg (fun l=>l[0]?) hb
    simpa [List.getElem?_drop] using this.symm
   have hjt : t = (Aa s).drop (j + 1):=by
    have:=congrArg List.tail hb
    simpa using this
   repeat' (
    conv=>whnf
    first
    |refine D4 (fun h=>?_) (fun h=>?_)
    |((with_reducible refine Aw ?_);refine Bd (K5 x i hx hi hlow) ?_)
    |refine BW ?_)
   all_goals (conv=>whnf)
   ·refine FQ (Hc:=[o0,o1,o2,o3,o4,o5,o6,o7,o8,o9]) (Y:=[]) (Y1:=[]) (hyl j i _ hj hji) hg (.refl _) hin (Dj _ _) rfl ?_
    intro r H' hq
    obtain ⟨hl',hin',hcase⟩:=A2 hq
    refine ⟨hl',hin',by rcases hcase with ⟨rfl,_⟩|⟨rfl,_⟩ <;> rfl,?_⟩
    rcases hcase with ⟨rfl,hJ'⟩|⟨rfl,hQ'⟩
    ·clear hin hj
     obtain ⟨o0,o1,o2,o3,o4,o5,o6,o7,o8,o9,rfl,hin⟩:=hJ _ _ hJ'
     repeat' (
      conv=>whnf
      first
      |((with_reducible apply BM);(rfl);(rfl);(exact wA);(exact wA))
      |((with_reducible apply Ew);(rfl);(rfl);(first|exact Dx _|omega);(exact wA)))
     all_goals (conv=>whnf)
     refine A4 (j + 1,x &&& (x - 1),[o0,o1,o2,o3,o4,o5,o6,o7,o8,o9]) Bn rfl ?_ ⟨HF hx,hpred.trans hjt,hJ',hjl⟩
     show (Aa (x &&& (x - 1))).length < (i :: t).length
     rw [hpred];simp
    ·all_goals (conv=>whnf)
     exact Ac ⟨H',_,rfl,hl',hin',rfl,hQ'⟩
   ·exact absurd h (by omega)
 ·intro r H' hq
  obtain ⟨Hc,Y,rfl,hl,hino,rfl,hq⟩:=A2 hq
  refine ⟨Hc ++ Y,.tuple [],10,.refl _,.refl _,Nat.le_refl _,by simp;omega,rfl,?_,?_⟩
  ·rw [← hl,List.take_left];rw [hl];exact hino
  ·rw [← hl,List.take_left];exact hq
theorem IG (s : Nat) (hs : Ax s) (g : Nat) (hg : g < 10) {H0 : List Ob} (lp : Ob) (pre0 : List Ob) (hH : H0 = pre0 ++ [lp]) (J : Nat → List Ob → Prop) (Q : D → List Ob → Prop)
  (hJ : ∀ k X,J k X → X.length + 1 = 10 ∧ ∀ o ∈ X,As 10 o = true) (hlp : As 10 lp = true)
  (hyl : ∀ k p X,J k X → (Aa s)[k]? = some p → YC Tryz.prog g [iD p] (X ++ [lp]) (fun r H'=>Bz ((r = .bool true ∧ ∃ X',H' = X' ++ [lp] ∧ J (k + 1) X') ∨ (r = .bool false ∧ H'.length = 10 ∧ (∀ o ∈ H',As 10 o = true) ∧ Q (.tuple []) H'))))
  (hend : ∀ X,J (Aa s).length X → Q (.tuple []) (X ++ [lp])) (h0 : J 0 pre0) :
  HC Tryz.prog 90 [sD s,.yld g] H0 Q:=by
 have hin : ∀ k X,J k X → (X ++ [lp]).length = 10 ∧ ∀ o ∈ X ++ [lp],As 10 o = true:=by
  intro k X h
  obtain ⟨h1,h2⟩:=hJ k X h
  refine ⟨by simp;omega,fun o ho=>?_⟩
  rcases List.mem_append.1 ho with ho|ho
  ·exact h2 o ho
  ·simp at ho;subst ho;exact hlp
 refine Xb s hs g hg (fun k H=>∃ X,H = X ++ [lp] ∧ J k X) Q (fun k H h=>?_) (fun k p H h hp=>?_) (fun H h=>?_) H0 ⟨pre0,hH,h0⟩
 ·obtain ⟨X,rfl,hj⟩:=h
  obtain ⟨h1,h2⟩:=hin k X hj
  obtain ⟨o0,o1,o2,o3,o4,o5,o6,o7,o8,o9,h3⟩:=Aa2 h1
  exact ⟨o0,o1,o2,o3,o4,o5,o6,o7,o8,o9,h3,h2⟩
 ·obtain ⟨X,rfl,hj⟩:=h
  refine YC.mono (hyl k p X hj hp) fun r H' hq=>?_
  rcases A2 hq with ⟨h1,X',rfl,h3⟩|⟨h1,h2,h3,h4⟩
  ·obtain ⟨h4,h5⟩:=hin _ _ h3
   exact Ac ⟨h4,h5,.inl ⟨h1,X',rfl,h3⟩⟩
  ·exact Ac ⟨h2,h3,.inr ⟨h1,h4⟩⟩
 ·obtain ⟨X,rfl,hj⟩:=h
  exact hend X hj
theorem AaQ {α : Type} {l : List α} (h : l.length = 11) : ∃ o0 o1 o2 o3 o4 o5 o6 o7 o8 o9 o10,l = [o0,o1,o2,o3,o4,o5,o6,o7,o8,o9,o10]:=by
 match l,h with
 |[o0,o1,o2,o3,o4,o5,o6,o7,o8,o9,o10],_=>exact ⟨o0,o1,o2,o3,o4,o5,o6,o7,o8,o9,o10,rfl⟩
theorem WM (s : Nat) (hs : Ax s) (g : Nat) (hg : g < 11) (J : Nat → List Ob → Prop) (Q : D → List Ob → Prop)
  (hJ : ∀ k H,J k H → ∃ o0 o1 o2 o3 o4 o5 o6 o7 o8 o9 o10,H = [o0,o1,o2,o3,o4,o5,o6,o7,o8,o9,o10] ∧ ∀ o ∈ H,As 11 o = true)
  (hyl : ∀ k p H,J k H → (Aa s)[k]? = some p → YC Tryz.prog g [iD p] H (fun r H'=>Bz (H'.length = 11 ∧ (∀ o ∈ H',As 11 o = true) ∧ ((r = .bool true ∧ J (k + 1) H') ∨ (r = .bool false ∧ Q (.tuple []) H')))))
  (hend : ∀ H,J (Aa s).length H → Q (.tuple []) H) (H0 : List Ob) (h0 : J 0 H0) :
  HC Tryz.prog 90 [sD s,.yld g] H0 Q:=by
 obtain ⟨o0,o1,o2,o3,o4,o5,o6,o7,o8,o9,o10,rfl,hin⟩:=hJ 0 H0 h0
 refine HC.view (Q0:=fun r H'=>Bz (∃ Hc Y,H' = Hc ++ Y ∧ Hc.length = 11 ∧ (∀ o ∈ Hc,As 11 o = true) ∧ r = .tuple [] ∧ Q r Hc)) ?_ ?_
 ·refine Ai (okc Tryz.f90.ntmps 11) (fn:=Tryz.f90) (cd:=_) rfl rfl rfl rfl rfl rfl (fun hbd=>?_)
  all_goals (conv=>whnf)
  refine Bt (X:=Nat × Nat × List Ob) (fun x=>[(1,.yld g),(4,sD x.2.1)]) (fun x=>x.2.2) (fun x=>Ax x.2.1 ∧ Aa x.2.1 = (Aa s).drop x.1 ∧ J x.1 x.2.2 ∧ x.1 ≤ (Aa s).length) (fun x=>(Aa x.2.1).length) ⟨_,A4 (0,s,[o0,o1,o2,o3,o4,o5,o6,o7,o8,o9,o10]) Bn rfl (Nat.lt_succ_self _) ⟨hs,rfl,h0,Nat.zero_le _⟩⟩ ?_
  rintro ⟨j,x,Hc⟩ ⟨hx,hb,hj,hjle⟩
  dsimp only at hx hb hj hjle ⊢
  clear hin h0
  obtain ⟨o0,o1,o2,o3,o4,o5,o6,o7,o8,o9,o10,rfl,hin⟩:=hJ _ _ hj
  cases hbx : Aa x with
  |nil =>
   have hx0:=DE hx hbx
   subst hx0
   conv=>whnf
   rw [hbx] at hb
   have hjl : j = (Aa s).length:=by
    have:=congrArg List.length hb
    rw [List.length_drop] at this
    simp only [List.length_nil] at this
    omega
   exact Ac ⟨[o0,o1,o2,o3,o4,o5,o6,o7,o8,o9,o10],[],rfl,rfl,hin,rfl,hend _ (hjl ▸ hj)⟩
  |cons i t =>
   obtain ⟨hi,hlow,hpred,hi64⟩:=Dv hbx
   have hx1 : 1 ≤ x:=by
    rcases Nat.eq_zero_or_pos x with e|e
    ·rw [e] at hi;simp at hi
    ·exact e
   have hjl : j < (Aa s).length:=by
    have:=congrArg List.length hb
    rw [hbx,List.length_drop] at this
    simp only [List.length_cons] at this
    omega
   rw [hbx] at hb
   have hji : (Aa s)[j]? = some i:=by
    have:=congrArg (fun l=>l[0]?) hb
    simpa [List.getElem?_drop] using this.symm
   have hjt : t = (Aa s).drop (j + 1):=by
    have:=congrArg List.tail hb
    simpa using this
   repeat' (
    conv=>whnf
    first
    |refine D4 (fun h=>?_) (fun h=>?_)
    |((with_reducible refine Aw ?_);refine Bd (K5 x i hx hi hlow) ?_)
    |refine BW ?_)
   all_goals (conv=>whnf)
   ·refine FQ (Hc:=[o0,o1,o2,o3,o4,o5,o6,o7,o8,o9,o10]) (Y:=[]) (Y1:=[]) (hyl j i _ hj hji) hg (.refl _) hin (Dj _ _) rfl ?_
    intro r H' hq
    obtain ⟨hl',hin',hcase⟩:=A2 hq
    refine ⟨hl',hin',by rcases hcase with ⟨rfl,_⟩|⟨rfl,_⟩ <;> rfl,?_⟩
    rcases hcase with ⟨rfl,hJ'⟩|⟨rfl,hQ'⟩
    ·clear hin hj
     obtain ⟨o0,o1,o2,o3,o4,o5,o6,o7,o8,o9,o10,rfl,hin⟩:=hJ _ _ hJ'
     repeat' (
      conv=>whnf
      first
      |((with_reducible apply BM);(rfl);(rfl);(exact wA);(exact wA))
      |((with_reducible apply Ew);(rfl);(rfl);(first|exact Dx _|omega);(exact wA)))
     all_goals (conv=>whnf)
     refine A4 (j + 1,x &&& (x - 1),[o0,o1,o2,o3,o4,o5,o6,o7,o8,o9,o10]) Bn rfl ?_ ⟨HF hx,hpred.trans hjt,hJ',hjl⟩
     show (Aa (x &&& (x - 1))).length < (i :: t).length
     rw [hpred];simp
    ·all_goals (conv=>whnf)
     exact Ac ⟨H',_,rfl,hl',hin',rfl,hQ'⟩
   ·exact absurd h (by omega)
 ·intro r H' hq
  obtain ⟨Hc,Y,rfl,hl,hino,rfl,hq⟩:=A2 hq
  refine ⟨Hc ++ Y,.tuple [],11,.refl _,.refl _,Nat.le_refl _,by simp;omega,rfl,?_,?_⟩
  ·rw [← hl,List.take_left];rw [hl];exact hino
  ·rw [← hl,List.take_left];exact hq
theorem I4 (s : Nat) (hs : Ax s) (g : Nat) (hg : g < 11) {H0 : List Ob} (lp : Ob) (pre0 : List Ob) (hH : H0 = pre0 ++ [lp]) (J : Nat → List Ob → Prop) (Q : D → List Ob → Prop)
  (hJ : ∀ k X,J k X → X.length + 1 = 11 ∧ ∀ o ∈ X,As 11 o = true) (hlp : As 11 lp = true)
  (hyl : ∀ k p X,J k X → (Aa s)[k]? = some p → YC Tryz.prog g [iD p] (X ++ [lp]) (fun r H'=>Bz ((r = .bool true ∧ ∃ X',H' = X' ++ [lp] ∧ J (k + 1) X') ∨ (r = .bool false ∧ H'.length = 11 ∧ (∀ o ∈ H',As 11 o = true) ∧ Q (.tuple []) H'))))
  (hend : ∀ X,J (Aa s).length X → Q (.tuple []) (X ++ [lp])) (h0 : J 0 pre0) :
  HC Tryz.prog 90 [sD s,.yld g] H0 Q:=by
 have hin : ∀ k X,J k X → (X ++ [lp]).length = 11 ∧ ∀ o ∈ X ++ [lp],As 11 o = true:=by
  intro k X h
  obtain ⟨h1,h2⟩:=hJ k X h
  refine ⟨by simp;omega,fun o ho=>?_⟩
  rcases List.mem_append.1 ho with ho|ho
  ·exact h2 o ho
  ·simp at ho;subst ho;exact hlp
 refine WM s hs g hg (fun k H=>∃ X,H = X ++ [lp] ∧ J k X) Q (fun k H h=>?_) (fun k p H h hp=>?_) (fun H h=>?_) H0 ⟨pre0,hH,h0⟩
 ·obtain ⟨X,rfl,hj⟩:=h
  obtain ⟨h1,h2⟩:=hin k X hj
  obtain ⟨o0,o1,o2,o3,o4,o5,o6,o7,o8,o9,o10,h3⟩:=AaQ h1
  exact ⟨o0,o1,o2,o3,o4,o5,o6,o7,o8,o9,o10,h3,h2⟩
 ·obtain ⟨X,rfl,hj⟩:=h
  refine YC.mono (hyl k p X hj hp) fun r H' hq=>?_
  rcases A2 hq with ⟨h1,X',rfl,h3⟩|⟨h1,h2,h3,h4⟩
  ·obtain ⟨h4,h5⟩:=hin _ _ h3
   exact Ac ⟨h4,h5,.inl ⟨h1,X',rfl,h3⟩⟩
  ·exact Ac ⟨h2,h3,.inr ⟨h1,h4⟩⟩
 ·obtain ⟨X,rfl,hj⟩:=h
  exact hend X hj
theorem Zo {α : Type} {l : List α} (h : l.length = 12) : ∃ o0 o1 o2 o3 o4 o5 o6 o7 o8 o9 o10 o11,l = [o0,o1,o2,o3,o4,o5,o6,o7,o8,o9,o10,o11]:=by
 match l,h with
 |[o0,o1,o2,o3,o4,o5,o6,o7,o8,o9,o10,o11],_=>exact ⟨o0,o1,o2,o3,o4,o5,o6,o7,o8,o9,o10,o11,rfl⟩
theorem Wj (s : Nat) (hs : Ax s) (g : Nat) (hg : g < 12) (J : Nat → List Ob → Prop) (Q : D → List Ob → Prop)
  (hJ : ∀ k H,J k H → ∃ o0 o1 o2 o3 o4 o5 o6 o7 o8 o9 o10 o11,H = [o0,o1,o2,o3,o4,o5,o6,o7,o8,o9,o10,o11] ∧ ∀ o ∈ H,As 12 o = true)
  (hyl : ∀ k p H,J k H → (Aa s)[k]? = some p → YC Tryz.prog g [iD p] H (fun r H'=>Bz (H'.length = 12 ∧ (∀ o ∈ H',As 12 o = true) ∧ ((r = .bool true ∧ J (k + 1) H') ∨ (r = .bool false ∧ Q (.tuple []) H')))))
  (hend : ∀ H,J (Aa s).length H → Q (.tuple []) H) (H0 : List Ob) (h0 : J 0 H0) :
  HC Tryz.prog 90 [sD s,.yld g] H0 Q:=by
 obtain ⟨o0,o1,o2,o3,o4,o5,o6,o7,o8,o9,o10,o11,rfl,hin⟩:=hJ 0 H0 h0
 refine HC.view (Q0:=fun r H'=>Bz (∃ Hc Y,H' = Hc ++ Y ∧ Hc.length = 12 ∧ (∀ o ∈ Hc,As 12 o = true) ∧ r = .tuple [] ∧ Q r Hc)) ?_ ?_
 ·refine Ai (okc Tryz.f90.ntmps 12) (fn:=Tryz.f90) (cd:=_) rfl rfl rfl rfl rfl rfl (fun hbd=>?_)
  all_goals (conv=>whnf)
  refine Bt (X:=Nat × Nat × List Ob) (fun x=>[(1,.yld g),(4,sD x.2.1)]) (fun x=>x.2.2) (fun x=>Ax x.2.1 ∧ Aa x.2.1 = (Aa s).drop x.1 ∧ J x.1 x.2.2 ∧ x.1 ≤ (Aa s).length) (fun x=>(Aa x.2.1).length) ⟨_,A4 (0,s,[o0,o1,o2,o3,o4,o5,o6,o7,o8,o9,o10,o11]) Bn rfl (Nat.lt_succ_self _) ⟨hs,rfl,h0,Nat.zero_le _⟩⟩ ?_
  rintro ⟨j,x,Hc⟩ ⟨hx,hb,hj,hjle⟩
  dsimp only at hx hb hj hjle ⊢
  clear hin h0
  obtain ⟨o0,o1,o2,o3,o4,o5,o6,o7,o8,o9,o10,o11,rfl,hin⟩:=hJ _ _ hj
  cases hbx : Aa x with
  |nil =>
   have hx0:=DE hx hbx
   subst hx0
   conv=>whnf
   rw [hbx] at hb
   have hjl : j = (Aa s).length:=by
    have:=congrArg List.length hb
    rw [List.length_drop] at this
    simp only [List.length_nil] at this
    omega
   exact Ac ⟨[o0,o1,o2,o3,o4,o5,o6,o7,o8,o9,o10,o11],[],rfl,rfl,hin,rfl,hend _ (hjl ▸ hj)⟩
  |cons i t =>
   obtain ⟨hi,hlow,hpred,hi64⟩:=Dv hbx
   have hx1 : 1 ≤ x:=by
    rcases Nat.eq_zero_or_pos x with e|e
    ·rw [e] at hi;simp at hi
    ·exact e
   have hjl : j < (Aa s).length:=by
    have:=congrArg List.length hb
    rw [hbx,List.length_drop] at this
    simp only [List.length_cons] at this
    omega
   rw [hbx] at hb
   have hji : (Aa s)[j]? = some i:=by
    have:=congrArg (fun l=>l[0]?) hb
    simpa [List.getElem?_drop] using this.symm
   have hjt : t = (Aa s).drop (j + 1):=by
    have:=congrArg List.tail hb
    simpa using this
   repeat' (
    conv=>whnf
    first
    |refine D4 (fun h=>?_) (fun h=>?_)
    |((with_reducible refine Aw ?_);refine Bd (K5 x i hx hi hlow) ?_)
    |refine BW ?_)
   all_goals (conv=>whnf)
   ·refine FQ (Hc:=[o0,o1,o2,o3,o4,o5,o6,o7,o8,o9,o10,o11]) (Y:=[]) (Y1:=[]) (hyl j i _ hj hji) hg (.refl _) hin (Dj _ _) rfl ?_
    intro r H' hq
    obtain ⟨hl',hin',hcase⟩:=A2 hq
    refine ⟨hl',hin',by rcases hcase with ⟨rfl,_⟩|⟨rfl,_⟩ <;> rfl,?_⟩
    rcases hcase with ⟨rfl,hJ'⟩|⟨rfl,hQ'⟩
    ·clear hin hj
     obtain ⟨o0,o1,o2,o3,o4,o5,o6,o7,o8,o9,o10,o11,rfl,hin⟩:=hJ _ _ hJ'
     repeat' (
      conv=>whnf
      first
      |((with_reducible apply BM);(rfl);(rfl);(exact wA);(exact wA))
      |((with_reducible apply Ew);(rfl);(rfl);(first|exact Dx _|omega);(exact wA)))
     all_goals (conv=>whnf)
     refine A4 (j + 1,x &&& (x - 1),[o0,o1,o2,o3,o4,o5,o6,o7,o8,o9,o10,o11]) Bn rfl ?_ ⟨HF hx,hpred.trans hjt,hJ',hjl⟩
     show (Aa (x &&& (x - 1))).length < (i :: t).length
     rw [hpred];simp
    ·all_goals (conv=>whnf)
     exact Ac ⟨H',_,rfl,hl',hin',rfl,hQ'⟩
   ·exact absurd h (by omega)
 ·intro r H' hq
  obtain ⟨Hc,Y,rfl,hl,hino,rfl,hq⟩:=A2 hq
  refine ⟨Hc ++ Y,.tuple [],12,.refl _,.refl _,Nat.le_refl _,by simp;omega,rfl,?_,?_⟩
  ·rw [← hl,List.take_left];rw [hl];exact hino
  ·rw [← hl,List.take_left];exact hq
theorem GW (s : Nat) (hs : Ax s) (g : Nat) (hg : g < 12) {H0 : List Ob} (lp : Ob) (pre0 : List Ob) (hH : H0 = pre0 ++ [lp]) (J : Nat → List Ob → Prop) (Q : D → List Ob → Prop)
  (hJ : ∀ k X,J k X → X.length + 1 = 12 ∧ ∀ o ∈ X,As 12 o = true) (hlp : As 12 lp = true)
  (hyl : ∀ k p X,J k X → (Aa s)[k]? = some p → YC Tryz.prog g [iD p] (X ++ [lp]) (fun r H'=>Bz ((r = .bool true ∧ ∃ X',H' = X' ++ [lp] ∧ J (k + 1) X') ∨ (r = .bool false ∧ H'.length = 12 ∧ (∀ o ∈ H',As 12 o = true) ∧ Q (.tuple []) H'))))
  (hend : ∀ X,J (Aa s).length X → Q (.tuple []) (X ++ [lp])) (h0 : J 0 pre0) :
  HC Tryz.prog 90 [sD s,.yld g] H0 Q:=by
 have hin : ∀ k X,J k X → (X ++ [lp]).length = 12 ∧ ∀ o ∈ X ++ [lp],As 12 o = true:=by
  intro k X h
  obtain ⟨h1,h2⟩:=hJ k X h
  refine ⟨by simp;omega,fun o ho=>?_⟩
  rcases List.mem_append.1 ho with ho|ho
  ·exact h2 o ho
  ·simp at ho;subst ho;exact hlp
 refine Wj s hs g hg (fun k H=>∃ X,H = X ++ [lp] ∧ J k X) Q (fun k H h=>?_) (fun k p H h hp=>?_) (fun H h=>?_) H0 ⟨pre0,hH,h0⟩
 ·obtain ⟨X,rfl,hj⟩:=h
  obtain ⟨h1,h2⟩:=hin k X hj
  obtain ⟨o0,o1,o2,o3,o4,o5,o6,o7,o8,o9,o10,o11,h3⟩:=Zo h1
  exact ⟨o0,o1,o2,o3,o4,o5,o6,o7,o8,o9,o10,o11,h3,h2⟩
 ·obtain ⟨X,rfl,hj⟩:=h
  refine YC.mono (hyl k p X hj hp) fun r H' hq=>?_
  rcases A2 hq with ⟨h1,X',rfl,h3⟩|⟨h1,h2,h3,h4⟩
  ·obtain ⟨h4,h5⟩:=hin _ _ h3
   exact Ac ⟨h4,h5,.inl ⟨h1,X',rfl,h3⟩⟩
  ·exact Ac ⟨h2,h3,.inr ⟨h1,h4⟩⟩
 ·obtain ⟨X,rfl,hj⟩:=h
  exact hend X hj
theorem B1 {b k p : Nat} (h : (Aa b)[k]? = some p) : (Aa b).take (k + 1) = (Aa b).take k ++ [p] ∧ p ∉ (Aa b).take k:=by
 have e : (Aa b).take (k + 1) = (Aa b).take k ++ [p]:=by rw [List.take_add_one,h];rfl
 refine ⟨e,fun hm=>?_⟩
 have hnd : (Aa b).Nodup:=List.nodup_range.filter _
 have h1 : ((Aa b).take (k + 1)).Nodup:=hnd.sublist (List.take_sublist _ _)
 rw [e] at h1
 exact (List.nodup_append.1 h1).2.2 p hm p (List.mem_singleton.2 rfl) rfl
def Bf (V : Nat) (B : List Nat) (p : Nat) (S : List Nat) : List Int:=(List.range V).map fun q=>(Fw B p q : Int) + (if q ∈ S then 1 else 0)
theorem BU (V : Nat) (B : List Nat) (p : Nat) (S : List Nat) : (Bf V B p S).length = V:=by simp [Bf]
theorem JS {V : Nat} {B : List Nat} {p : Nat} {S : List Nat} {q : Nat} (h : q < V) : (Bf V B p S)[q]? = some ((Fw B p q : Int) + (if q ∈ S then 1 else 0)):=by simp [Bf,h]
theorem UM {V : Nat} {B : List Nat} {p : Nat} {S : List Nat} {q : Nat} (hq : q < V) (hn : q ∉ S) : (Bf V B p S).set q ((Fw B p q : Int) + 1) = Bf V B p (S ++ [q]):=by
 refine List.ext_getElem? fun i=>?_
 by_cases hi : i < V
 ·by_cases e : q = i
  ·subst e
   rw [List.getElem?_set_self (by rw [BU];exact hi),JS hi]
   simp
  ·rw [List.getElem?_set_ne e,JS hi,JS hi]
   simp only [List.mem_append,List.mem_singleton,Option.some.injEq]
   have : ¬ i = q:=fun h=>e h.symm
   simp [this]
 ·rw [List.getElem?_eq_none (by rw [List.length_set,BU];omega),List.getElem?_eq_none (by rw [BU];omega)]
theorem Ul {V : Nat} {B : List Nat} {k b p : Nat} (hV : V ≤ 64) (hp : p < 64) (h : B[k]? = some b) : Bf V (B.take k) p (if p ∈ Aa b then Aa b else []) = Bf V (B.take (k + 1)) p []:=by
 refine List.map_congr_left fun q hq=>?_
 have hq:=List.mem_range.1 hq
 rw [List.take_add_one,h]
 unfold Fw
 rw [List.countP_append]
 have hq64 : q < 64:=by omega
 simp only [Option.toList_some,List.countP_singleton,Ba,List.not_mem_nil,if_false,hp,true_and]
 cases hb : b.testBit p <;> cases hc : b.testBit q <;> simp [Ba,hc,hq64]
open Go
def HK (n : Nat) (B : List Nat) (k q : Nat) : List Int:=Bf n (B.take k) q []
def Cq (n : Nat) (B : List Nat) (k b j q : Nat) : List Int:=Bf n (B.take k) q (if q ∈ (Aa b).take j then Aa b else [])
def BG (n : Nat) (B : List Nat) (k b j p l q : Nat) : List Int:=if q = p then Bf n (B.take k) p ((Aa b).take l) else Cq n B k b j q
theorem CK {n : Nat} {B : List Nat} {k b q : Nat} (hn : n ≤ 64) (hq : q < 64) (h : B[k]? = some b) : Cq n B k b (Aa b).length q = HK n B (k + 1) q:=by
 unfold Cq HK
 rw [List.take_length,Ul hn hq h]
theorem Pv (n : Nat) (B : List Nat) (k b q : Nat) : Cq n B k b 0 q = HK n B k q:=by simp [Cq,HK]
theorem Ef {n : Nat} {B : List Nat} {k b j p : Nat} (hn : p ∉ (Aa b).take j) (q : Nat) : BG n B k b j p 0 q = Cq n B k b j q:=by
 unfold BG
 split
 ·rename_i h;subst h;simp [Cq,hn]
 ·rfl
theorem CL {n : Nat} {B : List Nat} {k b j p : Nat} (ht : (Aa b).take (j + 1) = (Aa b).take j ++ [p]) (q : Nat) : BG n B k b j p (Aa b).length q = Cq n B k b (j + 1) q:=by
 unfold BG
 split
 ·rename_i h;subst h;simp [Cq,ht]
 ·rename_i h;simp [Cq,ht,h]
theorem D6 {n : Nat} {B : List Nat} {k b j p l q : Nat} (hq : q < n) (hn : q ∉ (Aa b).take l) : (Ab (BG n B k b j p l p))[0 + ((q : Nat) : Int).toNat]? = some (.int .i64 (Fw (B.take k) p q : Int)):=by
 unfold BG;rw [if_pos rfl];simp [Ab,JS hq,hn]
theorem D3 (n : Nat) (B : List Nat) (k b j p l : Nat) : (Ab (BG n B k b j p l p)).length = n:=by unfold BG;rw [if_pos rfl,Aq,BU]
theorem Ed {B : List Nat} {k p q : Nat} (hl : B.length ≤ 64) : Fw (B.take k) p q ≤ 64:=by
 have h1 : Fw (B.take k) p q ≤ (B.take k).length:=List.countP_le_length
 rw [List.length_take] at h1;omega
theorem D2 {n : Nat} {B : List Nat} {k b j p l q : Nat} (ht2 : (Aa b).take (l + 1) = (Aa b).take l ++ [q]) (hq : q < n) (hn : q ∉ (Aa b).take l) : (Ab (BG n B k b j p l p)).set (0 + ((q : Nat) : Int).toNat) (.int .i64 ((Fw (B.take k) p q : Int) + 1)) = Ab (BG n B k b j p (l + 1) p):=by
 unfold BG;rw [if_pos rfl,if_pos rfl,ht2,← UM hq hn];simp [Ab,List.map_set]
abbrev z3 : List D:=Ab [0,0,0]
def Fb (f : Nat → List Int) (X : List Ob) : List Ob:=.row .leaf [.sl 2 0 3,.sl 3 0 3,.sl 4 0 3] :: .var (.sl 0 0 3) :: .row .leaf (Ab (f 0)) :: .row .leaf (Ab (f 1)) :: .row .leaf (Ab (f 2)) :: X
theorem Ih (f : Nat → List Int) (X : List Ob) (m : Nat) (hm : 5 ≤ m) (hX : X.all (As m) = true) : ∀ o ∈ Fb f X,As m o = true:=by
 intro o ho
 simp only [Fb,List.mem_cons] at ho
 rcases ho with rfl|rfl|rfl|rfl|rfl|ho
 all_goals first|exact F6 hm _ rfl|exact B9 _ _ (Ad _)|exact List.all_eq_true.1 hX o ho
theorem It {f g : Nat → List Int} (X : List Ob) (h : ∀ q,f q = g q) : Fb f X = Fb g X:=by rw [show f = g from funext h]
theorem WV (B : List Nat) (hB : Ws B) (hl : B.length ≤ 64) (hlt : ∀ b ∈ B,b < 2 ^ 3) : Aj Tryz.prog 55 [(.agg [.int .i64 (3 : Int),A5 B])] (fun r=>r = IV (GY 3 B)):=by
 have hl0:=A6 B
 refine Aj.ofV ?_
 refine Ai (okc Tryz.f55.ntmps 0) (fn:=Tryz.f55) (cd:=_) rfl rfl rfl rfl rfl rfl (fun hbd=>?_)
 repeat' (
  conv=>whnf
  first
  |((with_reducible apply ob);(exact oT)))
 all_goals (conv=>whnf)
 refine Bt (X:=Nat) (fun i=>[(1,.ptr 0 []),(2,.nils),(3,.ptr 2 []),(13,iD 3),(14,iD i)]) (fun i=>match i with|0=>[.var (.agg [.int .i64 (3 : Int),A5 B]),.row .leaf [.nils,.nils,.nils],.var (.sl 1 0 3)]|1=>[.var (.agg [.int .i64 (3 : Int),A5 B]),.row .leaf [.sl 3 0 3,.nils,.nils],.var (.sl 1 0 3),.row .leaf z3]|2=>[.var (.agg [.int .i64 (3 : Int),A5 B]),.row .leaf [.sl 3 0 3,.sl 4 0 3,.nils],.var (.sl 1 0 3),.row .leaf z3,.row .leaf z3]|_=>[.var (.agg [.int .i64 (3 : Int),A5 B]),.row .leaf [.sl 3 0 3,.sl 4 0 3,.sl 5 0 3],.var (.sl 1 0 3),.row .leaf z3,.row .leaf z3,.row .leaf z3]) (fun i=>i ≤ 3) (fun i=>3 - i)
  ⟨_,A4 0 Bn rfl (Nat.lt_succ_self _) (Nat.zero_le _)⟩ ?_
 intro i hi
 have hi2 : i = 0 ∨ i = 1 ∨ i = 2 ∨ i = 3:=by omega
 rcases hi2 with rfl|rfl|rfl|rfl
 ·dsimp only
  repeat' (
   conv=>whnf
   first
   |with_reducible refine Ao ?_
   |((with_reducible apply A1 5);rfl)
   |((with_reducible apply ob);(exact oT)))
  all_goals (conv=>whnf)
  exact A4 1 Bn rfl (by omega) (by omega)
 ·dsimp only
  repeat' (
   conv=>whnf
   first
   |with_reducible refine Ao ?_
   |((with_reducible apply A1 5);rfl)
   |((with_reducible apply ob);(exact oT)))
  all_goals (conv=>whnf)
  exact A4 2 Bn rfl (by omega) (by omega)
 ·dsimp only
  repeat' (
   conv=>whnf
   first
   |with_reducible refine Ao ?_
   |((with_reducible apply A1 5);rfl)
   |((with_reducible apply ob);(exact oT)))
  all_goals (conv=>whnf)
  exact A4 3 Bn rfl (by omega) (by omega)
 ·dsimp only
  all_goals (conv=>whnf)
  refine Bt (X:=Nat) (fun k=>[(2,.nils),(3,.ptr 1 []),(25,A5 B),(26,iD B.length),(27,iD k)]) (fun k=>(Fb (HK 3 B k) [])) (fun k=>k ≤ B.length) (fun k=>B.length - k)
   ⟨_,nx (ρ:=[1,2,3,4,5]) 0 (by repeat (first|exact trivial|refine Au rfl rfl ?_|refine Au (congrArg (D.int .i64) (by rw [hl0])) rfl ?_)) (A8 rfl rfl (A8 rfl rfl (Bb rfl rfl (Ad _) (Bb rfl rfl (Ad _) (Bb rfl rfl (Ad _) trivial))))) rfl rfl (Nat.lt_succ_self _) (Nat.zero_le _)⟩ ?_
  intro k hk
  rcases Nat.lt_or_ge k B.length with hkl|hkg
  ·obtain ⟨b,hb⟩:=D5 hkl
   have hbm:=List.mem_of_getElem? hb
   have hbw : Ax b:=hB b hbm
   have hbl:=hlt b hbm
   have hbd : (Ak B)[((k : Nat) : Int).toNat]? = some (sD b):=by simp [Ak,hb]
   repeat' (
    conv=>whnf
    first
    |(with_reducible refine ⟨_,hbd,?_⟩)
    |refine Ap (fun h=>?_) (fun h=>?_)
    |((with_reducible apply ob);(exact oT)))
   all_goals (conv=>whnf)
   all_goals (first|(exfalso;omega)|skip)
   refine WC b hbw 6 (by omega) _ (Fb (HK 3 B k) [.var (sD b)]) rfl (fun j X=>X = (Fb (Cq 3 B k b j) [.var (sD b)])) _ (fun j X h=>by subst h;exact ⟨rfl,Ih _ _ _ (by decide) rfl⟩) rfl ?_ ?_ (It _ fun q=>(Pv _ _ _ _ q).symm)
   ·rintro j p X rfl hp
    obtain ⟨ht,hn⟩:=B1 hp
    have hpV : p < 3:=Bw hbl ((Ba b p).1 (List.mem_of_getElem? hp)).2
    have hpc : p = 0 ∨ p = 1 ∨ p = 2:=by omega
    rcases hpc with rfl|rfl|rfl
    ·refine Fm ?_
     refine Bc (okc Tryz.f55.ntmps 7) rfl rfl rfl rfl rfl ?_
     all_goals (conv=>whnf)
     refine Lt b hbw 8 (by omega) _ (Fb (Cq 3 B k b j) [.var (sD b),.dead,.var (iD 0)]) rfl (fun l X=>X = (Fb (BG 3 B k b j 0 l) [.var (sD b),.dead,.var (iD 0)])) _ (fun l X h=>by subst h;exact ⟨rfl,Ih _ _ _ (by decide) rfl⟩) rfl ?_ ?_ (It _ fun q=>(Ef hn q).symm)
     ·rintro l q X rfl hq
      obtain ⟨ht2,hn2⟩:=B1 hq
      have hqV : q < 3:=Bw hbl ((Ba b q).1 (List.mem_of_getElem? hq)).2
      have hsl : ([.sl 2 0 3,.sl 3 0 3,.sl 4 0 3] : List D)[0 + ((0 : Nat) : Int).toNat]? = some (.sl 2 0 3):=rfl
      have hrl:=D3 3 B k b j 0 l
      have hqe:=D6 (B:=B) (k:=k) (b:=b) (j:=j) (p:=0) hqV hn2
      have hqb:=Ed (B:=B) (k:=k) (p:=0) (q:=q) hl
      have e:=D2 (B:=B) (k:=k) (j:=j) (p:=0) ht2 hqV hn2
      refine Bc (okc Tryz.f55.ntmps 9) rfl rfl rfl rfl rfl ?_
      repeat' (
       conv=>whnf
       first
       |(with_reducible refine ⟨_,hsl,?_⟩)
       |(with_reducible refine ⟨_,hqe,?_⟩)
       |with_reducible refine Ao ?_
       |((with_reducible apply ob);(exact oT)))
      all_goals (conv=>whnf)
      all_goals (first|(exfalso;omega)|skip)
      refine Ac (.inl ⟨rfl,(Fb (BG 3 B k b j 0 (l + 1)) [.var (sD b),.dead,.var (iD 0)]),?_,rfl⟩)
      unfold Fb
      rw [← e]
      rfl
     ·rintro X rfl
      all_goals (conv=>whnf)
      exact Ac ⟨(Fb (BG 3 B k b j 0 (Aa b).length) [.var (sD b),_]),_,rfl,rfl,Ih _ _ _ (show 5 ≤ 7 by decide) rfl,rfl,.inl ⟨rfl,(Fb (Cq 3 B k b (j + 1)) [.var (sD b)]),(It _ (CL ht)).trans rfl,rfl⟩⟩
    ·refine Fm ?_
     refine Bc (okc Tryz.f55.ntmps 7) rfl rfl rfl rfl rfl ?_
     all_goals (conv=>whnf)
     refine Lt b hbw 8 (by omega) _ (Fb (Cq 3 B k b j) [.var (sD b),.dead,.var (iD 1)]) rfl (fun l X=>X = (Fb (BG 3 B k b j 1 l) [.var (sD b),.dead,.var (iD 1)])) _ (fun l X h=>by subst h;exact ⟨rfl,Ih _ _ _ (by decide) rfl⟩) rfl ?_ ?_ (It _ fun q=>(Ef hn q).symm)
     ·rintro l q X rfl hq
      obtain ⟨ht2,hn2⟩:=B1 hq
      have hqV : q < 3:=Bw hbl ((Ba b q).1 (List.mem_of_getElem? hq)).2
      have hsl : ([.sl 2 0 3,.sl 3 0 3,.sl 4 0 3] : List D)[0 + ((1 : Nat) : Int).toNat]? = some (.sl 3 0 3):=rfl
      have hrl:=D3 3 B k b j 1 l
      have hqe:=D6 (B:=B) (k:=k) (b:=b) (j:=j) (p:=1) hqV hn2
      have hqb:=Ed (B:=B) (k:=k) (p:=1) (q:=q) hl
      have e:=D2 (B:=B) (k:=k) (j:=j) (p:=1) ht2 hqV hn2
      refine Bc (okc Tryz.f55.ntmps 9) rfl rfl rfl rfl rfl ?_
      repeat' (
       conv=>whnf
       first
       |(with_reducible refine ⟨_,hsl,?_⟩)
       |(with_reducible refine ⟨_,hqe,?_⟩)
       |with_reducible refine Ao ?_
       |((with_reducible apply ob);(exact oT)))
      all_goals (conv=>whnf)
      all_goals (first|(exfalso;omega)|skip)
      refine Ac (.inl ⟨rfl,(Fb (BG 3 B k b j 1 (l + 1)) [.var (sD b),.dead,.var (iD 1)]),?_,rfl⟩)
      unfold Fb
      rw [← e]
      rfl
     ·rintro X rfl
      all_goals (conv=>whnf)
      exact Ac ⟨(Fb (BG 3 B k b j 1 (Aa b).length) [.var (sD b),_]),_,rfl,rfl,Ih _ _ _ (show 5 ≤ 7 by decide) rfl,rfl,.inl ⟨rfl,(Fb (Cq 3 B k b (j + 1)) [.var (sD b)]),(It _ (CL ht)).trans rfl,rfl⟩⟩
    ·refine Fm ?_
     refine Bc (okc Tryz.f55.ntmps 7) rfl rfl rfl rfl rfl ?_
     all_goals (conv=>whnf)
     refine Lt b hbw 8 (by omega) _ (Fb (Cq 3 B k b j) [.var (sD b),.dead,.var (iD 2)]) rfl (fun l X=>X = (Fb (BG 3 B k b j 2 l) [.var (sD b),.dead,.var (iD 2)])) _ (fun l X h=>by subst h;exact ⟨rfl,Ih _ _ _ (by decide) rfl⟩) rfl ?_ ?_ (It _ fun q=>(Ef hn q).symm)
     ·rintro l q X rfl hq
      obtain ⟨ht2,hn2⟩:=B1 hq
      have hqV : q < 3:=Bw hbl ((Ba b q).1 (List.mem_of_getElem? hq)).2
      have hsl : ([.sl 2 0 3,.sl 3 0 3,.sl 4 0 3] : List D)[0 + ((2 : Nat) : Int).toNat]? = some (.sl 4 0 3):=rfl
      have hrl:=D3 3 B k b j 2 l
      have hqe:=D6 (B:=B) (k:=k) (b:=b) (j:=j) (p:=2) hqV hn2
      have hqb:=Ed (B:=B) (k:=k) (p:=2) (q:=q) hl
      have e:=D2 (B:=B) (k:=k) (j:=j) (p:=2) ht2 hqV hn2
      refine Bc (okc Tryz.f55.ntmps 9) rfl rfl rfl rfl rfl ?_
      repeat' (
       conv=>whnf
       first
       |(with_reducible refine ⟨_,hsl,?_⟩)
       |(with_reducible refine ⟨_,hqe,?_⟩)
       |with_reducible refine Ao ?_
       |((with_reducible apply ob);(exact oT)))
      all_goals (conv=>whnf)
      all_goals (first|(exfalso;omega)|skip)
      refine Ac (.inl ⟨rfl,(Fb (BG 3 B k b j 2 (l + 1)) [.var (sD b),.dead,.var (iD 2)]),?_,rfl⟩)
      unfold Fb
      rw [← e]
      rfl
     ·rintro X rfl
      all_goals (conv=>whnf)
      exact Ac ⟨(Fb (BG 3 B k b j 2 (Aa b).length) [.var (sD b),_]),_,rfl,rfl,Ih _ _ _ (show 5 ≤ 7 by decide) rfl,rfl,.inl ⟨rfl,(Fb (Cq 3 B k b (j + 1)) [.var (sD b)]),(It _ (CL ht)).trans rfl,rfl⟩⟩
   ·rintro X rfl
    repeat' (
     conv=>whnf
     first
     |with_reducible refine Ao ?_)
    all_goals (conv=>whnf)
    exact nx (k + 1) [0,1,2,3,4] Cj (A8 rfl rfl (A8 rfl rfl (Bb rfl (by rw [CK (by omega) (by omega) hb]) (Ad _) (Bb rfl (by rw [CK (by omega) (by omega) hb]) (Ad _) (Bb rfl (by rw [CK (by omega) (by omega) hb]) (Ad _) trivial))))) rfl rfl (by omega) (by omega)
  ·repeat' (
    conv=>whnf
    first
    |refine Ap (fun h=>?_) (fun h=>?_)
    |((with_reducible refine F5 (by omega) ?_);intro y hy;(try simp only [Int.toNat_natCast,Nat.zero_add] at hy);(try have hyr:=hR _ (List.mem_of_getElem? hy)))
    |((with_reducible apply ob);(exact oT)))
   all_goals (conv=>whnf)
   all_goals (first|(exfalso;omega)|skip)
   have hkB : k = B.length:=by omega
   subst hkB
   unfold HK
   rw [List.take_length]
   have e : ∀ p,Bf 3 B p [] = Fk 3 B p:=fun p=>by simp [Bf,Fk]
   refine Ac ⟨_,.list false .leaf [Af (Bf 3 B 0 []),Af (Bf 3 B 1 []),Af (Bf 3 B 2 [])],.step 2 .leaf (Ab (Bf 3 B 0 [])) rfl (Ad _) ( .step 3 .leaf (Ab (Bf 3 B 1 [])) rfl (Ad _) ( .step 4 .leaf (Ab (Bf 3 B 2 [])) rfl (Ad _) (.row 0 .leaf [Af (Bf 3 B 0 []),Af (Bf 3 B 1 []),Af (Bf 3 B 2 [])] [.sl 2 0 3,.sl 3 0 3,.sl 4 0 3] rfl (.cons _ _ _ _ (Bi rfl (by rw [Aq,BU])) (.cons _ _ _ _ (Bi rfl (by rw [Aq,BU])) (.cons _ _ _ _ (Bi rfl (by rw [Aq,BU])) .nil))) rfl rfl (.step 0 .leaf [Af (Bf 3 B 0 []),Af (Bf 3 B 1 []),Af (Bf 3 B 2 [])] rfl ?_ (.refl _))))),Bi rfl rfl,?_,?_⟩
   ·simp [Bx,Af,Bu,Ad]
   ·simp [Bx,Af,Bu,Ad]
   ·simp only [e];rfl
abbrev z4 : List D:=Ab [0,0,0,0]
def Ec (f : Nat → List Int) (X : List Ob) : List Ob:=.row .leaf [.sl 2 0 4,.sl 3 0 4,.sl 4 0 4,.sl 5 0 4] :: .var (.sl 0 0 4) :: .row .leaf (Ab (f 0)) :: .row .leaf (Ab (f 1)) :: .row .leaf (Ab (f 2)) :: .row .leaf (Ab (f 3)) :: X
theorem GI (f : Nat → List Int) (X : List Ob) (m : Nat) (hm : 6 ≤ m) (hX : X.all (As m) = true) : ∀ o ∈ Ec f X,As m o = true:=by
 intro o ho
 simp only [Ec,List.mem_cons] at ho
 rcases ho with rfl|rfl|rfl|rfl|rfl|rfl|ho
 all_goals first|exact F6 hm _ rfl|exact B9 _ _ (Ad _)|exact List.all_eq_true.1 hX o ho
theorem GF {f g : Nat → List Int} (X : List Ob) (h : ∀ q,f q = g q) : Ec f X = Ec g X:=by rw [show f = g from funext h]
theorem WR (B : List Nat) (hB : Ws B) (hl : B.length ≤ 64) (hlt : ∀ b ∈ B,b < 2 ^ 4) : Aj Tryz.prog 55 [(.agg [.int .i64 (4 : Int),A5 B])] (fun r=>r = IV (GY 4 B)):=by
 have hl0:=A6 B
 refine Aj.ofV ?_
 refine Ai (okc Tryz.f55.ntmps 0) (fn:=Tryz.f55) (cd:=_) rfl rfl rfl rfl rfl rfl (fun hbd=>?_)
 repeat' (
  conv=>whnf
  first
  |((with_reducible apply ob);(exact oT)))
 all_goals (conv=>whnf)
 refine Bt (X:=Nat) (fun i=>[(1,.ptr 0 []),(2,.nils),(3,.ptr 2 []),(13,iD 4),(14,iD i)]) (fun i=>match i with|0=>[.var (.agg [.int .i64 (4 : Int),A5 B]),.row .leaf [.nils,.nils,.nils,.nils],.var (.sl 1 0 4)]|1=>[.var (.agg [.int .i64 (4 : Int),A5 B]),.row .leaf [.sl 3 0 4,.nils,.nils,.nils],.var (.sl 1 0 4),.row .leaf z4]|2=>[.var (.agg [.int .i64 (4 : Int),A5 B]),.row .leaf [.sl 3 0 4,.sl 4 0 4,.nils,.nils],.var (.sl 1 0 4),.row .leaf z4,.row .leaf z4]|3=>[.var (.agg [.int .i64 (4 : Int),A5 B]),.row .leaf [.sl 3 0 4,.sl 4 0 4,.sl 5 0 4,.nils],.var (.sl 1 0 4),.row .leaf z4,.row .leaf z4,.row .leaf z4]|_=>[.var (.agg [.int .i64 (4 : Int),A5 B]),.row .leaf [.sl 3 0 4,.sl 4 0 4,.sl 5 0 4,.sl 6 0 4],.var (.sl 1 0 4),.row .leaf z4,.row .leaf z4,.row .leaf z4,.row .leaf z4]) (fun i=>i ≤ 4) (fun i=>4 - i)
  ⟨_,A4 0 Bn rfl (Nat.lt_succ_self _) (Nat.zero_le _)⟩ ?_
 intro i hi
 have hi2 : i = 0 ∨ i = 1 ∨ i = 2 ∨ i = 3 ∨ i = 4:=by omega
 rcases hi2 with rfl|rfl|rfl|rfl|rfl
 ·dsimp only
  repeat' (
   conv=>whnf
   first
   |with_reducible refine Ao ?_
   |((with_reducible apply A1 5);rfl)
   |((with_reducible apply ob);(exact oT)))
  all_goals (conv=>whnf)
  exact A4 1 Bn rfl (by omega) (by omega)
 ·dsimp only
  repeat' (
   conv=>whnf
   first
   |with_reducible refine Ao ?_
   |((with_reducible apply A1 5);rfl)
   |((with_reducible apply ob);(exact oT)))
  all_goals (conv=>whnf)
  exact A4 2 Bn rfl (by omega) (by omega)
 ·dsimp only
  repeat' (
   conv=>whnf
   first
   |with_reducible refine Ao ?_
   |((with_reducible apply A1 5);rfl)
   |((with_reducible apply ob);(exact oT)))
  all_goals (conv=>whnf)
  exact A4 3 Bn rfl (by omega) (by omega)
 ·dsimp only
  repeat' (
   conv=>whnf
   first
   |with_reducible refine Ao ?_
   |((with_reducible apply A1 5);rfl)
   |((with_reducible apply ob);(exact oT)))
  all_goals (conv=>whnf)
  exact A4 4 Bn rfl (by omega) (by omega)
 ·dsimp only
  all_goals (conv=>whnf)
  refine Bt (X:=Nat) (fun k=>[(2,.nils),(3,.ptr 1 []),(25,A5 B),(26,iD B.length),(27,iD k)]) (fun k=>(Ec (HK 4 B k) [])) (fun k=>k ≤ B.length) (fun k=>B.length - k)
   ⟨_,nx (ρ:=[1,2,3,4,5,6]) 0 (by repeat (first|exact trivial|refine Au rfl rfl ?_|refine Au (congrArg (D.int .i64) (by rw [hl0])) rfl ?_)) (A8 rfl rfl (A8 rfl rfl (Bb rfl rfl (Ad _) (Bb rfl rfl (Ad _) (Bb rfl rfl (Ad _) (Bb rfl rfl (Ad _) trivial)))))) rfl rfl (Nat.lt_succ_self _) (Nat.zero_le _)⟩ ?_
  intro k hk
  rcases Nat.lt_or_ge k B.length with hkl|hkg
  ·obtain ⟨b,hb⟩:=D5 hkl
   have hbm:=List.mem_of_getElem? hb
   have hbw : Ax b:=hB b hbm
   have hbl:=hlt b hbm
   have hbd : (Ak B)[((k : Nat) : Int).toNat]? = some (sD b):=by simp [Ak,hb]
   repeat' (
    conv=>whnf
    first
    |(with_reducible refine ⟨_,hbd,?_⟩)
    |refine Ap (fun h=>?_) (fun h=>?_)
    |((with_reducible apply ob);(exact oT)))
   all_goals (conv=>whnf)
   all_goals (first|(exfalso;omega)|skip)
   refine WD b hbw 7 (by omega) _ (Ec (HK 4 B k) [.var (sD b)]) rfl (fun j X=>X = (Ec (Cq 4 B k b j) [.var (sD b)])) _ (fun j X h=>by subst h;exact ⟨rfl,GI _ _ _ (by decide) rfl⟩) rfl ?_ ?_ (GF _ fun q=>(Pv _ _ _ _ q).symm)
   ·rintro j p X rfl hp
    obtain ⟨ht,hn⟩:=B1 hp
    have hpV : p < 4:=Bw hbl ((Ba b p).1 (List.mem_of_getElem? hp)).2
    have hpc : p = 0 ∨ p = 1 ∨ p = 2 ∨ p = 3:=by omega
    rcases hpc with rfl|rfl|rfl|rfl
    ·refine Fm ?_
     refine Bc (okc Tryz.f55.ntmps 8) rfl rfl rfl rfl rfl ?_
     all_goals (conv=>whnf)
     refine IG b hbw 9 (by omega) _ (Ec (Cq 4 B k b j) [.var (sD b),.dead,.var (iD 0)]) rfl (fun l X=>X = (Ec (BG 4 B k b j 0 l) [.var (sD b),.dead,.var (iD 0)])) _ (fun l X h=>by subst h;exact ⟨rfl,GI _ _ _ (by decide) rfl⟩) rfl ?_ ?_ (GF _ fun q=>(Ef hn q).symm)
     ·rintro l q X rfl hq
      obtain ⟨ht2,hn2⟩:=B1 hq
      have hqV : q < 4:=Bw hbl ((Ba b q).1 (List.mem_of_getElem? hq)).2
      have hsl : ([.sl 2 0 4,.sl 3 0 4,.sl 4 0 4,.sl 5 0 4] : List D)[0 + ((0 : Nat) : Int).toNat]? = some (.sl 2 0 4):=rfl
      have hrl:=D3 4 B k b j 0 l
      have hqe:=D6 (B:=B) (k:=k) (b:=b) (j:=j) (p:=0) hqV hn2
      have hqb:=Ed (B:=B) (k:=k) (p:=0) (q:=q) hl
      have e:=D2 (B:=B) (k:=k) (j:=j) (p:=0) ht2 hqV hn2
      refine Bc (okc Tryz.f55.ntmps 10) rfl rfl rfl rfl rfl ?_
      repeat' (
       conv=>whnf
       first
       |(with_reducible refine ⟨_,hsl,?_⟩)
       |(with_reducible refine ⟨_,hqe,?_⟩)
       |with_reducible refine Ao ?_
       |((with_reducible apply ob);(exact oT)))
      all_goals (conv=>whnf)
      all_goals (first|(exfalso;omega)|skip)
      refine Ac (.inl ⟨rfl,(Ec (BG 4 B k b j 0 (l + 1)) [.var (sD b),.dead,.var (iD 0)]),?_,rfl⟩)
      unfold Ec
      rw [← e]
      rfl
     ·rintro X rfl
      all_goals (conv=>whnf)
      exact Ac ⟨(Ec (BG 4 B k b j 0 (Aa b).length) [.var (sD b),_]),_,rfl,rfl,GI _ _ _ (show 6 ≤ 8 by decide) rfl,rfl,.inl ⟨rfl,(Ec (Cq 4 B k b (j + 1)) [.var (sD b)]),(GF _ (CL ht)).trans rfl,rfl⟩⟩
    ·refine Fm ?_
     refine Bc (okc Tryz.f55.ntmps 8) rfl rfl rfl rfl rfl ?_
     all_goals (conv=>whnf)
     refine IG b hbw 9 (by omega) _ (Ec (Cq 4 B k b j) [.var (sD b),.dead,.var (iD 1)]) rfl (fun l X=>X = (Ec (BG 4 B k b j 1 l) [.var (sD b),.dead,.var (iD 1)])) _ (fun l X h=>by subst h;exact ⟨rfl,GI _ _ _ (by decide) rfl⟩) rfl ?_ ?_ (GF _ fun q=>(Ef hn q).symm)
     ·rintro l q X rfl hq
      obtain ⟨ht2,hn2⟩:=B1 hq
      have hqV : q < 4:=Bw hbl ((Ba b q).1 (List.mem_of_getElem? hq)).2
      have hsl : ([.sl 2 0 4,.sl 3 0 4,.sl 4 0 4,.sl 5 0 4] : List D)[0 + ((1 : Nat) : Int).toNat]? = some (.sl 3 0 4):=rfl
      have hrl:=D3 4 B k b j 1 l
      have hqe:=D6 (B:=B) (k:=k) (b:=b) (j:=j) (p:=1) hqV hn2
      have hqb:=Ed (B:=B) (k:=k) (p:=1) (q:=q) hl
      have e:=D2 (B:=B) (k:=k) (j:=j) (p:=1) ht2 hqV hn2
      refine Bc (okc Tryz.f55.ntmps 10) rfl rfl rfl rfl rfl ?_
      repeat' (
       conv=>whnf
       first
       |(with_reducible refine ⟨_,hsl,?_⟩)
       |(with_reducible refine ⟨_,hqe,?_⟩)
       |with_reducible refine Ao ?_
       |((with_reducible apply ob);(exact oT)))
      all_goals (conv=>whnf)
      all_goals (first|(exfalso;omega)|skip)
      refine Ac (.inl ⟨rfl,(Ec (BG 4 B k b j 1 (l + 1)) [.var (sD b),.dead,.var (iD 1)]),?_,rfl⟩)
      unfold Ec
      rw [← e]
      rfl
     ·rintro X rfl
      all_goals (conv=>whnf)
      exact Ac ⟨(Ec (BG 4 B k b j 1 (Aa b).length) [.var (sD b),_]),_,rfl,rfl,GI _ _ _ (show 6 ≤ 8 by decide) rfl,rfl,.inl ⟨rfl,(Ec (Cq 4 B k b (j + 1)) [.var (sD b)]),(GF _ (CL ht)).trans rfl,rfl⟩⟩
    ·refine Fm ?_
     refine Bc (okc Tryz.f55.ntmps 8) rfl rfl rfl rfl rfl ?_
     all_goals (conv=>whnf)
     refine IG b hbw 9 (by omega) _ (Ec (Cq 4 B k b j) [.var (sD b),.dead,.var (iD 2)]) rfl (fun l X=>X = (Ec (BG 4 B k b j 2 l) [.var (sD b),.dead,.var (iD 2)])) _ (fun l X h=>by subst h;exact ⟨rfl,GI _ _ _ (by decide) rfl⟩) rfl ?_ ?_ (GF _ fun q=>(Ef hn q).symm)
     ·rintro l q X rfl hq
      obtain ⟨ht2,hn2⟩:=B1 hq
      have hqV : q < 4:=Bw hbl ((Ba b q).1 (List.mem_of_getElem? hq)).2
      have hsl : ([.sl 2 0 4,.sl 3 0 4,.sl 4 0 4,.sl 5 0 4] : List D)[0 + ((2 : Nat) : Int).toNat]? = some (.sl 4 0 4):=rfl
      have hrl:=D3 4 B k b j 2 l
      have hqe:=D6 (B:=B) (k:=k) (b:=b) (j:=j) (p:=2) hqV hn2
      have hqb:=Ed (B:=B) (k:=k) (p:=2) (q:=q) hl
      have e:=D2 (B:=B) (k:=k) (j:=j) (p:=2) ht2 hqV hn2
      refine Bc (okc Tryz.f55.ntmps 10) rfl rfl rfl rfl rfl ?_
      repeat' (
       conv=>whnf
       first
       |(with_reducible refine ⟨_,hsl,?_⟩)
       |(with_reducible refine ⟨_,hqe,?_⟩)
       |with_reducible refine Ao ?_
       |((with_reducible apply ob);(exact oT)))
      all_goals (conv=>whnf)
      all_goals (first|(exfalso;omega)|skip)
      refine Ac (.inl ⟨rfl,(Ec (BG 4 B k b j 2 (l + 1)) [.var (sD b),.dead,.var (iD 2)]),?_,rfl⟩)
      unfold Ec
      rw [← e]
      rfl
     ·rintro X rfl
      all_goals (conv=>whnf)
      exact Ac ⟨(Ec (BG 4 B k b j 2 (Aa b).length) [.var (sD b),_]),_,rfl,rfl,GI _ _ _ (show 6 ≤ 8 by decide) rfl,rfl,.inl ⟨rfl,(Ec (Cq 4 B k b (j + 1)) [.var (sD b)]),(GF _ (CL ht)).trans rfl,rfl⟩⟩
    ·refine Fm ?_
     refine Bc (okc Tryz.f55.ntmps 8) rfl rfl rfl rfl rfl ?_
     all_goals (conv=>whnf)
     refine IG b hbw 9 (by omega) _ (Ec (Cq 4 B k b j) [.var (sD b),.dead,.var (iD 3)]) rfl (fun l X=>X = (Ec (BG 4 B k b j 3 l) [.var (sD b),.dead,.var (iD 3)])) _ (fun l X h=>by subst h;exact ⟨rfl,GI _ _ _ (by decide) rfl⟩) rfl ?_ ?_ (GF _ fun q=>(Ef hn q).symm)
     ·rintro l q X rfl hq
      obtain ⟨ht2,hn2⟩:=B1 hq
      have hqV : q < 4:=Bw hbl ((Ba b q).1 (List.mem_of_getElem? hq)).2
      have hsl : ([.sl 2 0 4,.sl 3 0 4,.sl 4 0 4,.sl 5 0 4] : List D)[0 + ((3 : Nat) : Int).toNat]? = some (.sl 5 0 4):=rfl
      have hrl:=D3 4 B k b j 3 l
      have hqe:=D6 (B:=B) (k:=k) (b:=b) (j:=j) (p:=3) hqV hn2
      have hqb:=Ed (B:=B) (k:=k) (p:=3) (q:=q) hl
      have e:=D2 (B:=B) (k:=k) (j:=j) (p:=3) ht2 hqV hn2
      refine Bc (okc Tryz.f55.ntmps 10) rfl rfl rfl rfl rfl ?_
      repeat' (
       conv=>whnf
       first
       |(with_reducible refine ⟨_,hsl,?_⟩)
       |(with_reducible refine ⟨_,hqe,?_⟩)
       |with_reducible refine Ao ?_
       |((with_reducible apply ob);(exact oT)))
      all_goals (conv=>whnf)
      all_goals (first|(exfalso;omega)|skip)
      refine Ac (.inl ⟨rfl,(Ec (BG 4 B k b j 3 (l + 1)) [.var (sD b),.dead,.var (iD 3)]),?_,rfl⟩)
      unfold Ec
      rw [← e]
      rfl
     ·rintro X rfl
      all_goals (conv=>whnf)
      exact Ac ⟨(Ec (BG 4 B k b j 3 (Aa b).length) [.var (sD b),_]),_,rfl,rfl,GI _ _ _ (show 6 ≤ 8 by decide) rfl,rfl,.inl ⟨rfl,(Ec (Cq 4 B k b (j + 1)) [.var (sD b)]),(GF _ (CL ht)).trans rfl,rfl⟩⟩
   ·rintro X rfl
    repeat' (
     conv=>whnf
     first
     |with_reducible refine Ao ?_)
    all_goals (conv=>whnf)
    exact nx (k + 1) [0,1,2,3,4,5] Cj (A8 rfl rfl (A8 rfl rfl (Bb rfl (by rw [CK (by omega) (by omega) hb]) (Ad _) (Bb rfl (by rw [CK (by omega) (by omega) hb]) (Ad _) (Bb rfl (by rw [CK (by omega) (by omega) hb]) (Ad _) (Bb rfl (by rw [CK (by omega) (by omega) hb]) (Ad _) trivial)))))) rfl rfl (by omega) (by omega)
  ·repeat' (
    conv=>whnf
    first
    |refine Ap (fun h=>?_) (fun h=>?_)
    |((with_reducible refine F5 (by omega) ?_);intro y hy;(try simp only [Int.toNat_natCast,Nat.zero_add] at hy);(try have hyr:=hR _ (List.mem_of_getElem? hy)))
    |((with_reducible apply ob);(exact oT)))
   all_goals (conv=>whnf)
   all_goals (first|(exfalso;omega)|skip)
   have hkB : k = B.length:=by omega
   subst hkB
   unfold HK
   rw [List.take_length]
   have e : ∀ p,Bf 4 B p [] = Fk 4 B p:=fun p=>by simp [Bf,Fk]
   refine Ac ⟨_,.list false .leaf [Af (Bf 4 B 0 []),Af (Bf 4 B 1 []),Af (Bf 4 B 2 []),Af (Bf 4 B 3 [])],.step 2 .leaf (Ab (Bf 4 B 0 [])) rfl (Ad _) ( .step 3 .leaf (Ab (Bf 4 B 1 [])) rfl (Ad _) ( .step 4 .leaf (Ab (Bf 4 B 2 [])) rfl (Ad _) ( .step 5 .leaf (Ab (Bf 4 B 3 [])) rfl (Ad _) (.row 0 .leaf [Af (Bf 4 B 0 []),Af (Bf 4 B 1 []),Af (Bf 4 B 2 []),Af (Bf 4 B 3 [])] [.sl 2 0 4,.sl 3 0 4,.sl 4 0 4,.sl 5 0 4] rfl (.cons _ _ _ _ (Bi rfl (by rw [Aq,BU])) (.cons _ _ _ _ (Bi rfl (by rw [Aq,BU])) (.cons _ _ _ _ (Bi rfl (by rw [Aq,BU])) (.cons _ _ _ _ (Bi rfl (by rw [Aq,BU])) .nil)))) rfl rfl (.step 0 .leaf [Af (Bf 4 B 0 []),Af (Bf 4 B 1 []),Af (Bf 4 B 2 []),Af (Bf 4 B 3 [])] rfl ?_ (.refl _)))))),Bi rfl rfl,?_,?_⟩
   ·simp [Bx,Af,Bu,Ad]
   ·simp [Bx,Af,Bu,Ad]
   ·simp only [e];rfl
abbrev z5 : List D:=Ab [0,0,0,0,0]
def D7 (f : Nat → List Int) (X : List Ob) : List Ob:=.row .leaf [.sl 2 0 5,.sl 3 0 5,.sl 4 0 5,.sl 5 0 5,.sl 6 0 5] :: .var (.sl 0 0 5) :: .row .leaf (Ab (f 0)) :: .row .leaf (Ab (f 1)) :: .row .leaf (Ab (f 2)) :: .row .leaf (Ab (f 3)) :: .row .leaf (Ab (f 4)) :: X
theorem FM (f : Nat → List Int) (X : List Ob) (m : Nat) (hm : 7 ≤ m) (hX : X.all (As m) = true) : ∀ o ∈ D7 f X,As m o = true:=by
 intro o ho
 simp only [D7,List.mem_cons] at ho
 rcases ho with rfl|rfl|rfl|rfl|rfl|rfl|rfl|ho
 all_goals first|exact F6 hm _ rfl|exact B9 _ _ (Ad _)|exact List.all_eq_true.1 hX o ho
theorem F8 {f g : Nat → List Int} (X : List Ob) (h : ∀ q,f q = g q) : D7 f X = D7 g X:=by rw [show f = g from funext h]
theorem W1 (B : List Nat) (hB : Ws B) (hl : B.length ≤ 64) (hlt : ∀ b ∈ B,b < 2 ^ 5) : Aj Tryz.prog 55 [(.agg [.int .i64 (5 : Int),A5 B])] (fun r=>r = IV (GY 5 B)):=by
 have hl0:=A6 B
 refine Aj.ofV ?_
 refine Ai (okc Tryz.f55.ntmps 0) (fn:=Tryz.f55) (cd:=_) rfl rfl rfl rfl rfl rfl (fun hbd=>?_)
 repeat' (
  conv=>whnf
  first
  |((with_reducible apply ob);(exact oT)))
 all_goals (conv=>whnf)
 refine Bt (X:=Nat) (fun i=>[(1,.ptr 0 []),(2,.nils),(3,.ptr 2 []),(13,iD 5),(14,iD i)]) (fun i=>match i with|0=>[.var (.agg [.int .i64 (5 : Int),A5 B]),.row .leaf [.nils,.nils,.nils,.nils,.nils],.var (.sl 1 0 5)]|1=>[.var (.agg [.int .i64 (5 : Int),A5 B]),.row .leaf [.sl 3 0 5,.nils,.nils,.nils,.nils],.var (.sl 1 0 5),.row .leaf z5]|2=>[.var (.agg [.int .i64 (5 : Int),A5 B]),.row .leaf [.sl 3 0 5,.sl 4 0 5,.nils,.nils,.nils],.var (.sl 1 0 5),.row .leaf z5,.row .leaf z5]|3=>[.var (.agg [.int .i64 (5 : Int),A5 B]),.row .leaf [.sl 3 0 5,.sl 4 0 5,.sl 5 0 5,.nils,.nils],.var (.sl 1 0 5),.row .leaf z5,.row .leaf z5,.row .leaf z5]|4=>[.var (.agg [.int .i64 (5 : Int),A5 B]),.row .leaf [.sl 3 0 5,.sl 4 0 5,.sl 5 0 5,.sl 6 0 5,.nils],.var (.sl 1 0 5),.row .leaf z5,.row .leaf z5,.row .leaf z5,.row .leaf z5]|_=>[.var (.agg [.int .i64 (5 : Int),A5 B]),.row .leaf [.sl 3 0 5,.sl 4 0 5,.sl 5 0 5,.sl 6 0 5,.sl 7 0 5],.var (.sl 1 0 5),.row .leaf z5,.row .leaf z5,.row .leaf z5,.row .leaf z5,.row .leaf z5]) (fun i=>i ≤ 5) (fun i=>5 - i)
  ⟨_,A4 0 Bn rfl (Nat.lt_succ_self _) (Nat.zero_le _)⟩ ?_
 intro i hi
 have hi2 : i = 0 ∨ i = 1 ∨ i = 2 ∨ i = 3 ∨ i = 4 ∨ i = 5:=by omega
 rcases hi2 with rfl|rfl|rfl|rfl|rfl|rfl
 ·dsimp only
  repeat' (
   conv=>whnf
   first
   |with_reducible refine Ao ?_
   |((with_reducible apply A1 5);rfl)
   |((with_reducible apply ob);(exact oT)))
  all_goals (conv=>whnf)
  exact A4 1 Bn rfl (by omega) (by omega)
 ·dsimp only
  repeat' (
   conv=>whnf
   first
   |with_reducible refine Ao ?_
   |((with_reducible apply A1 5);rfl)
   |((with_reducible apply ob);(exact oT)))
  all_goals (conv=>whnf)
  exact A4 2 Bn rfl (by omega) (by omega)
 ·dsimp only
  repeat' (
   conv=>whnf
   first
   |with_reducible refine Ao ?_
   |((with_reducible apply A1 5);rfl)
   |((with_reducible apply ob);(exact oT)))
  all_goals (conv=>whnf)
  exact A4 3 Bn rfl (by omega) (by omega)
 ·dsimp only
  repeat' (
   conv=>whnf
   first
   |with_reducible refine Ao ?_
   |((with_reducible apply A1 5);rfl)
   |((with_reducible apply ob);(exact oT)))
  all_goals (conv=>whnf)
  exact A4 4 Bn rfl (by omega) (by omega)
 ·dsimp only
  repeat' (
   conv=>whnf
   first
   |with_reducible refine Ao ?_
   |((with_reducible apply A1 5);rfl)
   |((with_reducible apply ob);(exact oT)))
  all_goals (conv=>whnf)
  exact A4 5 Bn rfl (by omega) (by omega)
 ·dsimp only
  all_goals (conv=>whnf)
  refine Bt (X:=Nat) (fun k=>[(2,.nils),(3,.ptr 1 []),(25,A5 B),(26,iD B.length),(27,iD k)]) (fun k=>(D7 (HK 5 B k) [])) (fun k=>k ≤ B.length) (fun k=>B.length - k)
   ⟨_,nx (ρ:=[1,2,3,4,5,6,7]) 0 (by repeat (first|exact trivial|refine Au rfl rfl ?_|refine Au (congrArg (D.int .i64) (by rw [hl0])) rfl ?_)) (A8 rfl rfl (A8 rfl rfl (Bb rfl rfl (Ad _) (Bb rfl rfl (Ad _) (Bb rfl rfl (Ad _) (Bb rfl rfl (Ad _) (Bb rfl rfl (Ad _) trivial))))))) rfl rfl (Nat.lt_succ_self _) (Nat.zero_le _)⟩ ?_
  intro k hk
  rcases Nat.lt_or_ge k B.length with hkl|hkg
  ·obtain ⟨b,hb⟩:=D5 hkl
   have hbm:=List.mem_of_getElem? hb
   have hbw : Ax b:=hB b hbm
   have hbl:=hlt b hbm
   have hbd : (Ak B)[((k : Nat) : Int).toNat]? = some (sD b):=by simp [Ak,hb]
   repeat' (
    conv=>whnf
    first
    |(with_reducible refine ⟨_,hbd,?_⟩)
    |refine Ap (fun h=>?_) (fun h=>?_)
    |((with_reducible apply ob);(exact oT)))
   all_goals (conv=>whnf)
   all_goals (first|(exfalso;omega)|skip)
   refine Lt b hbw 8 (by omega) _ (D7 (HK 5 B k) [.var (sD b)]) rfl (fun j X=>X = (D7 (Cq 5 B k b j) [.var (sD b)])) _ (fun j X h=>by subst h;exact ⟨rfl,FM _ _ _ (by decide) rfl⟩) rfl ?_ ?_ (F8 _ fun q=>(Pv _ _ _ _ q).symm)
   ·rintro j p X rfl hp
    obtain ⟨ht,hn⟩:=B1 hp
    have hpV : p < 5:=Bw hbl ((Ba b p).1 (List.mem_of_getElem? hp)).2
    have hpc : p = 0 ∨ p = 1 ∨ p = 2 ∨ p = 3 ∨ p = 4:=by omega
    rcases hpc with rfl|rfl|rfl|rfl|rfl
    ·refine Fm ?_
     refine Bc (okc Tryz.f55.ntmps 9) rfl rfl rfl rfl rfl ?_
     all_goals (conv=>whnf)
     refine I4 b hbw 10 (by omega) _ (D7 (Cq 5 B k b j) [.var (sD b),.dead,.var (iD 0)]) rfl (fun l X=>X = (D7 (BG 5 B k b j 0 l) [.var (sD b),.dead,.var (iD 0)])) _ (fun l X h=>by subst h;exact ⟨rfl,FM _ _ _ (by decide) rfl⟩) rfl ?_ ?_ (F8 _ fun q=>(Ef hn q).symm)
     ·rintro l q X rfl hq
      obtain ⟨ht2,hn2⟩:=B1 hq
      have hqV : q < 5:=Bw hbl ((Ba b q).1 (List.mem_of_getElem? hq)).2
      have hsl : ([.sl 2 0 5,.sl 3 0 5,.sl 4 0 5,.sl 5 0 5,.sl 6 0 5] : List D)[0 + ((0 : Nat) : Int).toNat]? = some (.sl 2 0 5):=rfl
      have hrl:=D3 5 B k b j 0 l
      have hqe:=D6 (B:=B) (k:=k) (b:=b) (j:=j) (p:=0) hqV hn2
      have hqb:=Ed (B:=B) (k:=k) (p:=0) (q:=q) hl
      have e:=D2 (B:=B) (k:=k) (j:=j) (p:=0) ht2 hqV hn2
      refine Bc (okc Tryz.f55.ntmps 11) rfl rfl rfl rfl rfl ?_
      repeat' (
       conv=>whnf
       first
       |(with_reducible refine ⟨_,hsl,?_⟩)
       |(with_reducible refine ⟨_,hqe,?_⟩)
       |with_reducible refine Ao ?_
       |((with_reducible apply ob);(exact oT)))
      all_goals (conv=>whnf)
      all_goals (first|(exfalso;omega)|skip)
      refine Ac (.inl ⟨rfl,(D7 (BG 5 B k b j 0 (l + 1)) [.var (sD b),.dead,.var (iD 0)]),?_,rfl⟩)
      unfold D7
      rw [← e]
      rfl
     ·rintro X rfl
      all_goals (conv=>whnf)
      exact Ac ⟨(D7 (BG 5 B k b j 0 (Aa b).length) [.var (sD b),_]),_,rfl,rfl,FM _ _ _ (show 7 ≤ 9 by decide) rfl,rfl,.inl ⟨rfl,(D7 (Cq 5 B k b (j + 1)) [.var (sD b)]),(F8 _ (CL ht)).trans rfl,rfl⟩⟩
    ·refine Fm ?_
     refine Bc (okc Tryz.f55.ntmps 9) rfl rfl rfl rfl rfl ?_
     all_goals (conv=>whnf)
     refine I4 b hbw 10 (by omega) _ (D7 (Cq 5 B k b j) [.var (sD b),.dead,.var (iD 1)]) rfl (fun l X=>X = (D7 (BG 5 B k b j 1 l) [.var (sD b),.dead,.var (iD 1)])) _ (fun l X h=>by subst h;exact ⟨rfl,FM _ _ _ (by decide) rfl⟩) rfl ?_ ?_ (F8 _ fun q=>(Ef hn q).symm)
     ·rintro l q X rfl hq
      obtain ⟨ht2,hn2⟩:=B1 hq
      have hqV : q < 5:=Bw hbl ((Ba b q).1 (List.mem_of_getElem? hq)).2
      have hsl : ([.sl 2 0 5,.sl 3 0 5,.sl 4 0 5,.sl 5 0 5,.sl 6 0 5] : List D)[0 + ((1 : Nat) : Int).toNat]? = some (.sl 3 0 5):=rfl
      have hrl:=D3 5 B k b j 1 l
      have hqe:=D6 (B:=B) (k:=k) (b:=b) (j:=j) (p:=1) hqV hn2
      have hqb:=Ed (B:=B) (k:=k) (p:=1) (q:=q) hl
      have e:=D2 (B:=B) (k:=k) (j:=j) (p:=1) ht2 hqV hn2
      refine Bc (okc Tryz.f55.ntmps 11) rfl rfl rfl rfl rfl ?_
      repeat' (
       conv=>whnf
       first
       |(with_reducible refine ⟨_,hsl,?_⟩)
       |(with_reducible refine ⟨_,hqe,?_⟩)
       |with_reducible refine Ao ?_
       |((with_reducible apply ob);(exact oT)))
      all_goals (conv=>whnf)
      all_goals (first|(exfalso;omega)|skip)
      refine Ac (.inl ⟨rfl,(D7 (BG 5 B k b j 1 (l + 1)) [.var (sD b),.dead,.var (iD 1)]),?_,rfl⟩)
      unfold D7
      rw [← e]
      rfl
     ·rintro X rfl
      all_goals (conv=>whnf)
      exact Ac ⟨(D7 (BG 5 B k b j 1 (Aa b).length) [.var (sD b),_]),_,rfl,rfl,FM _ _ _ (show 7 ≤ 9 by decide) rfl,rfl,.inl ⟨rfl,(D7 (Cq 5 B k b (j + 1)) [.var (sD b)]),(F8 _ (CL ht)).trans rfl,rfl⟩⟩
    ·refine Fm ?_
     refine Bc (okc Tryz.f55.ntmps 9) rfl rfl rfl rfl rfl ?_
     all_goals (conv=>whnf)
     refine I4 b hbw 10 (by omega) _ (D7 (Cq 5 B k b j) [.var (sD b),.dead,.var (iD 2)]) rfl (fun l X=>X = (D7 (BG 5 B k b j 2 l) [.var (sD b),.dead,.var (iD 2)])) _ (fun l X h=>by subst h;exact ⟨rfl,FM _ _ _ (by decide) rfl⟩) rfl ?_ ?_ (F8 _ fun q=>(Ef hn q).symm)
     ·rintro l q X rfl hq
      obtain ⟨ht2,hn2⟩:=B1 hq
      have hqV : q < 5:=Bw hbl ((Ba b q).1 (List.mem_of_getElem? hq)).2
      have hsl : ([.sl 2 0 5,.sl 3 0 5,.sl 4 0 5,.sl 5 0 5,.sl 6 0 5] : List D)[0 + ((2 : Nat) : Int).toNat]? = some (.sl 4 0 5):=rfl
      have hrl:=D3 5 B k b j 2 l
      have hqe:=D6 (B:=B) (k:=k) (b:=b) (j:=j) (p:=2) hqV hn2
      have hqb:=Ed (B:=B) (k:=k) (p:=2) (q:=q) hl
      have e:=D2 (B:=B) (k:=k) (j:=j) (p:=2) ht2 hqV hn2
      refine Bc (okc Tryz.f55.ntmps 11) rfl rfl rfl rfl rfl ?_
      repeat' (
       conv=>whnf
       first
       |(with_reducible refine ⟨_,hsl,?_⟩)
       |(with_reducible refine ⟨_,hqe,?_⟩)
       |with_reducible refine Ao ?_
       |((with_reducible apply ob);(exact oT)))
      all_goals (conv=>whnf)
      all_goals (first|(exfalso;omega)|skip)
      refine Ac (.inl ⟨rfl,(D7 (BG 5 B k b j 2 (l + 1)) [.var (sD b),.dead,.var (iD 2)]),?_,rfl⟩)
      unfold D7
      rw [← e]
      rfl
     ·rintro X rfl
      all_goals (conv=>whnf)
      exact Ac ⟨(D7 (BG 5 B k b j 2 (Aa b).length) [.var (sD b),_]),_,rfl,rfl,FM _ _ _ (show 7 ≤ 9 by decide) rfl,rfl,.inl ⟨rfl,(D7 (Cq 5 B k b (j + 1)) [.var (sD b)]),(F8 _ (CL ht)).trans rfl,rfl⟩⟩
    ·refine Fm ?_
     refine Bc (okc Tryz.f55.ntmps 9) rfl rfl rfl rfl rfl ?_
     all_goals (conv=>whnf)
     refine I4 b hbw 10 (by omega) _ (D7 (Cq 5 B k b j) [.var (sD b),.dead,.var (iD 3)]) rfl (fun l X=>X = (D7 (BG 5 B k b j 3 l) [.var (sD b),.dead,.var (iD 3)])) _ (fun l X h=>by subst h;exact ⟨rfl,FM _ _ _ (by decide) rfl⟩) rfl ?_ ?_ (F8 _ fun q=>(Ef hn q).symm)
     ·rintro l q X rfl hq
      obtain ⟨ht2,hn2⟩:=B1 hq
      have hqV : q < 5:=Bw hbl ((Ba b q).1 (List.mem_of_getElem? hq)).2
      have hsl : ([.sl 2 0 5,.sl 3 0 5,.sl 4 0 5,.sl 5 0 5,.sl 6 0 5] : List D)[0 + ((3 : Nat) : Int).toNat]? = some (.sl 5 0 5):=rfl
      have hrl:=D3 5 B k b j 3 l
      have hqe:=D6 (B:=B) (k:=k) (b:=b) (j:=j) (p:=3) hqV hn2
      have hqb:=Ed (B:=B) (k:=k) (p:=3) (q:=q) hl
      have e:=D2 (B:=B) (k:=k) (j:=j) (p:=3) ht2 hqV hn2
      refine Bc (okc Tryz.f55.ntmps 11) rfl rfl rfl rfl rfl ?_
      repeat' (
       conv=>whnf
       first
       |(with_reducible refine ⟨_,hsl,?_⟩)
       |(with_reducible refine ⟨_,hqe,?_⟩)
       |with_reducible refine Ao ?_
       |((with_reducible apply ob);(exact oT)))
      all_goals (conv=>whnf)
      all_goals (first|(exfalso;omega)|skip)
      refine Ac (.inl ⟨rfl,(D7 (BG 5 B k b j 3 (l + 1)) [.var (sD b),.dead,.var (iD 3)]),?_,rfl⟩)
      unfold D7
      rw [← e]
      rfl
     ·rintro X rfl
      all_goals (conv=>whnf)
      exact Ac ⟨(D7 (BG 5 B k b j 3 (Aa b).length) [.var (sD b),_]),_,rfl,rfl,FM _ _ _ (show 7 ≤ 9 by decide) rfl,rfl,.inl ⟨rfl,(D7 (Cq 5 B k b (j + 1)) [.var (sD b)]),(F8 _ (CL ht)).trans rfl,rfl⟩⟩
    ·refine Fm ?_
     refine Bc (okc Tryz.f55.ntmps 9) rfl rfl rfl rfl rfl ?_
     all_goals (conv=>whnf)
     refine I4 b hbw 10 (by omega) _ (D7 (Cq 5 B k b j) [.var (sD b),.dead,.var (iD 4)]) rfl (fun l X=>X = (D7 (BG 5 B k b j 4 l) [.var (sD b),.dead,.var (iD 4)])) _ (fun l X h=>by subst h;exact ⟨rfl,FM _ _ _ (by decide) rfl⟩) rfl ?_ ?_ (F8 _ fun q=>(Ef hn q).symm)
     ·rintro l q X rfl hq
      obtain ⟨ht2,hn2⟩:=B1 hq
      have hqV : q < 5:=Bw hbl ((Ba b q).1 (List.mem_of_getElem? hq)).2
      have hsl : ([.sl 2 0 5,.sl 3 0 5,.sl 4 0 5,.sl 5 0 5,.sl 6 0 5] : List D)[0 + ((4 : Nat) : Int).toNat]? = some (.sl 6 0 5):=rfl
      have hrl:=D3 5 B k b j 4 l
      have hqe:=D6 (B:=B) (k:=k) (b:=b) (j:=j) (p:=4) hqV hn2
      have hqb:=Ed (B:=B) (k:=k) (p:=4) (q:=q) hl
      have e:=D2 (B:=B) (k:=k) (j:=j) (p:=4) ht2 hqV hn2
      refine Bc (okc Tryz.f55.ntmps 11) rfl rfl rfl rfl rfl ?_
      repeat' (
       conv=>whnf
       first
       |(with_reducible refine ⟨_,hsl,?_⟩)
       |(with_reducible refine ⟨_,hqe,?_⟩)
       |with_reducible refine Ao ?_
       |((with_reducible apply ob);(exact oT)))
      all_goals (conv=>whnf)
      all_goals (first|(exfalso;omega)|skip)
      refine Ac (.inl ⟨rfl,(D7 (BG 5 B k b j 4 (l + 1)) [.var (sD b),.dead,.var (iD 4)]),?_,rfl⟩)
      unfold D7
      rw [← e]
      rfl
     ·rintro X rfl
      all_goals (conv=>whnf)
      exact Ac ⟨(D7 (BG 5 B k b j 4 (Aa b).length) [.var (sD b),_]),_,rfl,rfl,FM _ _ _ (show 7 ≤ 9 by decide) rfl,rfl,.inl ⟨rfl,(D7 (Cq 5 B k b (j + 1)) [.var (sD b)]),(F8 _ (CL ht)).trans rfl,rfl⟩⟩
   ·rintro X rfl
    repeat' (
     conv=>whnf
     first
     |with_reducible refine Ao ?_)
    all_goals (conv=>whnf)
    exact nx (k + 1) [0,1,2,3,4,5,6] Cj (A8 rfl rfl (A8 rfl rfl (Bb rfl (by rw [CK (by omega) (by omega) hb]) (Ad _) (Bb rfl (by rw [CK (by omega) (by omega) hb]) (Ad _) (Bb rfl (by rw [CK (by omega) (by omega) hb]) (Ad _) (Bb rfl (by rw [CK (by omega) (by omega) hb]) (Ad _) (Bb rfl (by rw [CK (by omega) (by omega) hb]) (Ad _) trivial))))))) rfl rfl (by omega) (by omega)
  ·repeat' (
    conv=>whnf
    first
    |refine Ap (fun h=>?_) (fun h=>?_)
    |((with_reducible refine F5 (by omega) ?_);intro y hy;(try simp only [Int.toNat_natCast,Nat.zero_add] at hy);(try have hyr:=hR _ (List.mem_of_getElem? hy)))
    |((with_reducible apply ob);(exact oT)))
   all_goals (conv=>whnf)
   all_goals (first|(exfalso;omega)|skip)
   have hkB : k = B.length:=by omega
   subst hkB
   unfold HK
   rw [List.take_length]
   have e : ∀ p,Bf 5 B p [] = Fk 5 B p:=fun p=>by simp [Bf,Fk]
   refine Ac ⟨_,.list false .leaf [Af (Bf 5 B 0 []),Af (Bf 5 B 1 []),Af (Bf 5 B 2 []),Af (Bf 5 B 3 []),Af (Bf 5 B 4 [])],.step 2 .leaf (Ab (Bf 5 B 0 [])) rfl (Ad _) ( .step 3 .leaf (Ab (Bf 5 B 1 [])) rfl (Ad _) ( .step 4 .leaf (Ab (Bf 5 B 2 [])) rfl (Ad _) ( .step 5 .leaf (Ab (Bf 5 B 3 [])) rfl (Ad _) ( .step 6 .leaf (Ab (Bf 5 B 4 [])) rfl (Ad _) (.row 0 .leaf [Af (Bf 5 B 0 []),Af (Bf 5 B 1 []),Af (Bf 5 B 2 []),Af (Bf 5 B 3 []),Af (Bf 5 B 4 [])] [.sl 2 0 5,.sl 3 0 5,.sl 4 0 5,.sl 5 0 5,.sl 6 0 5] rfl (.cons _ _ _ _ (Bi rfl (by rw [Aq,BU])) (.cons _ _ _ _ (Bi rfl (by rw [Aq,BU])) (.cons _ _ _ _ (Bi rfl (by rw [Aq,BU])) (.cons _ _ _ _ (Bi rfl (by rw [Aq,BU])) (.cons _ _ _ _ (Bi rfl (by rw [Aq,BU])) .nil))))) rfl rfl (.step 0 .leaf [Af (Bf 5 B 0 []),Af (Bf 5 B 1 []),Af (Bf 5 B 2 []),Af (Bf 5 B 3 []),Af (Bf 5 B 4 [])] rfl ?_ (.refl _))))))),Bi rfl rfl,?_,?_⟩
   ·simp [Bx,Af,Bu,Ad]
   ·simp [Bx,Af,Bu,Ad]
   ·simp only [e];rfl
abbrev z6 : List D:=Ab [0,0,0,0,0,0]
def CM (f : Nat → List Int) (X : List Ob) : List Ob:=.row .leaf [.sl 2 0 6,.sl 3 0 6,.sl 4 0 6,.sl 5 0 6,.sl 6 0 6,.sl 7 0 6] :: .var (.sl 0 0 6) :: .row .leaf (Ab (f 0)) :: .row .leaf (Ab (f 1)) :: .row .leaf (Ab (f 2)) :: .row .leaf (Ab (f 3)) :: .row .leaf (Ab (f 4)) :: .row .leaf (Ab (f 5)) :: X
theorem E4 (f : Nat → List Int) (X : List Ob) (m : Nat) (hm : 8 ≤ m) (hX : X.all (As m) = true) : ∀ o ∈ CM f X,As m o = true:=by
 intro o ho
 simp only [CM,List.mem_cons] at ho
 rcases ho with rfl|rfl|rfl|rfl|rfl|rfl|rfl|rfl|ho
 all_goals first|exact F6 hm _ rfl|exact B9 _ _ (Ad _)|exact List.all_eq_true.1 hX o ho
theorem Ey {f g : Nat → List Int} (X : List Ob) (h : ∀ q,f q = g q) : CM f X = CM g X:=by rw [show f = g from funext h]
theorem WW (B : List Nat) (hB : Ws B) (hl : B.length ≤ 64) (hlt : ∀ b ∈ B,b < 2 ^ 6) : Aj Tryz.prog 55 [(.agg [.int .i64 (6 : Int),A5 B])] (fun r=>r = IV (GY 6 B)):=by
 have hl0:=A6 B
 refine Aj.ofV ?_
 refine Ai (okc Tryz.f55.ntmps 0) (fn:=Tryz.f55) (cd:=_) rfl rfl rfl rfl rfl rfl (fun hbd=>?_)
 repeat' (
  conv=>whnf
  first
  |((with_reducible apply ob);(exact oT)))
 all_goals (conv=>whnf)
 refine Bt (X:=Nat) (fun i=>[(1,.ptr 0 []),(2,.nils),(3,.ptr 2 []),(13,iD 6),(14,iD i)]) (fun i=>match i with|0=>[.var (.agg [.int .i64 (6 : Int),A5 B]),.row .leaf [.nils,.nils,.nils,.nils,.nils,.nils],.var (.sl 1 0 6)]|1=>[.var (.agg [.int .i64 (6 : Int),A5 B]),.row .leaf [.sl 3 0 6,.nils,.nils,.nils,.nils,.nils],.var (.sl 1 0 6),.row .leaf z6]|2=>[.var (.agg [.int .i64 (6 : Int),A5 B]),.row .leaf [.sl 3 0 6,.sl 4 0 6,.nils,.nils,.nils,.nils],.var (.sl 1 0 6),.row .leaf z6,.row .leaf z6]|3=>[.var (.agg [.int .i64 (6 : Int),A5 B]),.row .leaf [.sl 3 0 6,.sl 4 0 6,.sl 5 0 6,.nils,.nils,.nils],.var (.sl 1 0 6),.row .leaf z6,.row .leaf z6,.row .leaf z6]|4=>[.var (.agg [.int .i64 (6 : Int),A5 B]),.row .leaf [.sl 3 0 6,.sl 4 0 6,.sl 5 0 6,.sl 6 0 6,.nils,.nils],.var (.sl 1 0 6),.row .leaf z6,.row .leaf z6,.row .leaf z6,.row .leaf z6]|5=>[.var (.agg [.int .i64 (6 : Int),A5 B]),.row .leaf [.sl 3 0 6,.sl 4 0 6,.sl 5 0 6,.sl 6 0 6,.sl 7 0 6,.nils],.var (.sl 1 0 6),.row .leaf z6,.row .leaf z6,.row .leaf z6,.row .leaf z6,.row .leaf z6]|_=>[.var (.agg [.int .i64 (6 : Int),A5 B]),.row .leaf [.sl 3 0 6,.sl 4 0 6,.sl 5 0 6,.sl 6 0 6,.sl 7 0 6,.sl 8 0 6],.var (.sl 1 0 6),.row .leaf z6,.row .leaf z6,.row .leaf z6,.row .leaf z6,.row .leaf z6,.row .leaf z6]) (fun i=>i ≤ 6) (fun i=>6 - i)
  ⟨_,A4 0 Bn rfl (Nat.lt_succ_self _) (Nat.zero_le _)⟩ ?_
 intro i hi
 have hi2 : i = 0 ∨ i = 1 ∨ i = 2 ∨ i = 3 ∨ i = 4 ∨ i = 5 ∨ i = 6:=by omega
 rcases hi2 with rfl|rfl|rfl|rfl|rfl|rfl|rfl
 ·dsimp only
  repeat' (
   conv=>whnf
   first
   |with_reducible refine Ao ?_
   |((with_reducible apply A1 5);rfl)
   |((with_reducible apply ob);(exact oT)))
  all_goals (conv=>whnf)
  exact A4 1 Bn rfl (by omega) (by omega)
 ·dsimp only
  repeat' (
   conv=>whnf
   first
   |with_reducible refine Ao ?_
   |((with_reducible apply A1 5);rfl)
   |((with_reducible apply ob);(exact oT)))
  all_goals (conv=>whnf)
  exact A4 2 Bn rfl (by omega) (by omega)
 ·dsimp only
  repeat' (
   conv=>whnf
   first
   |with_reducible refine Ao ?_
   |((with_reducible apply A1 5);rfl)
   |((with_reducible apply ob);(exact oT)))
  all_goals (conv=>whnf)
  exact A4 3 Bn rfl (by omega) (by omega)
 ·dsimp only
  repeat' (
   conv=>whnf
   first
   |with_reducible refine Ao ?_
   |((with_reducible apply A1 5);rfl)
   |((with_reducible apply ob);(exact oT)))
  all_goals (conv=>whnf)
  exact A4 4 Bn rfl (by omega) (by omega)
 ·dsimp only
  repeat' (
   conv=>whnf
   first
   |with_reducible refine Ao ?_
   |((with_reducible apply A1 5);rfl)
   |((with_reducible apply ob);(exact oT)))
  all_goals (conv=>whnf)
  exact A4 5 Bn rfl (by omega) (by omega)
 ·dsimp only
  repeat' (
   conv=>whnf
   first
   |with_reducible refine Ao ?_
   |((with_reducible apply A1 5);rfl)
   |((with_reducible apply ob);(exact oT)))
  all_goals (conv=>whnf)
  exact A4 6 Bn rfl (by omega) (by omega)
 ·dsimp only
  all_goals (conv=>whnf)
  refine Bt (X:=Nat) (fun k=>[(2,.nils),(3,.ptr 1 []),(25,A5 B),(26,iD B.length),(27,iD k)]) (fun k=>(CM (HK 6 B k) [])) (fun k=>k ≤ B.length) (fun k=>B.length - k)
   ⟨_,nx (ρ:=[1,2,3,4,5,6,7,8]) 0 (by repeat (first|exact trivial|refine Au rfl rfl ?_|refine Au (congrArg (D.int .i64) (by rw [hl0])) rfl ?_)) (A8 rfl rfl (A8 rfl rfl (Bb rfl rfl (Ad _) (Bb rfl rfl (Ad _) (Bb rfl rfl (Ad _) (Bb rfl rfl (Ad _) (Bb rfl rfl (Ad _) (Bb rfl rfl (Ad _) trivial)))))))) rfl rfl (Nat.lt_succ_self _) (Nat.zero_le _)⟩ ?_
  intro k hk
  rcases Nat.lt_or_ge k B.length with hkl|hkg
  ·obtain ⟨b,hb⟩:=D5 hkl
   have hbm:=List.mem_of_getElem? hb
   have hbw : Ax b:=hB b hbm
   have hbl:=hlt b hbm
   have hbd : (Ak B)[((k : Nat) : Int).toNat]? = some (sD b):=by simp [Ak,hb]
   repeat' (
    conv=>whnf
    first
    |(with_reducible refine ⟨_,hbd,?_⟩)
    |refine Ap (fun h=>?_) (fun h=>?_)
    |((with_reducible apply ob);(exact oT)))
   all_goals (conv=>whnf)
   all_goals (first|(exfalso;omega)|skip)
   refine IG b hbw 9 (by omega) _ (CM (HK 6 B k) [.var (sD b)]) rfl (fun j X=>X = (CM (Cq 6 B k b j) [.var (sD b)])) _ (fun j X h=>by subst h;exact ⟨rfl,E4 _ _ _ (by decide) rfl⟩) rfl ?_ ?_ (Ey _ fun q=>(Pv _ _ _ _ q).symm)
   ·rintro j p X rfl hp
    obtain ⟨ht,hn⟩:=B1 hp
    have hpV : p < 6:=Bw hbl ((Ba b p).1 (List.mem_of_getElem? hp)).2
    have hpc : p = 0 ∨ p = 1 ∨ p = 2 ∨ p = 3 ∨ p = 4 ∨ p = 5:=by omega
    rcases hpc with rfl|rfl|rfl|rfl|rfl|rfl
    ·refine Fm ?_
     refine Bc (okc Tryz.f55.ntmps 10) rfl rfl rfl rfl rfl ?_
     all_goals (conv=>whnf)
     refine GW b hbw 11 (by omega) _ (CM (Cq 6 B k b j) [.var (sD b),.dead,.var (iD 0)]) rfl (fun l X=>X = (CM (BG 6 B k b j 0 l) [.var (sD b),.dead,.var (iD 0)])) _ (fun l X h=>by subst h;exact ⟨rfl,E4 _ _ _ (by decide) rfl⟩) rfl ?_ ?_ (Ey _ fun q=>(Ef hn q).symm)
     ·rintro l q X rfl hq
      obtain ⟨ht2,hn2⟩:=B1 hq
      have hqV : q < 6:=Bw hbl ((Ba b q).1 (List.mem_of_getElem? hq)).2
      have hsl : ([.sl 2 0 6,.sl 3 0 6,.sl 4 0 6,.sl 5 0 6,.sl 6 0 6,.sl 7 0 6] : List D)[0 + ((0 : Nat) : Int).toNat]? = some (.sl 2 0 6):=rfl
      have hrl:=D3 6 B k b j 0 l
      have hqe:=D6 (B:=B) (k:=k) (b:=b) (j:=j) (p:=0) hqV hn2
      have hqb:=Ed (B:=B) (k:=k) (p:=0) (q:=q) hl
      have e:=D2 (B:=B) (k:=k) (j:=j) (p:=0) ht2 hqV hn2
      refine Bc (okc Tryz.f55.ntmps 12) rfl rfl rfl rfl rfl ?_
      repeat' (
       conv=>whnf
       first
       |(with_reducible refine ⟨_,hsl,?_⟩)
       |(with_reducible refine ⟨_,hqe,?_⟩)
       |with_reducible refine Ao ?_
       |((with_reducible apply ob);(exact oT)))
      all_goals (conv=>whnf)
      all_goals (first|(exfalso;omega)|skip)
      refine Ac (.inl ⟨rfl,(CM (BG 6 B k b j 0 (l + 1)) [.var (sD b),.dead,.var (iD 0)]),?_,rfl⟩)
      unfold CM
      rw [← e]
      rfl
     ·rintro X rfl
      all_goals (conv=>whnf)
      exact Ac ⟨(CM (BG 6 B k b j 0 (Aa b).length) [.var (sD b),_]),_,rfl,rfl,E4 _ _ _ (show 8 ≤ 10 by decide) rfl,rfl,.inl ⟨rfl,(CM (Cq 6 B k b (j + 1)) [.var (sD b)]),(Ey _ (CL ht)).trans rfl,rfl⟩⟩
    ·refine Fm ?_
     refine Bc (okc Tryz.f55.ntmps 10) rfl rfl rfl rfl rfl ?_
     all_goals (conv=>whnf)
     refine GW b hbw 11 (by omega) _ (CM (Cq 6 B k b j) [.var (sD b),.dead,.var (iD 1)]) rfl (fun l X=>X = (CM (BG 6 B k b j 1 l) [.var (sD b),.dead,.var (iD 1)])) _ (fun l X h=>by subst h;exact ⟨rfl,E4 _ _ _ (by decide) rfl⟩) rfl ?_ ?_ (Ey _ fun q=>(Ef hn q).symm)
     ·rintro l q X rfl hq
      obtain ⟨ht2,hn2⟩:=B1 hq
      have hqV : q < 6:=Bw hbl ((Ba b q).1 (List.mem_of_getElem? hq)).2
      have hsl : ([.sl 2 0 6,.sl 3 0 6,.sl 4 0 6,.sl 5 0 6,.sl 6 0 6,.sl 7 0 6] : List D)[0 + ((1 : Nat) : Int).toNat]? = some (.sl 3 0 6):=rfl
      have hrl:=D3 6 B k b j 1 l
      have hqe:=D6 (B:=B) (k:=k) (b:=b) (j:=j) (p:=1) hqV hn2
      have hqb:=Ed (B:=B) (k:=k) (p:=1) (q:=q) hl
      have e:=D2 (B:=B) (k:=k) (j:=j) (p:=1) ht2 hqV hn2
      refine Bc (okc Tryz.f55.ntmps 12) rfl rfl rfl rfl rfl ?_
      repeat' (
       conv=>whnf
       first
       |(with_reducible refine ⟨_,hsl,?_⟩)
       |(with_reducible refine ⟨_,hqe,?_⟩)
       |with_reducible refine Ao ?_
       |((with_reducible apply ob);(exact oT)))
      all_goals (conv=>whnf)
      all_goals (first|(exfalso;omega)|skip)
      refine Ac (.inl ⟨rfl,(CM (BG 6 B k b j 1 (l + 1)) [.var (sD b),.dead,.var (iD 1)]),?_,rfl⟩)
      unfold CM
      rw [← e]
      rfl
     ·rintro X rfl
      all_goals (conv=>whnf)
      exact Ac ⟨(CM (BG 6 B k b j 1 (Aa b).length) [.var (sD b),_]),_,rfl,rfl,E4 _ _ _ (show 8 ≤ 10 by decide) rfl,rfl,.inl ⟨rfl,(CM (Cq 6 B k b (j + 1)) [.var (sD b)]),(Ey _ (CL ht)).trans rfl,rfl⟩⟩
    ·refine Fm ?_
     refine Bc (okc Tryz.f55.ntmps 10) rfl rfl rfl rfl rfl ?_
     all_goals (conv=>whnf)
     refine GW b hbw 11 (by omega) _ (CM (Cq 6 B k b j) [.var (sD b),.dead,.var (iD 2)]) rfl (fun l X=>X = (CM (BG 6 B k b j 2 l) [.var (sD b),.dead,.var (iD 2)])) _ (fun l X h=>by subst h;exact ⟨rfl,E4 _ _ _ (by decide) rfl⟩) rfl ?_ ?_ (Ey _ fun q=>(Ef hn q).symm)
     ·rintro l q X rfl hq
      obtain ⟨ht2,hn2⟩:=B1 hq
      have hqV : q < 6:=Bw hbl ((Ba b q).1 (List.mem_of_getElem? hq)).2
      have hsl : ([.sl 2 0 6,.sl 3 0 6,.sl 4 0 6,.sl 5 0 6,.sl 6 0 6,.sl 7 0 6] : List D)[0 + ((2 : Nat) : Int).toNat]? = some (.sl 4 0 6):=rfl
      have hrl:=D3 6 B k b j 2 l
      have hqe:=D6 (B:=B) (k:=k) (b:=b) (j:=j) (p:=2) hqV hn2
      have hqb:=Ed (B:=B) (k:=k) (p:=2) (q:=q) hl
      have e:=D2 (B:=B) (k:=k) (j:=j) (p:=2) ht2 hqV hn2
      refine Bc (okc Tryz.f55.ntmps 12) rfl rfl rfl rfl rfl ?_
      repeat' (
       conv=>whnf
       first
       |(with_reducible refine ⟨_,hsl,?_⟩)
       |(with_reducible refine ⟨_,hqe,?_⟩)
       |with_reducible refine Ao ?_
       |((with_reducible apply ob);(exact oT)))
      all_goals (conv=>whnf)
      all_goals (first|(exfalso;omega)|skip)
      refine Ac (.inl ⟨rfl,(CM (BG 6 B k b j 2 (l + 1)) [.var (sD b),.dead,.var (iD 2)]),?_,rfl⟩)
      unfold CM
      rw [← e]
      rfl
     ·rintro X rfl
      all_goals (conv=>whnf)
      exact Ac ⟨(CM (BG 6 B k b j 2 (Aa b).length) [.var (sD b),_]),_,rfl,rfl,E4 _ _ _ (show 8 ≤ 10 by decide) rfl,rfl,.inl ⟨rfl,(CM (Cq 6 B k b (j + 1)) [.var (sD b)]),(Ey _ (CL ht)).trans rfl,rfl⟩⟩
    ·refine Fm ?_
     refine Bc (okc Tryz.f55.ntmps 10) rfl rfl rfl rfl rfl ?_
     all_goals (conv=>whnf)
     refine GW b hbw 11 (by omega) _ (CM (Cq 6 B k b j) [.var (sD b),.dead,.var (iD 3)]) rfl (fun l X=>X = (CM (BG 6 B k b j 3 l) [.var (sD b),.dead,.var (iD 3)])) _ (fun l X h=>by subst h;exact ⟨rfl,E4 _ _ _ (by decide) rfl⟩) rfl ?_ ?_ (Ey _ fun q=>(Ef hn q).symm)
     ·rintro l q X rfl hq
      obtain ⟨ht2,hn2⟩:=B1 hq
      have hqV : q < 6:=Bw hbl ((Ba b q).1 (List.mem_of_getElem? hq)).2
      have hsl : ([.sl 2 0 6,.sl 3 0 6,.sl 4 0 6,.sl 5 0 6,.sl 6 0 6,.sl 7 0 6] : List D)[0 + ((3 : Nat) : Int).toNat]? = some (.sl 5 0 6):=rfl
      have hrl:=D3 6 B k b j 3 l
      have hqe:=D6 (B:=B) (k:=k) (b:=b) (j:=j) (p:=3) hqV hn2
      have hqb:=Ed (B:=B) (k:=k) (p:=3) (q:=q) hl
      have e:=D2 (B:=B) (k:=k) (j:=j) (p:=3) ht2 hqV hn2
      refine Bc (okc Tryz.f55.ntmps 12) rfl rfl rfl rfl rfl ?_
      repeat' (
       conv=>whnf
       first
       |(with_reducible refine ⟨_,hsl,?_⟩)
       |(with_reducible refine ⟨_,hqe,?_⟩)
       |with_reducible refine Ao ?_
       |((with_reducible apply ob);(exact oT)))
      all_goals (conv=>whnf)
      all_goals (first|(exfalso;omega)|skip)
      refine Ac (.inl ⟨rfl,(CM (BG 6 B k b j 3 (l + 1)) [.var (sD b),.dead,.var (iD 3)]),?_,rfl⟩)
      unfold CM
      rw [← e]
      rfl
     ·rintro X rfl
      all_goals (conv=>whnf)
      exact Ac ⟨(CM (BG 6 B k b j 3 (Aa b).length) [.var (sD b),_]),_,rfl,rfl,E4 _ _ _ (show 8 ≤ 10 by decide) rfl,rfl,.inl ⟨rfl,(CM (Cq 6 B k b (j + 1)) [.var (sD b)]),(Ey _ (CL ht)).trans rfl,rfl⟩⟩
    ·refine Fm ?_
     refine Bc (okc Tryz.f55.ntmps 10) rfl rfl rfl rfl rfl ?_
     all_goals (conv=>whnf)
     refine GW b hbw 11 (by omega) _ (CM (Cq 6 B k b j) [.var (sD b),.dead,.var (iD 4)]) rfl (fun l X=>X = (CM (BG 6 B k b j 4 l) [.var (sD b),.dead,.var (iD 4)])) _ (fun l X h=>by subst h;exact ⟨rfl,E4 _ _ _ (by decide) rfl⟩) rfl ?_ ?_ (Ey _ fun q=>(Ef hn q).symm)
     ·rintro l q X rfl hq
      obtain ⟨ht2,hn2⟩:=B1 hq
      have hqV : q < 6:=Bw hbl ((Ba b q).1 (List.mem_of_getElem? hq)).2
      have hsl : ([.sl 2 0 6,.sl 3 0 6,.sl 4 0 6,.sl 5 0 6,.sl 6 0 6,.sl 7 0 6] : List D)[0 + ((4 : Nat) : Int).toNat]? = some (.sl 6 0 6):=rfl
      have hrl:=D3 6 B k b j 4 l
      have hqe:=D6 (B:=B) (k:=k) (b:=b) (j:=j) (p:=4) hqV hn2
      have hqb:=Ed (B:=B) (k:=k) (p:=4) (q:=q) hl
      have e:=D2 (B:=B) (k:=k) (j:=j) (p:=4) ht2 hqV hn2
      refine Bc (okc Tryz.f55.ntmps 12) rfl rfl rfl rfl rfl ?_
      repeat' (
       conv=>whnf
       first
       |(with_reducible refine ⟨_,hsl,?_⟩)
       |(with_reducible refine ⟨_,hqe,?_⟩)
       |with_reducible refine Ao ?_
       |((with_reducible apply ob);(exact oT)))
      all_goals (conv=>whnf)
      all_goals (first|(exfalso;omega)|skip)
      refine Ac (.inl ⟨rfl,(CM (BG 6 B k b j 4 (l + 1)) [.var (sD b),.dead,.var (iD 4)]),?_,rfl⟩)
      unfold CM
      rw [← e]
      rfl
     ·rintro X rfl
      all_goals (conv=>whnf)
      exact Ac ⟨(CM (BG 6 B k b j 4 (Aa b).length) [.var (sD b),_]),_,rfl,rfl,E4 _ _ _ (show 8 ≤ 10 by decide) rfl,rfl,.inl ⟨rfl,(CM (Cq 6 B k b (j + 1)) [.var (sD b)]),(Ey _ (CL ht)).trans rfl,rfl⟩⟩
    ·refine Fm ?_
     refine Bc (okc Tryz.f55.ntmps 10) rfl rfl rfl rfl rfl ?_
     all_goals (conv=>whnf)
     refine GW b hbw 11 (by omega) _ (CM (Cq 6 B k b j) [.var (sD b),.dead,.var (iD 5)]) rfl (fun l X=>X = (CM (BG 6 B k b j 5 l) [.var (sD b),.dead,.var (iD 5)])) _ (fun l X h=>by subst h;exact ⟨rfl,E4 _ _ _ (by decide) rfl⟩) rfl ?_ ?_ (Ey _ fun q=>(Ef hn q).symm)
     ·rintro l q X rfl hq
      obtain ⟨ht2,hn2⟩:=B1 hq
      have hqV : q < 6:=Bw hbl ((Ba b q).1 (List.mem_of_getElem? hq)).2
      have hsl : ([.sl 2 0 6,.sl 3 0 6,.sl 4 0 6,.sl 5 0 6,.sl 6 0 6,.sl 7 0 6] : List D)[0 + ((5 : Nat) : Int).toNat]? = some (.sl 7 0 6):=rfl
      have hrl:=D3 6 B k b j 5 l
      have hqe:=D6 (B:=B) (k:=k) (b:=b) (j:=j) (p:=5) hqV hn2
      have hqb:=Ed (B:=B) (k:=k) (p:=5) (q:=q) hl
      have e:=D2 (B:=B) (k:=k) (j:=j) (p:=5) ht2 hqV hn2
      refine Bc (okc Tryz.f55.ntmps 12) rfl rfl rfl rfl rfl ?_
      repeat' (
       conv=>whnf
       first
       |(with_reducible refine ⟨_,hsl,?_⟩)
       |(with_reducible refine ⟨_,hqe,?_⟩)
       |with_reducible refine Ao ?_
       |((with_reducible apply ob);(exact oT)))
      all_goals (conv=>whnf)
      all_goals (first|(exfalso;omega)|skip)
      refine Ac (.inl ⟨rfl,(CM (BG 6 B k b j 5 (l + 1)) [.var (sD b),.dead,.var (iD 5)]),?_,rfl⟩)
      unfold CM
      rw [← e]
      rfl
     ·rintro X rfl
      all_goals (conv=>whnf)
      exact Ac ⟨(CM (BG 6 B k b j 5 (Aa b).length) [.var (sD b),_]),_,rfl,rfl,E4 _ _ _ (show 8 ≤ 10 by decide) rfl,rfl,.inl ⟨rfl,(CM (Cq 6 B k b (j + 1)) [.var (sD b)]),(Ey _ (CL ht)).trans rfl,rfl⟩⟩
   ·rintro X rfl
    repeat' (
     conv=>whnf
     first
     |with_reducible refine Ao ?_)
    all_goals (conv=>whnf)
    exact nx (k + 1) [0,1,2,3,4,5,6,7] Cj (A8 rfl rfl (A8 rfl rfl (Bb rfl (by rw [CK (by omega) (by omega) hb]) (Ad _) (Bb rfl (by rw [CK (by omega) (by omega) hb]) (Ad _) (Bb rfl (by rw [CK (by omega) (by omega) hb]) (Ad _) (Bb rfl (by rw [CK (by omega) (by omega) hb]) (Ad _) (Bb rfl (by rw [CK (by omega) (by omega) hb]) (Ad _) (Bb rfl (by rw [CK (by omega) (by omega) hb]) (Ad _) trivial)))))))) rfl rfl (by omega) (by omega)
  ·repeat' (
    conv=>whnf
    first
    |refine Ap (fun h=>?_) (fun h=>?_)
    |((with_reducible refine F5 (by omega) ?_);intro y hy;(try simp only [Int.toNat_natCast,Nat.zero_add] at hy);(try have hyr:=hR _ (List.mem_of_getElem? hy)))
    |((with_reducible apply ob);(exact oT)))
   all_goals (conv=>whnf)
   all_goals (first|(exfalso;omega)|skip)
   have hkB : k = B.length:=by omega
   subst hkB
   unfold HK
   rw [List.take_length]
   have e : ∀ p,Bf 6 B p [] = Fk 6 B p:=fun p=>by simp [Bf,Fk]
   refine Ac ⟨_,.list false .leaf [Af (Bf 6 B 0 []),Af (Bf 6 B 1 []),Af (Bf 6 B 2 []),Af (Bf 6 B 3 []),Af (Bf 6 B 4 []),Af (Bf 6 B 5 [])],.step 2 .leaf (Ab (Bf 6 B 0 [])) rfl (Ad _) ( .step 3 .leaf (Ab (Bf 6 B 1 [])) rfl (Ad _) ( .step 4 .leaf (Ab (Bf 6 B 2 [])) rfl (Ad _) ( .step 5 .leaf (Ab (Bf 6 B 3 [])) rfl (Ad _) ( .step 6 .leaf (Ab (Bf 6 B 4 [])) rfl (Ad _) ( .step 7 .leaf (Ab (Bf 6 B 5 [])) rfl (Ad _) (.row 0 .leaf [Af (Bf 6 B 0 []),Af (Bf 6 B 1 []),Af (Bf 6 B 2 []),Af (Bf 6 B 3 []),Af (Bf 6 B 4 []),Af (Bf 6 B 5 [])] [.sl 2 0 6,.sl 3 0 6,.sl 4 0 6,.sl 5 0 6,.sl 6 0 6,.sl 7 0 6] rfl (.cons _ _ _ _ (Bi rfl (by rw [Aq,BU])) (.cons _ _ _ _ (Bi rfl (by rw [Aq,BU])) (.cons _ _ _ _ (Bi rfl (by rw [Aq,BU])) (.cons _ _ _ _ (Bi rfl (by rw [Aq,BU])) (.cons _ _ _ _ (Bi rfl (by rw [Aq,BU])) (.cons _ _ _ _ (Bi rfl (by rw [Aq,BU])) .nil)))))) rfl rfl (.step 0 .leaf [Af (Bf 6 B 0 []),Af (Bf 6 B 1 []),Af (Bf 6 B 2 []),Af (Bf 6 B 3 []),Af (Bf 6 B 4 []),Af (Bf 6 B 5 [])] rfl ?_ (.refl _)))))))),Bi rfl rfl,?_,?_⟩
   ·simp [Bx,Af,Bu,Ad]
   ·simp [Bx,Af,Bu,Ad]
   ·simp only [e];rfl
open Go
theorem Yx (v : Int) (B : List Nat) (hB : Ws B) (hV : Gf v B) (h3 : 3 ≤ v) (h6 : v ≤ 6) : Aj Tryz.prog 55 [.agg [.int .i64 v,A5 B]] (fun r=>r = IV (GY v.toNat B)):=by
 have hc : v = 3 ∨ v = 4 ∨ v = 5 ∨ v = 6:=by omega
 rcases hc with rfl|rfl|rfl|rfl
 ·exact WV B hB hV.1.2.2 hV.2.2
 ·exact WR B hB hV.1.2.2 hV.2.2
 ·exact W1 B hB hV.1.2.2 hV.2.2
 ·exact WW B hB hV.1.2.2 hV.2.2
theorem AdE (v k l xv : Int) (B : List Nat) (hB : Ws B) (hl : B.length ≤ 1000000) : Aj Tryz.prog 31 [EU v k l,.agg [.int .i64 xv,A5 B]] (fun r=>r = .bool (decide (Ut v k l xv B))) :=
 AbY v k l xv B hB hl fun h hR hV=>by subst h;exact Yx xv B hB hV hR.1 hR.2.1
open Go
def I0 (n : Nat) : Nat → List Int → List (List Int)
 |0,pre=>[pre]
 |f + 1,pre=>((List.range n).filter fun p=>!pre.contains ((p : Nat) : Int)).flatMap fun p=>I0 n f (pre ++ [((p : Nat) : Int)])
def HU (n f : Nat) (pre : List Int) (k : Nat) : List (List Int):=((List.range k).filter fun p=>!pre.contains ((p : Nat) : Int)).flatMap fun p=>I0 n f (pre ++ [((p : Nat) : Int)])
theorem Tu {n f : Nat} {pre : List Int} {k : Nat} (h : ((k : Nat) : Int) ∈ pre) : HU n f pre (k + 1) = HU n f pre k:=by
 unfold HU
 rw [List.range_succ,List.filter_append]
 have : List.filter (fun p=>!pre.contains ((p : Nat) : Int)) [k] = []:=by simp [h]
 rw [this,List.append_nil]
theorem Tl {n f : Nat} {pre : List Int} {k : Nat} (h : ((k : Nat) : Int) ∉ pre) : HU n f pre (k + 1) = HU n f pre k ++ I0 n f (pre ++ [((k : Nat) : Int)]):=by
 unfold HU
 rw [List.range_succ,List.filter_append]
 have : List.filter (fun p=>!pre.contains ((p : Nat) : Int)) [k] = [k]:=by simp [h]
 rw [this,List.flatMap_append];simp
theorem M4 (n : Nat) : ∀ (f : Nat) (pre g : List Int),pre.length + f = n → CH pre n → (g ∈ I0 n f pre ↔ Pm g n ∧ g.take pre.length = pre)
 |0,pre,g,hf,hd=>by
  rw [I0,List.mem_singleton]
  constructor
  ·rintro rfl;exact ⟨⟨by omega,hd⟩,List.take_length⟩
  ·rintro ⟨⟨h1,_⟩,h2⟩
   rw [← h2,List.take_of_length_le (by omega)]
 |f + 1,pre,g,hf,hd=>by
  rw [I0,List.mem_flatMap]
  constructor
  ·rintro ⟨p,hp,hg⟩
   obtain ⟨hp1,hp2⟩:=List.mem_filter.1 hp
   have hpn : ((p : Nat) : Int) ∉ pre:=by simpa using hp2
   have hp1:=List.mem_range.1 hp1
   have hd2 : CH (pre ++ [((p : Nat) : Int)]) n:=⟨fun x hx=>by
    rcases List.mem_append.1 hx with h|h
    ·exact hd.1 x h
    ·rw [List.mem_singleton.1 h];omega,by
    rw [List.nodup_append]
    refine ⟨hd.2,by simp,fun a ha b hb=>?_⟩
    rw [List.mem_singleton.1 hb]
    rintro rfl;exact hpn ha⟩
   obtain ⟨h1,h2⟩:=(M4 n f _ g (by simp;omega) hd2).1 hg
   refine ⟨h1,?_⟩
   have:=congrArg (List.take pre.length) h2
   rw [List.take_take] at this
   simpa using this
  ·rintro ⟨h1,h2⟩
   have hlt : pre.length < g.length:=by rw [h1.1];omega
   have hx:=h1.2.1 g[pre.length] (List.getElem_mem hlt)
   have hx2 : ((g[pre.length].toNat : Nat) : Int) = g[pre.length]:=by omega
   have hnp : g[pre.length] ∉ pre:=by
    have hnd:=h1.2.2
    have : g = pre ++ g.drop pre.length:=by
     conv=>lhs;rw [← List.take_append_drop pre.length g,h2]
    intro hm
    rw [this] at hnd
    have:=(List.nodup_append.1 hnd).2.2 _ hm g[pre.length] (by
     rw [List.mem_iff_getElem?]
     exact ⟨0,by rw [List.getElem?_drop];simp [hlt]⟩)
    exact this rfl
   have htk : g.take (pre.length + 1) = pre ++ [g[pre.length]]:=by
    rw [List.take_add_one,h2,List.getElem?_eq_getElem hlt];rfl
   refine ⟨g[pre.length].toNat,List.mem_filter.2 ⟨List.mem_range.2 (by omega),by rw [hx2];simpa using hnp⟩,?_⟩
   rw [hx2]
   have hd2 : CH (pre ++ [g[pre.length]]) n:=by
    rw [← htk]
    exact ⟨fun x hx=>h1.2.1 x (List.mem_of_mem_take hx),h1.2.2.sublist (List.take_sublist _ _)⟩
   exact (M4 n f _ g (by simp;omega) hd2).2 ⟨h1,by simpa using htk⟩
theorem UZ (n : Nat) (g : List Int) : g ∈ I0 n n [] ↔ Pm g n:=by
 rw [M4 n n [] g (by simp) ⟨fun x hx=>by (cases hx),List.nodup_nil⟩]
 simp
def IQ (x : Inc) (g : List Int) : List Nat:=Ca (x.B.map (Cl · g))
open Go
theorem Uz {V K b : Nat} : b ∈ HV V K ↔ b < 2 ^ V ∧ CJ b = K:=by
 unfold HV
 rw [List.mem_filter,List.mem_range,beq_iff_eq]
def wN (x : Inc) : Nat:=(CD x (Bl x.V)).length
theorem J4 {x : Inc} (hx : x.Fam) : wN x * Cd x x.V = Bl x.V:=by rw [Nat.mul_comm];exact Wd hx
theorem TN {x : Inc} (hx : x.Fam) : 1 ≤ wN x:=by
 have h:=J4 hx
 have h2:=I7 x.V
 rcases Nat.eq_zero_or_pos (wN x) with h3|h3
 ·rw [h3] at h;omega
 ·exact h3
theorem Ys {x : Inc} (hx : x.Fam) : Bl x.V / Cd x x.V = wN x:=by
 have h:=J4 hx
 rw [← h]
 exact Nat.mul_div_cancel _ (NX hx)
theorem T3 (x : Inc) : wN x ≤ Bl x.V:=MP x _
theorem Xg {x : Inc} (hx : x.Fam) {g : List Int} (hg : Pm g x.V) : wN (Bo x g) = wN x:=by
 have h1:=J4 (Ic hx hg)
 have h2:=J4 hx
 rw [WE hx hg,HX] at h1
 have h3:=NX hx
 exact Nat.eq_of_mul_eq_mul_right h3 (h1.trans h2.symm)
open Go
theorem Ace {P : Program} {f : FuncId} {ds : List D} {H : List Ob} {Q : D → List Ob → Prop} (h : HC P f ds H (fun r H'=>Bz (∃ A Y,H' = A ++ Y ∧ A.length = H.length ∧ (∀ o ∈ A,As A.length o = true) ∧ Bu r = true ∧ Q r A))) : HC P f ds H (fun r H'=>Bz (Q r H')):=by
 refine HC.view h ?_
 intro r H' hq
 obtain ⟨A,Y,rfl,hl,hin,hr,hq⟩:=A2 hq
 refine ⟨A ++ Y,r,A.length,.refl _,.refl _,by omega,by simp,Nh _ _ hr,?_,?_⟩
 ·rw [List.take_left];exact hin
 ·rw [List.take_left];exact Ac hq
theorem WU {P : Program} {f : FuncId} {args0 args : List D} {H0 X : List Ob} {Q0 Q : D → List Ob → Prop} (h : HC P f args0 H0 (fun r H'=>Bz (Q0 r H'))) (hin : ∀ o ∈ H0,As H0.length o = true) (hargs : LeDs (H0 ++ X) args0 args) (hina : Dc H0.length args0 = true)
  (hQ0 : ∀ r H',Q0 r H' → H'.length = H0.length ∧ (∀ o ∈ H',As H0.length o = true) ∧ Bu r = true) (hk : ∀ r H',Q0 r H' → Q r (H' ++ X)) : HC P f args (H0 ++ X) Q:=by
 refine HC.frame (List.range H0.length) h (.refl _) (DD H0 X hin) (Ce _) (fun x hx=>?_) (by rw [El _ _ hina];exact hargs) hina ?_
 ·have:=List.mem_range.1 hx
  simp;omega
 ·intro r H' hq _
  have hq:=A2 hq
  obtain ⟨h1,h2,h3⟩:=hQ0 r H' hq
  rw [h1,Nat.sub_self]
  have e : C8 (List.range H0.length) (H0 ++ X).length 0 = List.range H0.length:=by simp [C8]
  rw [e,Hw _ _ h3]
  have:=I5 H0.length H' 0 (H0 ++ X) (List.range H0.length) (fun o ho=>DV _ o (h2 o ho)) (by simp;omega)
  rw [h1] at this
  simp only [Nat.zero_add,List.take_zero,List.nil_append,List.map_id'] at this
  rw [this,List.drop_left]
  exact hk r H' hq
theorem WY (b : Nat) (g : List Int) (k : Nat) : Dq b g k ||| (b >>> k &&& 1) <<< (g.getD k 0).toNat = Dq b g (k + 1):=by
 rw [Dq]
 cases h : b.testBit k with
 |true =>
  have : b >>> k &&& 1 = 1:=by
   have:=Hz b k
   rw [h] at this
   have:=of_decide_eq_true this
   omega
  rw [this];rfl
 |false =>
  have : b >>> k &&& 1 = 0:=by
   have h1:=Hz b k
   rw [h] at h1
   have h2:=of_decide_eq_false h1
   have h3 : b >>> k &&& 1 = b >>> k % 2:=Nat.and_one_is_mod _
   omega
  rw [this];simp
theorem WS (x : Inc) (o : List Nat) (g : List Int) (hB : Ws x.B) (hm : o.length = x.B.length) (hl : x.B.length ≤ 12) (hg : ∀ q ∈ g,0 ≤ q ∧ q < 64) (hgl : g.length ≤ 64) :
  HC Tryz.prog 98 [.sl 0 0 x.B.length,x.D,.sl 1 0 g.length] [.row .leaf (Ak o),.row .leaf (Ab g)] (fun r H'=>Bz (r = .tuple [] ∧ H' = [.row .leaf (Ak (Ca (x.B.map (Cl · g)))),.row .leaf (Ab g)])):=by
 have hl0:=A6 x.B
 have hg0:=Aq g
 refine Ace ?_
 refine Ai (okc Tryz.f98.ntmps 2) (fn:=Tryz.f98) (cd:=_) rfl rfl rfl rfl rfl rfl (fun hbd=>?_)
 all_goals (conv=>whnf)
 refine Bt (X:=Nat) (fun i=>[(0,.sl 0 0 x.B.length),(2,.sl 1 0 g.length),(11,A5 x.B),(12,iD x.B.length),(13,iD i)]) (fun i=>[.row .leaf (Ak ((x.B.take i).map (Cl · g) ++ o.drop i)),.row .leaf (Ab g)]) (fun i=>i ≤ x.B.length) (fun i=>x.B.length - i)
  ⟨_,nx (ρ:=[0,1]) 0 (by repeat (first|exact trivial|refine Au rfl rfl ?_|refine Au (congrArg (D.int .i64) (by rw [hl0])) rfl ?_)) (Bb rfl (by simp) (A7 _) (Bb rfl rfl (Ad _) trivial)) rfl rfl (Nat.lt_succ_self _) (Nat.zero_le _)⟩ ?_
 intro i hi
 rcases Nat.lt_or_ge i x.B.length with hlt|hge
 ·obtain ⟨b,hb⟩:=D5 hlt
  have hbw:=Ws.get hb hB
  have hb1 : (Ak x.B)[((i : Nat) : Int).toNat]? = some (sD b):=by simp [Ak,hb]
  have hol : (Ak ((x.B.take i).map (Cl · g) ++ o.drop i)).length = x.B.length:=by simp;omega
  repeat' (
   conv=>whnf
   first
   |(with_reducible refine ⟨_,hb1,?_⟩)
   |refine Ap (fun h=>?_) (fun h=>?_)
   |((with_reducible apply ob);(exact oT)))
  all_goals (conv=>whnf)
  all_goals (first|(exfalso;omega)|skip)
  have hmw:=Jz (b:=b) hg
  have eset : ∀ v w : Nat,(Ak ((x.B.take i).map (Cl · g) ++ v :: o.drop (i + 1))).set i (sD w) = Ak ((x.B.take i).map (Cl · g) ++ w :: o.drop (i + 1)):=fun v w=>by
   have : ((x.B.take i).map (Cl · g)).length = i:=by simp;omega
   rw [show sD w = .int .u64 (w : Int) from rfl,Mr,List.set_append_right _ _ (by omega),this,Nat.sub_self,List.set_cons_zero]
  have eget : ∀ v : Nat,(Ak ((x.B.take i).map (Cl · g) ++ v :: o.drop (i + 1)))[i]? = some (sD v):=fun v=>by
   have : ((x.B.take i).map (Cl · g)).length = i:=by simp;omega
   simp only [Ak,List.getElem?_map]
   rw [List.getElem?_append_right (by omega),this,Nat.sub_self];rfl
  have elen : ∀ v : Nat,(Ak ((x.B.take i).map (Cl · g) ++ v :: o.drop (i + 1))).length = x.B.length:=fun v=>by
   simp;omega
  obtain ⟨v0,hv0⟩:=D5 (l:=o) (i:=i) (by omega)
  have ed : o.drop i = v0 :: o.drop (i + 1):=by rw [List.drop_eq_getElem_cons (by omega),(List.getElem?_eq_some_iff.1 hv0).2]
  refine Bt (X:=Nat) (fun k=>[(0,.sl 0 0 x.B.length),(2,.sl 1 0 g.length),(6,iD i),(7,sD b),(11,A5 x.B),(12,iD x.B.length),(13,iD i),(21,.sl 1 0 g.length),(22,iD g.length),(23,iD k)]) (fun k=>[.row .leaf (Ak ((x.B.take i).map (Cl · g) ++ Dq b g k :: o.drop (i + 1))),.row .leaf (Ab g)]) (fun k=>k ≤ g.length) (fun k=>g.length - k)
   ⟨_,nx (ρ:=[0,1]) 0 Cj (Bb rfl (by rw [ed,Nat.zero_add,Int.toNat_natCast];exact eset v0 0) (A7 _) (Bb rfl rfl (Ad _) trivial)) rfl rfl (Nat.lt_succ_self _) (Nat.zero_le _)⟩ ?_
  intro k hk
  rcases Nat.lt_or_ge k g.length with hkl|hkg
  ·obtain ⟨q,hq⟩:=D5 hkl
   have hqr:=hg q (List.mem_of_getElem? hq)
   have hq1 : (Ab g)[0 + ((k : Nat) : Int).toNat]? = some (.int .i64 q):=by simp [Ab,hq]
   have ho1 : (Ak ((x.B.take i).map (Cl · g) ++ Dq b g k :: o.drop (i + 1)))[0 + ((i : Nat) : Int).toNat]? = some (sD (Dq b g k)):=by rw [Nat.zero_add,Int.toNat_natCast];exact eget _
   have hmk:=hmw k
   have hmk1:=hmw (k + 1)
   have hms:=WY b g k
   rw [Bq hq] at hms
   have hb2 : Ax (b >>> k &&& 1):=by have : b >>> k &&& 1 ≤ 1:=Nat.and_le_right;unfold Ax;omega
   have hsh : Ax ((b >>> k &&& 1) <<< q.toNat):=by
    have h1 : b >>> k &&& 1 ≤ 1:=Nat.and_le_right
    rcases Nat.le_one_iff_eq_zero_or_eq_one.1 h1 with e|e <;> rw [e]
    ·simp [Ax]
    ·exact Hl (by omega)
   have hlen1:=elen (Dq b g k)
   repeat' (
    conv=>whnf
    first
    |(with_reducible refine ⟨_,hq1,?_⟩)
    |(with_reducible refine ⟨_,ho1,?_⟩)
    |refine Ap (fun h=>?_) (fun h=>?_)
    |with_reducible refine Ao ?_
    |((with_reducible apply BM);(rfl);(rfl);(exact wA);(exact wA))
    |((with_reducible apply EY);(rfl);(rfl);(exact wA);(exact wA))
    |((with_reducible apply EO);(rfl);(rfl);(omega))
    |((with_reducible apply Fx);(rfl);(omega);(omega);(exact wA))
    |((with_reducible apply A1 10);rfl)
    |((with_reducible apply ob);(exact oT)))
   all_goals (conv=>whnf)
   all_goals (first|(exfalso;omega)|skip)
   exact nx (k + 1) [0,1] Cj (Bb rfl (by rw [Nat.zero_add,Int.toNat_natCast,← hms];exact eset _ _) (A7 _) (Bb rfl rfl (Ad _) trivial)) rfl rfl (by omega) (by omega)
  ·repeat' (
    conv=>whnf
    first
    |refine Ap (fun h=>?_) (fun h=>?_)
    |with_reducible refine Ao ?_
    |((with_reducible apply BM);(rfl);(rfl);(exact wA);(exact wA))
    |((with_reducible apply EY);(rfl);(rfl);(exact wA);(exact wA))
    |((with_reducible apply EO);(rfl);(rfl);(omega))
    |((with_reducible apply Fx);(rfl);(omega);(omega);(exact wA))
    |((with_reducible refine F5 (by omega) ?_);intro y hy;(try simp only [Int.toNat_natCast,Nat.zero_add] at hy);(try have hyr:=hR _ (List.mem_of_getElem? hy)))
    |((with_reducible refine Ga (by omega) ?_);intro y hy;(try simp only [Int.toNat_natCast,Nat.zero_add] at hy);(try have hyr:=hR _ (List.mem_of_getElem? hy)))
    |((with_reducible apply A1 10);rfl)
    |((with_reducible apply ob);(exact oT)))
   all_goals (conv=>whnf)
   all_goals (first|(exfalso;omega)|skip)
   have hkg2 : k = g.length:=by omega
   subst hkg2
   refine nx (i + 1) [0,1] Cj (Bb rfl (by
    rw [List.take_add_one,hb]
    simp [Cl]) (A7 _) (Bb rfl rfl (Ad _) trivial)) rfl rfl (by omega) (by omega)
 ·repeat' (
   conv=>whnf
   first
   |refine Ap (fun h=>?_) (fun h=>?_)
   |((with_reducible refine F5 (by omega) ?_);intro y hy;(try simp only [Int.toNat_natCast,Nat.zero_add] at hy);(try have hyr:=hR _ (List.mem_of_getElem? hy)))
   |((with_reducible apply ob);(exact oT)))
  all_goals (conv=>whnf)
  all_goals (first|(exfalso;omega)|skip)
  have hi2 : i = x.B.length:=by omega
  subst hi2
  have e : (x.B.take x.B.length).map (Cl · g) ++ o.drop x.B.length = x.B.map (Cl · g):=by
   rw [List.take_length,List.drop_eq_nil_of_le (by omega),List.append_nil]
  rw [e]
  have hs:=Q7 (x.B.map (Cl · g)) (by simp;omega)
  rw [List.length_map] at hs
  refine WU (X:=[.row .leaf (Ab g)]) hs (by intro o ho;simp only [List.mem_cons,List.not_mem_nil,or_false] at ho;subst ho;exact B9 _ _ (A7 _)) (Dj _ _) rfl (by
   rintro r H' ⟨rfl,rfl⟩
   refine ⟨rfl,?_,rfl⟩
   intro o ho;simp only [List.mem_cons,List.not_mem_nil,or_false] at ho;subst ho;exact B9 _ _ (A7 _)) ?_
  rintro r H' ⟨rfl,rfl⟩
  all_goals (conv=>whnf)
  exact Ac ⟨[.row .leaf (Ak (Ca (x.B.map (Cl · g)))),.row .leaf (Ab g)],[],rfl,rfl,(by intro o ho;simp only [List.mem_cons,List.not_mem_nil,or_false] at ho;rcases ho with rfl|rfl <;> first|exact B9 _ _ (A7 _)|exact B9 _ _ (Ad _)),rfl,rfl,rfl⟩
open Go
theorem Vn {P : Program} {g : Nat} {ds0 ds : List D} {Hc Y : List Ob} {Q0 Q : D → List Ob → Prop} (h : YC P g ds0 Hc Q0) (hg : g < Hc.length) (hin : ∀ o ∈ Hc,As Hc.length o = true) (hargs : LeDs (Hc ++ Y) ds0 ds) (hina : Dc Hc.length ds0 = true)
  (hQ : ∀ r H',Q0 r H' → H'.length = Hc.length ∧ (∀ o ∈ H',As Hc.length o = true) ∧ Bu r = true ∧ Q r (H' ++ Y)) : YC P g ds (Hc ++ Y) Q:=by
 refine YC.frame (List.range Hc.length) h (HO _ _ hg) hg (.refl _) ?_ (Ce _) (fun x hx=>?_) (by rw [El _ _ hina];exact hargs) hina ?_
 ·exact DD Hc Y hin
 ·have:=List.mem_range.1 hx
  simp;omega
 ·intro r H' hq hl
  obtain ⟨h1,h2,h3,h4⟩:=hQ r H' hq
  rw [h1,Nat.sub_self]
  have e : C8 (List.range Hc.length) (Hc ++ Y).length 0 = List.range Hc.length:=by simp [C8]
  rw [e,Hw _ _ h3]
  have:=I5 Hc.length H' 0 (Hc ++ Y) (List.range Hc.length) (fun o ho=>DV _ o (h2 o ho)) (by simp;omega)
  rw [h1] at this
  simp only [Nat.zero_add,List.take_zero,List.nil_append,List.map_id'] at this
  rw [this,List.drop_left]
  exact h4
theorem Adv {P : Program} {f : FuncId} {args : List D} {H H2 : List Ob} {Q : D → List Ob → Prop} (e : H = H2) (h : HC P f args H2 Q) : HC P f args H Q:=by rw [e];exact h
def DR : List Int → Nat
 |[]=>0
 |p :: l=>1 <<< p.toNat ||| DR l
theorem SG (l : List Int) (p : Int) : DR (l ++ [p]) = DR l ||| 1 <<< p.toNat:=by
 induction l with
 |nil=>simp [DR]
 |cons a l ih=>simp only [List.cons_append,DR,ih,Nat.or_assoc]
theorem O9 : ∀ (l : List Int) (q : Nat),(∀ x ∈ l,0 ≤ x) → ((DR l).testBit q = true ↔ ((q : Nat) : Int) ∈ l)
 |[],q,_=>by simp [DR]
 |p :: l,q,h=>by
  have hp:=h p List.mem_cons_self
  rw [DR,Nat.testBit_or,Bool.or_eq_true,O9 l q (fun x hx=>h x (List.mem_cons_of_mem _ hx)),Nat.one_shiftLeft,Nat.testBit_two_pow,decide_eq_true_eq,List.mem_cons]
  constructor
  ·rintro (e|e)
   ·exact .inl (by omega)
   ·exact .inr e
  ·rintro (e|e)
   ·exact .inl (by omega)
   ·exact .inr e
theorem PC : ∀ (l : List Int) (n : Nat),(∀ x ∈ l,0 ≤ x ∧ x < n) → DR l < 2 ^ n
 |[],n,_=>Nat.two_pow_pos n
 |p :: l,n,h=>by
  have hp:=h p List.mem_cons_self
  refine Nat.or_lt_two_pow ?_ (PC l n fun x hx=>h x (List.mem_cons_of_mem _ hx))
  rw [Nat.one_shiftLeft]
  exact Nat.pow_lt_pow_right (by decide) (by omega)
open Go
theorem Yi {P : Program} {g : Nat} {ds : List D} {H : List Ob} {Q : D → List Ob → Prop} (h : YC P g ds H (fun r H'=>Bz (∃ A Y,Frz H' (A ++ Y) ∧ A.length = H.length ∧ (∀ o ∈ A,As A.length o = true) ∧ Bu r = true ∧ Q r A))) : YC P g ds H (fun r H'=>Bz (Q r H')):=by
 refine YC.view h ?_
 intro r H' hq
 obtain ⟨A,Y,hz,hl,hin,hr,hq⟩:=A2 hq
 refine ⟨A ++ Y,r,A.length,hz,.refl _,by omega,by simp,Nh _ _ hr,?_,?_⟩
 ·rw [List.take_left];exact hin
 ·rw [List.take_left];exact Ac hq
theorem UV {H : List Ob} {g : Nat} {o : Ob} (h : H.getD g .dead = o) : H.set g o = H:=by
 refine List.ext_getElem? fun i=>?_
 rw [List.getElem?_set]
 by_cases e : g = i
 ·subst e
  rw [if_pos rfl]
  by_cases hlt : g < H.length
  ·simp only [List.getD,List.getElem?_eq_getElem hlt,Option.getD_some] at h
   rw [if_pos hlt,List.getElem?_eq_getElem hlt,h]
  ·rw [if_neg hlt,List.getElem?_eq_none (by omega)]
 ·rw [if_neg e]
theorem VC {P : Program} {f : FuncId} {args0 args : List D} {sh1 sh2 : Sh} {ds1 ds1' ds2 : List D} {H : List Ob} {Q : D → List Ob → Prop} (g1 g2 : Nat) (hne : (Nat.beq g1 g2) = false) (h : HC P f args0 [.row sh1 ds1,.row sh2 ds2] (fun r H'=>Bz (r = .tuple [] ∧ H' = [.row sh1 ds1',.row sh2 ds2])))
  (hg1 : H.getD g1 .dead = .row sh1 ds1) (hg2 : H.getD g2 .dead = .row sh2 ds2) (hc1 : Bx ds1 = true) (hc1' : Bx ds1' = true) (hc2 : Bx ds2 = true)
  (hargs : BV [g1,g2] args0 = args) (hin : Dc 2 args0 = true) (hk : Q (.tuple []) (H.set g1 (.row sh1 ds1'))) : HC P f args H Q:=by
 have hl1:=J7 hg1 (by simp)
 have hl2:=J7 hg2 (by simp)
 refine HC.frame [g1,g2] h (.refl _) (Bb hg1 rfl hc1 (Bb hg2 rfl hc2 trivial)) (by simp [nodup,hne]) (by simp [hl1,hl2]) (by rw [hargs];exact Dj _ _) hin ?_
 intro r H0' hq _
 obtain ⟨rfl,rfl⟩:=A2 hq
 have e : (H.set g1 (.row sh1 ds1')).set g2 (.row sh2 ds2) = H.set g1 (.row sh1 ds1'):=by
  refine UV ?_
  have : g1 ≠ g2:=fun e=>by rw [e] at hne;simp at hne
  simp only [List.getD] at hg2 ⊢
  rw [List.getElem?_set_ne this];exact hg2
 simpa [putB,BT,DY _ _ hc1',DY _ _ hc2,BL,BV,e] using hk
theorem Wu (n : Nat) : Aj Tryz.prog 97 [iD n] (fun r=>r = .func 123 [.ref .leaf (iD n)]):=by
 refine Aj.ofV ?_
 refine Ai (okc Tryz.f97.ntmps 0) (fn:=Tryz.f97) (cd:=_) rfl rfl rfl rfl rfl rfl (fun hbd=>?_)
 all_goals (conv=>whnf)
 refine Ac ⟨_,.func 123 [.ref .leaf (iD n)],.fvar 0 _ rfl rfl (.refl _),.func _ _ _ (.cons _ _ _ _ (.fvar 0 (iD n) rfl) .nil),rfl,rfl⟩
theorem U2 {P : Program} {f : FuncId} {l : List Int} {n : Nat} {H : List Ob} {Q : D → List Ob → Prop} (g : Nat) {args : List D} (ha : args = [.sl g 0 n]) (hl : l.length = n) (h : HC P f [.sl g 0 l.length] H Q) : HC P f args H Q:=by rw [ha,← hl];exact h
theorem W3 (x : Inc) (g : List Int) : (IQ x g).length = x.B.length:=by
 unfold IQ
 rw [(Cv _).length_eq,List.length_map]
open Go
open Go
open Go
open Go
structure Va (x : Inc) : Prop where
 w : Ws x.B
 v : Gf x.V x.B
 v7 : x.V ≤ 7
 n : x.B.length ≤ 12
theorem Va.len {x : Inc} (h : Va x) : x.B.length ≤ 64:=h.v.1.2.2
theorem Zj {V : Nat} {B : List Nat} (hV : V ≤ 16) (h : ∀ b ∈ B,b < 2 ^ V) : Ws B:=fun b hb=>by
 have h1:=h b hb
 have h2 : 2 ^ V ≤ 2 ^ 16:=Nat.pow_le_pow_right (by decide) hV
 unfold Ax;omega
theorem Ud {k : Kd} {x : Inc} (h : IsF k x) (hl : x.B.length ≤ 12) : Va x:=by
 have h1:=(L1 k x).2 ⟨h,by omega⟩
 have h6:=h.ok.v6
 have hv:=h.v
 exact ⟨Zj (V:=k.V) (by omega) h.lt,h1.2.2.1,by omega,hl⟩
open Go
open Go
structure Eq (V n : Nat) (l : List Inc) : Prop where
 v : ∀ f ∈ l,f.V = V ∧ f.B.length = n
 nd : l.Nodup
open Go
open Go
structure ChI (k : Kd) (x : Inc) (fs0 : List Inc) (b : Nat) (fs gs : List Inc) : Prop where
 eqS : Eq x.V (x.B.length + 1) fs
 eqT : Eq x.V (x.B.length + 1) gs
 t : ∀ f,f ∈ gs ↔ ∃ c,c < b ∧ CJ c = k.K ∧ IsF k (Yv x c) ∧ f = Cu (Yv x c)
 s : ∀ f,f ∈ fs ↔ f ∈ fs0 ∨ (f ∈ gs ∧ Acz f = Cu x)
open Go
theorem RI (l : List Nat) : ∀ n,Pm (Ej l n) n
 |0=>⟨rfl,(fun x hx=>by cases hx),List.Pairwise.nil⟩
 |n + 1=>by
  rw [JA]
  have ih:=JA.1 (RI l n)
  rw [← Ip n]
  refine List.perm_middle.trans ?_
  rw [List.take_append_drop]
  exact (ih.cons _).trans (List.perm_append_singleton _ _).symm
def CP (l : List Inc) : List D:=l.map Inc.D
theorem Iq (l : List Inc) : (CP l).length = l.length:=by simp [CP]
theorem KD : ∀ l : List Inc,Bx (CP l) = true
 |[]=>rfl
 |x :: l=>by
  have ih:=KD l
  have h1 : Bx (Ak x.B) = true:=A7 _
  show (Bu x.D && Bx (CP l)) = true
  rw [ih,Bool.and_true]
  simp [Inc.D,Bu,Bx,A5,iD,A7]
open Go
open Go
def Cs : Sh:=.agg [.leaf,.leaf]
def Jm (l : List Inc) : D:=.list false Cs (CP l)
open Go
open Go
def JP (K b : Nat) : List Nat:=(List.range b).filter fun c=>CJ c == K
theorem Te (K b : Nat) : JP K (b + 1) = if CJ b = K then JP K b ++ [b] else JP K b:=by
 unfold JP
 rw [List.range_succ,List.filter_append]
 by_cases h : CJ b = K <;> simp [h]
theorem U4 (K b : Nat) : (JP K b).length ≤ b:=by
 have:=List.length_filter_le (fun c=>CJ c == K) (List.range b)
 rw [List.length_range] at this;exact this
def Qi : List Inc → Inc → Nat
 |[],_=>0
 |y :: l,x=>if y = x then 0 else Qi l x + 1
def Ov (l : List Inc) (x : Inc) : Int:=if x ∈ l then (Qi l x : Int) else -1
theorem SE : ∀ {l : List Inc} {x : Inc} {i : Nat},l[i]? = some x → (∀ j y,j < i → l[j]? = some y → y ≠ x) → Qi l x = i
 |[],x,i,h,_=>by simp at h
 |y :: l,x,0,h,_=>by simp at h;simp [Qi,h]
 |y :: l,x,i + 1,h,hn=>by
  have h0:=hn 0 y (by omega) rfl
  rw [Qi,if_neg h0,SE (i:=i) (by simpa using h) fun j z hj hz=>hn (j + 1) z (by omega) (by simpa using hz)]
theorem VB (l : List Inc) (x : Inc) : Aj Tryz.prog 25 [Jm l,x.D] (fun r=>r = .int .i64 (Ov l x)):=by
 have hl0 : (CP l).length = l.length:=by simp [CP]
 refine Aj.ofV ?_
 refine Ai (okc Tryz.f25.ntmps 0) (fn:=Tryz.f25) (cd:=_) rfl rfl rfl rfl rfl rfl (fun hbd=>?_)
 have hm : (CP l).length ≤ 9223372036854775807:=hbd.1.1
 all_goals (conv=>whnf)
 refine Bt (X:=Nat) (fun i=>[(0,Jm l),(3,.ptr 0 []),(5,iD i)]) (fun _=>[.var x.D]) (fun i=>i ≤ l.length ∧ ∀ j y,j < i → l[j]? = some y → y ≠ x) (fun i=>l.length - i)
  ⟨_,A4 0 Bn rfl (Nat.lt_succ_self _) ⟨Nat.zero_le _,fun j y h=>absurd h (by omega)⟩⟩ ?_
 rintro i ⟨hi,hI⟩
 rcases Nat.lt_or_ge i l.length with h1|h1
 ·obtain ⟨y,hy⟩:=D5 h1
  have hy1 : (CP l)[((i : Nat) : Int).toNat]? = some y.D:=by simp [CP,hy]
  have hxy:=Y0 y x
  by_cases hc : y = x
  ·rw [decide_eq_true hc] at hxy
   repeat' (
    conv=>whnf
    first
    |(with_reducible refine ⟨_,hy1,?_⟩)
    |((with_reducible refine Aw ?_);refine Bd hxy ?_)
    |refine Ap (fun h=>?_) (fun h=>?_)
    |((with_reducible apply A1 5);rfl)
    |((with_reducible apply ob);(exact oT)))
   all_goals (conv=>whnf)
   all_goals (first|(exfalso;omega)|skip)
   refine fC rfl ?_
   unfold Ov
   subst hc
   rw [if_pos (List.mem_of_getElem? hy),SE hy hI];rfl
  ·rw [decide_eq_false hc] at hxy
   repeat' (
    conv=>whnf
    first
    |(with_reducible refine ⟨_,hy1,?_⟩)
    |((with_reducible refine Aw ?_);refine Bd hxy ?_)
    |refine Ap (fun h=>?_) (fun h=>?_)
    |with_reducible refine Ao ?_
    |((with_reducible apply A1 5);rfl)
    |((with_reducible apply ob);(exact oT)))
   all_goals (conv=>whnf)
   all_goals (first|(exfalso;omega)|skip)
   exact A4 (i + 1) Bn rfl (by omega) ⟨by omega,fun j z hj hz=>by
    rcases Nat.lt_succ_iff_lt_or_eq.1 hj with h3|rfl
    ·exact hI j z h3 hz
    ·rw [hy] at hz;cases hz;exact hc⟩
 ·repeat' (
   conv=>whnf
   first
   |refine Ap (fun h=>?_) (fun h=>?_)
   |((with_reducible apply A1 5);rfl)
   |((with_reducible apply ob);(exact oT)))
  all_goals (conv=>whnf)
  all_goals (first|(exfalso;omega)|skip)
  refine fC rfl ?_
  unfold Ov
  rw [if_neg fun hm=>by
   obtain ⟨j,hj⟩:=List.getElem?_of_mem hm
   exact hI j x (by have:=(List.getElem?_eq_some_iff.1 hj).1;omega) hj rfl]
  rfl
theorem Wq {l : List Inc} {x : Inc} : 0 ≤ Ov l x ↔ x ∈ l:=by
 unfold Ov
 split
 ·rename_i h;exact ⟨fun _=>h,fun _=>by omega⟩
 ·rename_i h;exact ⟨fun e=>absurd e (by decide),fun e=>absurd e h⟩
def Kd.D (k : Kd) : D:=EU k.V k.K k.L
open Go
theorem Wl {o b p q : Nat} (h1 : b.testBit p = true) (h2 : b.testBit q = true) : G5 o b p (q + 1) = G5 o b p q ||| 2 ^ (p * (p - 1) / 2 + q):=by rw [G5,h1,h2];rfl
theorem WN {o b p q : Nat} (h1 : b.testBit p = false) : G5 o b p (q + 1) = G5 o b p q:=by rw [G5,h1];rfl
theorem Wg {o b p q : Nat} (h1 : b.testBit q = false) : G5 o b p (q + 1) = G5 o b p q:=by rw [G5,h1];simp
theorem UW (b p : Nat) : H5 b (p + 1) = G5 (H5 b p) b p p:=rfl
theorem Adk : ∀ p : Nat,p < 7 → (p : Int) * ((p : Int) - 1) = ((p * (p - 1) : Nat) : Int):=by decide
theorem Adt : ∀ p : Nat,p < 7 → ((p * (p - 1) : Nat) : Int).tdiv 2 = ((p * (p - 1) / 2 : Nat) : Int):=by decide
theorem Yg : ∀ p,p < 7 → p * (p - 1) < 31:=by decide
theorem Wz : ∀ p,p < 7 → ∀ q,q < p → p * (p - 1) / 2 + q < 21:=by decide
theorem WO (b : Nat) (hb : b < 64) : Aj Tryz.prog 56 [sD b] (fun r=>r = sD (II b)):=by
 have hw : Ax b:=by unfold Ax;omega
 refine Aj.ofV ?_
 refine Ai (okc Tryz.f56.ntmps 0) (fn:=Tryz.f56) (cd:=_) rfl rfl rfl rfl rfl rfl (fun hbd=>?_)
 all_goals (conv=>whnf)
 refine Bt (X:=Nat) (fun p=>[(0,sD b),(3,sD (H5 b p)),(6,iD p)]) (fun _=>[]) (fun p=>p ≤ 6) (fun p=>7 - p) ⟨_,A4 0 Bn rfl (Nat.lt_succ_self _) (Nat.zero_le _)⟩ ?_
 intro p hp
 have hpw : Ax (H5 b p):=by have:=VD b hb p (by omega);unfold Ax;omega
 repeat' (
  conv=>whnf
  first
  |refine Ap (fun h=>?_) (fun h=>?_))
 all_goals (conv=>whnf)
 all_goals (first|(exfalso;omega)|skip)
 refine Bt (X:=Nat) (fun q=>[(0,sD b),(3,sD (G5 (H5 b p) b p q)),(4,iD p),(6,iD p),(9,iD p),(10,iD q)]) (fun _=>[]) (fun q=>q ≤ p) (fun q=>p - q) ⟨_,A4 0 Bn rfl (Nat.lt_succ_self _) (Nat.zero_le _)⟩ ?_
 intro q hq
 have hqw : Ax (G5 (H5 b p) b p q):=by have:=Zv b hb p (by omega) q (by omega);unfold Ax;omega
 rcases Nat.lt_or_ge q p with h1|h1
 ·cases e1 : b.testBit p with
  |false =>
   have e2:=Ol e1
   have e3:=WN (o:=H5 b p) (q:=q) e1
   generalize G5 (H5 b p) b p q = O at *
   repeat' (
    conv=>whnf
    first
    |refine Ap (fun h=>?_) (fun h=>?_)
    |with_reducible refine Ao ?_
    |((with_reducible apply BM);(rfl);(rfl);(exact wA);(exact wA))
    |((with_reducible apply EO);(rfl);(rfl);(omega))
    |((with_reducible apply ob);(exact oT)))
   all_goals (conv=>whnf)
   all_goals (first|(exfalso;omega)|exact absurd ‹((b >>> p &&& 1 : Nat) : Int) = 1› (by rw [e2];decide)|skip)
   exact A4 (q + 1) (by repeat (first|exact trivial|refine B7 rfl ?_|refine B7 (by rw [e3];rfl) ?_)) rfl (by omega) (by omega)
  |true =>
   have f1:=Os e1
   cases e2 : b.testBit q with
   |false =>
    have e3:=Wg (o:=H5 b p) (p:=p) e2
    have f2:=Ol e2
    generalize G5 (H5 b p) b p q = O at *
    repeat' (
     conv=>whnf
     first
     |refine Ap (fun h=>?_) (fun h=>?_)
     |with_reducible refine Ao ?_
     |((with_reducible apply BM);(rfl);(rfl);(exact wA);(exact wA))
     |((with_reducible apply EO);(rfl);(rfl);(omega))
     |((with_reducible apply ob);(exact oT)))
    all_goals (conv=>whnf)
    all_goals (first|(exfalso;omega)|exact absurd ‹((b >>> q &&& 1 : Nat) : Int) = 1› (by rw [f2];decide)|skip)
    all_goals exact A4 (q + 1) (by repeat (first|exact trivial|refine B7 rfl ?_|refine B7 (by rw [e3];rfl) ?_)) rfl (by omega) (by omega)
   |true =>
    have f2:=Os e2
    have e3:=Wl (o:=H5 b p) e1 e2
    generalize G5 (H5 b p) b p q = O at *
    have g1:=Adk p (by omega)
    have g2:=Adt p (by omega)
    have g3:=Yg p (by omega)
    have g4:=Wz p (by omega) q h1
    generalize hM : p * (p - 1) = M at *
    generalize hT : M / 2 = T at *
    rw [← Nat.one_shiftLeft] at e3
    have g5 : Ax (1 <<< (T + q)):=Hl (by omega)
    repeat' (
     conv=>whnf
     first
     |(with_reducible refine H7 g1 (by omega) ?_)
     |(with_reducible refine H7 g2 (by omega) ?_)
     |((with_reducible apply FU (a:=1));(rfl);(exact (show (T : Int) + (q : Int) = ((T + q : Nat) : Int) from rfl));(omega);(exact g5))
     |((with_reducible apply EY);(rfl);(rfl);(exact hqw);(exact g5))
     |refine Ap (fun h=>?_) (fun h=>?_)
     |with_reducible refine Ao ?_
     |((with_reducible apply BM);(rfl);(rfl);(exact wA);(exact wA))
     |((with_reducible apply EO);(rfl);(rfl);(omega))
     |((with_reducible apply ob);(exact oT)))
    all_goals (conv=>whnf)
    all_goals (first|(exfalso;omega)|exact absurd (by rw [f1];rfl) ‹¬ ((b >>> p &&& 1 : Nat) : Int) = 1›|exact absurd (by rw [f2];rfl) ‹¬ ((b >>> q &&& 1 : Nat) : Int) = 1›|skip)
    all_goals exact A4 (q + 1) (by repeat (first|exact trivial|refine B7 rfl ?_|refine B7 (by rw [e3];rfl) ?_)) rfl (by omega) (by omega)
 ·have : q = p:=by omega
  subst this
  rw [← UW]
  by_cases hz : b >>> q = 0
  ·have he:=WL b hb q (by omega) hz
   repeat' (
    conv=>whnf
    first
    |refine Ap (fun h=>?_) (fun h=>?_)
    |with_reducible refine Ao ?_
    |((with_reducible apply BM);(rfl);(rfl);(exact wA);(exact wA))
    |((with_reducible apply EY);(rfl);(rfl);(exact wA);(exact wA))
    |((with_reducible apply EO);(rfl);(rfl);(omega))
    |((with_reducible apply Fx);(rfl);(omega);(omega);(exact wA))
    |((with_reducible apply ob);(exact oT)))
   all_goals (conv=>whnf)
   all_goals (first|(exfalso;omega)|skip)
   exact fC rfl (by rw [he];rfl)
  ·repeat' (
    conv=>whnf
    first
    |refine Ap (fun h=>?_) (fun h=>?_)
    |with_reducible refine Ao ?_
    |((with_reducible apply BM);(rfl);(rfl);(exact wA);(exact wA))
    |((with_reducible apply EY);(rfl);(rfl);(exact wA);(exact wA))
    |((with_reducible apply EO);(rfl);(rfl);(omega))
    |((with_reducible apply Fx);(rfl);(omega);(omega);(exact wA))
    |((with_reducible apply ob);(exact oT)))
   all_goals (conv=>whnf)
   all_goals (first|(exfalso;omega)|skip)
   refine A4 (q + 1) Bn rfl (by omega) ?_
   rcases Nat.lt_or_ge q 6 with h2|h2
   ·exact h2
   ·exfalso;apply hz
    rw [Nat.shiftRight_eq_div_pow]
    exact Nat.div_eq_of_lt (Nat.lt_of_lt_of_le hb (Nat.pow_le_pow_right (n:=2) (i:=6) (by decide) h2))
def Adi : D:=.func 57 [.ptr 0 [],.ptr 1 [],.ptr 2 []]
def UT (V K L : Int) (S : List Nat) : List Ob:=[.var (A5 S),.var (EU V K L),.var Adi]
theorem VJ (V K : Int) (L : Nat) (hL : L ≤ 100) (S : List Nat) (hS : ∀ x ∈ S,x < 2 ^ 21) (hSl : S.length ≤ 20) : ∀ (b i o t : Nat),b ≤ 20 → i ≤ S.length → o < 2 ^ 21 → t < 2 ^ 21 → HC Tryz.prog 57 [iD b,iD i,sD o,sD t,.ptr 0 [],.ptr 1 [],.ptr 2 []] (UT V K L S) (fun r H'=>Bz (r = iD (Fp (decide (1 < L)) (S.drop i) b o t) ∧ H' = UT V K L S))
 |0,i0,o,t,hb,hi0,ho,ht=>by
  refine Ai (okc Tryz.f57.ntmps 3) (fn:=Tryz.f57) (cd:=_) rfl rfl rfl rfl rfl rfl (fun hbd=>?_)
  all_goals (conv=>whnf)
  exact Ac ⟨by rw [O1];rfl,rfl⟩
 |b + 1,i0,o,t,hb,hi0,ho,ht=>by
  have ih:=VJ V K L hL S hS hSl b
  have hSl0:=A6 S
  have how : Ax o:=by unfold Ax;omega
  have htw : Ax t:=by unfold Ax;omega
  have htot:=Kf (decide (1 < L)) (S.drop i0) (b + 1) o t
  have hp20 : 2 ^ (S.drop i0).length ≤ 2 ^ 20:=Nat.pow_le_pow_right (by decide) (by rw [List.length_drop];omega)
  generalize hT : Fp (decide (1 < L)) (S.drop i0) (b + 1) o t = T at *
  refine Ai (okc Tryz.f57.ntmps 3) (fn:=Tryz.f57) (cd:=_) rfl rfl rfl rfl rfl rfl (fun hbd=>?_)
  all_goals (conv=>whnf)
  all_goals (first|(exfalso;omega)|skip)
  refine Bt (X:=Nat × Nat) (fun x=>[(0,iD (b + 1)),(2,sD o),(3,sD t),(4,.ptr 0 []),(5,.ptr 1 []),(6,.ptr 2 []),(12,iD x.2),(13,iD x.1)]) (fun _=>UT V K L S) (fun x=>x.1 ≤ S.length ∧ x.2 + Fp (decide (1 < L)) (S.drop x.1) (b + 1) o t = T) (fun x=>S.length - x.1) ⟨_,A4 (i0,0) Bn rfl (Nat.lt_succ_self _) ⟨hi0,by rw [hT];exact Nat.zero_add _⟩⟩ ?_
  rintro ⟨i,n⟩ ⟨hi,hn⟩
  dsimp only at hi hn ⊢
  rcases Nat.lt_or_ge S.length (i + (b + 1)) with h1|h1
  ·have h0:=MC (decide (1 < L)) (S.drop i) (b + 1) o t (by rw [List.length_drop];omega)
   have hnT : n = T:=by omega
   subst hnT
   repeat' (
    conv=>whnf
    first
    |refine Ap (fun h=>?_) (fun h=>?_)
    |with_reducible refine Ao ?_
    |((with_reducible apply BM);(rfl);(rfl);(exact wA);(exact wA))
    |((with_reducible apply EY);(rfl);(rfl);(exact wA);(exact wA))
    |((with_reducible refine F5 (by omega) ?_);intro y hy;(try simp only [Int.toNat_natCast,Nat.zero_add] at hy);(try have hyr:=hR _ (List.mem_of_getElem? hy)))
    |((with_reducible apply ob);(exact oT)))
   all_goals (conv=>whnf)
   all_goals (first|(exfalso;omega)|skip)
   exact Ac ⟨rfl,rfl⟩
  ·obtain ⟨x,hx⟩:=D5 (l:=S) (i:=i) (by omega)
   have hd : S.drop i = x :: S.drop (i + 1):=by
    rw [List.drop_eq_getElem_cons (by omega)]
    rw [List.getElem?_eq_getElem (by omega)] at hx
    rw [Option.some.inj hx]
   have hx1 : (Ak S)[((i : Nat) : Int).toNat]? = some (sD x):=by simp [Ak,hx]
   have hxw : Ax x:=by have:=hS x (List.mem_of_getElem? hx);unfold Ax;omega
   have hstep : Fp (decide (1 < L)) (S.drop i) (b + 1) o t = (if t &&& x = 0 ∧ (1 < L ∨ o &&& x = 0) then Fp (decide (1 < L)) (S.drop (i + 1)) b (o ||| x) (t ||| (o &&& x)) else 0) + Fp (decide (1 < L)) (S.drop (i + 1)) (b + 1) o t:=by rw [hd];simp only [Fp,decide_eq_true_eq]
   rw [hstep] at hn
   have hbm : ((b + 1 : Nat) : Int) - 1 = (b : Int):=by omega
   have hcall:=ih (i + 1) (o ||| x) (t ||| (o &&& x)) (by omega) (by omega) (Nat.or_lt_two_pow ho (hS x (List.mem_of_getElem? hx))) (Nat.or_lt_two_pow ht (Nat.and_lt_two_pow _ (hS x (List.mem_of_getElem? hx))))
   have tail : ∀ m : Nat,m + Fp (decide (1 < L)) (S.drop (i + 1)) (b + 1) o t = T → i + 1 ≤ S.length ∧ m + Fp (decide (1 < L)) (S.drop (i + 1)) (b + 1) o t = T:=fun m h=>⟨by omega,h⟩
   by_cases ht0 : t &&& x = 0
   ·by_cases hc : 1 < L ∨ o &&& x = 0
    ·rw [if_pos ⟨ht0,hc⟩] at hn
     generalize Fp (decide (1 < L)) (S.drop (i + 1)) b (o ||| x) (t ||| (o &&& x)) = C at *
     by_cases hL1 : 1 < L
     ·repeat' (
       conv=>whnf
       first
       |(with_reducible refine ⟨_,hx1,?_⟩)
       |(with_reducible refine H7 hbm (by omega) ?_)
       |((with_reducible refine Aw ?_);refine Kn hcall (X:=[]) rfl (FR rfl) (Dj _ _) rfl rfl ?_)
       |refine Ap (fun h=>?_) (fun h=>?_)
       |with_reducible refine Ao ?_
       |((with_reducible apply BM);(rfl);(rfl);(exact wA);(exact wA))
       |((with_reducible apply EY);(rfl);(rfl);(exact wA);(exact wA))
       |((with_reducible apply ob);(exact oT)))
      all_goals (conv=>whnf)
      all_goals (first|(exfalso;omega)|exact absurd (by rw [ht0];rfl) ‹¬ ((t &&& x : Nat) : Int) = 0›|skip)
      all_goals exact A4 (i + 1,n + C) Bn rfl (by dsimp only;omega) (tail _ (by omega))
     ·have ho0:=hc.resolve_left hL1
      repeat' (
       conv=>whnf
       first
       |(with_reducible refine ⟨_,hx1,?_⟩)
       |(with_reducible refine H7 hbm (by omega) ?_)
       |((with_reducible refine Aw ?_);refine Kn hcall (X:=[]) rfl (FR rfl) (Dj _ _) rfl rfl ?_)
       |refine Ap (fun h=>?_) (fun h=>?_)
       |with_reducible refine Ao ?_
       |((with_reducible apply BM);(rfl);(rfl);(exact wA);(exact wA))
       |((with_reducible apply EY);(rfl);(rfl);(exact wA);(exact wA))
       |((with_reducible apply ob);(exact oT)))
      all_goals (conv=>whnf)
      all_goals (first|(exfalso;omega)|exact absurd (by rw [ht0];rfl) ‹¬ ((t &&& x : Nat) : Int) = 0›|exact absurd (by rw [ho0];rfl) ‹¬ ((o &&& x : Nat) : Int) = 0›|skip)
      all_goals exact A4 (i + 1,n + C) Bn rfl (by dsimp only;omega) (tail _ (by omega))
    ·rw [if_neg (fun h=>hc h.2)] at hn
     have hL1 : ¬ 1 < L:=fun h=>hc (.inl h)
     have ho0 : ¬ o &&& x = 0:=fun h=>hc (.inr h)
     repeat' (
      conv=>whnf
      first
      |(with_reducible refine ⟨_,hx1,?_⟩)
      |refine Ap (fun h=>?_) (fun h=>?_)
      |with_reducible refine Ao ?_
      |((with_reducible apply BM);(rfl);(rfl);(exact wA);(exact wA))
      |((with_reducible apply EY);(rfl);(rfl);(exact wA);(exact wA))
      |((with_reducible apply ob);(exact oT)))
     all_goals (conv=>whnf)
     all_goals (first|(exfalso;omega)|exact absurd (by rw [ht0];rfl) ‹¬ ((t &&& x : Nat) : Int) = 0›|exact absurd (Int.ofNat_eq_zero.1 ‹((o &&& x : Nat) : Int) = 0›) ho0|skip)
     all_goals exact A4 (i + 1,n) Bn rfl (by dsimp only;omega) (tail _ (by omega))
   ·rw [if_neg (fun h=>ht0 h.1)] at hn
    repeat' (
     conv=>whnf
     first
     |(with_reducible refine ⟨_,hx1,?_⟩)
     |refine Ap (fun h=>?_) (fun h=>?_)
     |with_reducible refine Ao ?_
     |((with_reducible apply BM);(rfl);(rfl);(exact wA);(exact wA))
     |((with_reducible apply EY);(rfl);(rfl);(exact wA);(exact wA))
     |((with_reducible apply ob);(exact oT)))
    all_goals (conv=>whnf)
    all_goals (first|(exfalso;omega)|exact absurd (Int.ofNat_eq_zero.1 ‹((t &&& x : Nat) : Int) = 0›) ht0|skip)
    all_goals exact A4 (i + 1,n) Bn rfl (by dsimp only;omega) (tail _ (by omega))
def C4 (K b : Nat) : List Nat:=(JP K b).map II
def Re (V K L : Int) (l : List Nat) : List Ob:=.var (EU V K L) :: (if l = [] then [.var .nils] else [.var (.sl 2 0 l.length),.row .leaf (Ak l)])
theorem M1 {V K L : Int} {l : List Nat} (h : l = []) : Re V K L l = [.var (EU V K L),.var .nils]:=by unfold Re;rw [if_pos h]
theorem If {V K L : Int} {l : List Nat} (h : l ≠ []) : Re V K L l = [.var (EU V K L),.var (.sl 2 0 l.length),.row .leaf (Ak l)]:=by unfold Re;rw [if_neg h]
theorem Vq : ∀ V,V < 7 → ∀ K,K < 5 → 3 ≤ V → 2 ≤ K → K ≤ V → 0 < (HV V K).length:=by decide +kernel
theorem OM (V K L b : Nat) (hk : Kd.Ok ⟨V,K,L⟩) (hb : b ≤ 20) : Aj Tryz.prog 33 [EU V K L,iD b] (fun r=>r = .tuple [iD (Eu V K L b),iD 0]):=by
 have hR : Hy V K L:=by
  obtain ⟨h1,h2,h3,h4,h5,h6,h7⟩:=hk
  dsimp only at h1 h2 h3 h4 h5 h6 h7
  exact ⟨by omega,by omega,by omega,by omega,by omega,by omega,by omega⟩
 have hr:=Oc V K L
 rw [if_pos hR] at hr
 have hV6 : V ≤ 6:=hk.v6
 have hV3 : 3 ≤ V:=hk.v3
 have hp : 2 ^ V ≤ 2 ^ 6:=Nat.pow_le_pow_right (by decide) hV6
 have e1 : 1 <<< V = 2 ^ V:=Nat.one_shiftLeft _
 have eS : (HV V K).map II = C4 K (2 ^ V):=rfl
 generalize hN : 2 ^ V = N at *
 refine Aj.ofV ?_
 refine Ai (okc Tryz.f33.ntmps 0) (fn:=Tryz.f33) (cd:=_) rfl rfl rfl rfl rfl rfl (fun hbd=>?_)
 repeat' (
  conv=>whnf
  first
  |((with_reducible refine Aw ?_);refine Bd hr ?_)
  |((with_reducible apply FU (a:=1));(rfl);(rfl);(omega);(rw [e1];unfold Ax;omega))
  |refine Ap (fun h=>?_) (fun h=>?_)
  |((with_reducible apply ob);(exact oT)))
 all_goals (conv=>whnf)
 all_goals (first|(exfalso;omega)|skip)
 refine Bt (X:=Nat) (fun x=>[(1,iD b),(2,.ptr 0 []),(6,.ptr 1 []),(22,sD N),(23,sD x)]) (fun x=>Re V K L (C4 K x)) (fun x=>x ≤ N) (fun x=>N - x)
  ⟨_,A4 0 (by repeat (first|exact trivial|refine B7 rfl ?_|refine B7 (by rw [e1];rfl) ?_)) rfl (Nat.lt_succ_self _) (Nat.zero_le _)⟩ ?_
 intro x hx
 have hsl:=U4 K x
 have hn:=Te K x
 have hpl : (C4 K x).length = (JP K x).length:=by simp [C4]
 have hp0:=A6 (C4 K x)
 rcases Nat.lt_or_ge x N with h1|h1
 ·have hon:=VQ x (by omega)
  have hpc:=WO x (by omega)
  by_cases hsz : CJ x = K
  ·rw [if_pos hsz] at hn
   have hpn : C4 K (x + 1) = C4 K x ++ [II x]:=by unfold C4;rw [hn,List.map_append];rfl
   by_cases hnil : C4 K x = []
   ·rw [M1 hnil]
    repeat' (
     conv=>whnf
     first
     |((with_reducible refine A0 ?_);refine A3 hon ?_)
     |((with_reducible refine A0 ?_);refine A3 hpc ?_)
     |refine Ap (fun h=>?_) (fun h=>?_)
     |((with_reducible apply Ks);(rfl);(exact wA))
     |((with_reducible apply NY);(omega);(exact wA))
     |((with_reducible apply A1 4);rfl)
     |((with_reducible apply ob);(exact oT)))
    all_goals (conv=>whnf)
    all_goals (first|(exfalso;omega)|skip)
    have hO1:=If (V:=V) (K:=K) (L:=L) (l:=C4 K (x + 1)) (by rw [hpn];simp)
    refine nx (x + 1) [0,1,3] (by rw [hO1];exact Cj) (by rw [hO1];exact A8 rfl rfl (A8 (by rw [hpn,hnil];rfl) rfl (Bb rfl (by rw [hpn,hnil];rfl) (A7 _) trivial))) rfl rfl (by omega) (by omega)
   ·rw [If hnil]
    repeat' (
     conv=>whnf
     first
     |((with_reducible refine A0 ?_);refine A3 hon ?_)
     |((with_reducible refine A0 ?_);refine A3 hpc ?_)
     |refine Ap (fun h=>?_) (fun h=>?_)
     |((with_reducible apply Ks);(rfl);(exact wA))
     |((with_reducible apply NY);(omega);(exact wA))
     |((with_reducible apply A1 4);rfl)
     |((with_reducible apply ob);(exact oT)))
    all_goals (conv=>whnf)
    all_goals (first|(exfalso;omega)|skip)
    have hO1:=If (V:=V) (K:=K) (L:=L) (l:=C4 K (x + 1)) (by rw [hpn];simp)
    refine nx (x + 1) [0,1,4] (by rw [hO1];exact Cj) (by rw [hO1];exact A8 rfl rfl (A8 (congrArg (fun n=>Ob.var (D.sl 4 0 n)) (show (C4 K x).length + 1 = (C4 K (x + 1)).length by rw [hpn];simp)) rfl (Bb rfl (by show List.take _ (Ak _) ++ [_] = _;rw [List.take_of_length_le (by omega),hpn];simp [Ak,sD]) (A7 _) trivial))) rfl rfl (by omega) (by omega)
  ·rw [if_neg hsz] at hn
   have hpn : C4 K (x + 1) = C4 K x:=by unfold C4;rw [hn]
   by_cases hnil : C4 K x = []
   ·rw [M1 hnil]
    repeat' (
     conv=>whnf
     first
     |((with_reducible refine A0 ?_);refine A3 hon ?_)
     |refine Ap (fun h=>?_) (fun h=>?_)
     |((with_reducible apply NY);(omega);(exact wA))
     |((with_reducible apply A1 4);rfl))
    all_goals (conv=>whnf)
    all_goals (first|(exfalso;omega)|skip)
    exact A4 (x + 1) Bn (by rw [hpn,M1 hnil]) (by omega) (by omega)
   ·rw [If hnil]
    repeat' (
     conv=>whnf
     first
     |((with_reducible refine A0 ?_);refine A3 hon ?_)
     |refine Ap (fun h=>?_) (fun h=>?_)
     |((with_reducible apply NY);(omega);(exact wA))
     |((with_reducible apply A1 4);rfl))
    all_goals (conv=>whnf)
    all_goals (first|(exfalso;omega)|skip)
    exact A4 (x + 1) Bn (by rw [hpn,If hnil]) (by omega) (by omega)
 ·have : x = N:=by omega
  subst this
  have hK:=hk.k4
  have hK2:=hk.k2
  have hKV:=hk.kv
  dsimp only at hK hK2 hKV
  have hne : C4 K x ≠ []:=by
   rw [← eS]
   have:=Vq V (by omega) K (by omega) hV3 hK2 hKV
   exact fun e=>by rw [List.map_eq_nil_iff.1 e] at this;simp at this
  have hlen : (C4 K x).length ≤ 20:=by
   rw [← eS,List.length_map]
   have:=Ri V (by omega) K (by omega)
   omega
  have hlt : ∀ y ∈ C4 K x,y < 2 ^ 21:=fun y hy=>by
   rw [← eS] at hy
   obtain ⟨c,hc,rfl⟩:=List.mem_map.1 hy
   have:=(Uz.1 hc).1
   exact Wv (by omega)
  have hcnt:=VJ V K L (by have:=hk.l2;dsimp only at this;omega) (C4 K x) hlt hlen b 0 0 0 hb (Nat.zero_le _) (by decide) (by decide)
  rw [If hne]
  repeat' (
   conv=>whnf
   first
   |refine Ap (fun h=>?_) (fun h=>?_)
   |((with_reducible apply A1 4);rfl))
  all_goals (conv=>whnf)
  all_goals (first|(exfalso;omega)|skip)
  refine HC.frame [1,0,3] hcnt (.step 2 .leaf (Ak (C4 K x)) rfl (A7 _) (.var 1 (A5 (C4 K x)) _ rfl (Bi rfl (A6 _)) rfl rfl (.refl _))) (A8 rfl rfl (A8 rfl rfl (A8 rfl rfl trivial))) rfl (by simp) (Dj _ _) rfl ?_
  intro r H0' hq _
  obtain ⟨rfl,rfl⟩:=A2 hq
  all_goals (conv=>whnf)
  refine fC rfl ?_
  unfold Eu
  rw [eS]
  rfl
theorem Rs (v k l b : Int) (h : ¬ Hy v k l ∨ b < 0 ∨ 20 < b) : Aj Tryz.prog 33 [EU v k l,.int .i64 b] (fun r=>r = .tuple [iD 0,iD 1]):=by
 have hr:=Oc v k l
 by_cases hR : Hy v k l
 ·rw [if_pos hR] at hr
  have h:=h.resolve_left (fun h=>h hR)
  refine Aj.ofV ?_
  refine Ai (okc Tryz.f33.ntmps 0) (fn:=Tryz.f33) (cd:=_) rfl rfl rfl rfl rfl rfl (fun hbd=>?_)
  repeat' (
   conv=>whnf
   first
   |((with_reducible refine Aw ?_);refine Bd hr ?_)
   |refine Ap (fun h=>?_) (fun h=>?_)
   |((with_reducible apply Fx);(rfl);(omega);(omega);(exact wA))
   |((with_reducible apply ob);(exact oT)))
  all_goals (conv=>whnf)
  all_goals (first|(exfalso;omega)|exact fC rfl rfl)
 ·rw [if_neg hR] at hr
  refine Aj.ofV ?_
  refine Ai (okc Tryz.f33.ntmps 0) (fn:=Tryz.f33) (cd:=_) rfl rfl rfl rfl rfl rfl (fun hbd=>?_)
  repeat' (
   conv=>whnf
   first
   |((with_reducible refine Aw ?_);refine Bd hr ?_))
  all_goals (conv=>whnf)
  all_goals (first|(exfalso;omega)|exact fC rfl rfl)
open Go
def AbN (x : Inc) (r : Nat) : List Int:=lK (AcR x.V r (VM x x.V)) x.V
structure OrbsOk (x : Inc) (p : Nat) (s : List (List Int) × List Bool) : Prop where
 len : s.2.length = x.V
 cls : ∀ o ∈ s.1,∃ r,r < p ∧ r < x.V ∧ o = AbN x r
 dj : s.1.Pairwise fun o o'=>∀ q ∈ o,q ∉ o'
 dn : ∀ q,q < x.V → (s.2.getD q false = true ↔ ∃ o ∈ s.1,(q : Int) ∈ o)
 all : ∀ q,q < p → s.2.getD q false = true
open Go
def Gt (B : List Nat) (p : Nat) : Nat:=B.countP fun b=>b.testBit p
open Go
open Go
theorem Ach {α : Type} {l : List α} (h : l.length = 4) : ∃ o0 o1 o2 o3,l = [o0,o1,o2,o3]:=by
 match l,h with
 |[a,b,c,d],_=>exact ⟨a,b,c,d,rfl⟩
theorem Xy (s : Nat) (hs : Ax s) (g : Nat) (hg : g < 4) (J : Nat → List Ob → Prop) (Q : D → List Ob → Prop)
  (hJ : ∀ k H,J k H → ∃ o0 o1 o2 o3,H = [o0,o1,o2,o3] ∧ ∀ o ∈ H,As 4 o = true)
  (hyl : ∀ k p H,J k H → (Aa s)[k]? = some p → YC Tryz.prog g [iD p] H (fun r H'=>Bz (H'.length = 4 ∧ (∀ o ∈ H',As 4 o = true) ∧ ((r = .bool true ∧ J (k + 1) H') ∨ (r = .bool false ∧ Q (.tuple []) H')))))
  (hend : ∀ H,J (Aa s).length H → Q (.tuple []) H) (H0 : List Ob) (h0 : J 0 H0) :
  HC Tryz.prog 90 [sD s,.yld g] H0 Q:=by
 obtain ⟨o0,o1,o2,o3,rfl,hin⟩:=hJ 0 H0 h0
 refine HC.view (Q0:=fun r H'=>Bz (∃ Hc Y,H' = Hc ++ Y ∧ Hc.length = 4 ∧ (∀ o ∈ Hc,As 4 o = true) ∧ r = .tuple [] ∧ Q r Hc)) ?_ ?_
 ·refine Ai (okc Tryz.f90.ntmps 4) (fn:=Tryz.f90) (cd:=_) rfl rfl rfl rfl rfl rfl (fun hbd=>?_)
  all_goals (conv=>whnf)
  refine Bt (X:=Nat × Nat × List Ob) (fun x=>[(1,.yld g),(4,sD x.2.1)]) (fun x=>x.2.2) (fun x=>Ax x.2.1 ∧ Aa x.2.1 = (Aa s).drop x.1 ∧ J x.1 x.2.2 ∧ x.1 ≤ (Aa s).length) (fun x=>(Aa x.2.1).length) ⟨_,A4 (0,s,[o0,o1,o2,o3]) Bn rfl (Nat.lt_succ_self _) ⟨hs,rfl,h0,Nat.zero_le _⟩⟩ ?_
  rintro ⟨j,x,Hc⟩ ⟨hx,hb,hj,hjle⟩
  dsimp only at hx hb hj hjle ⊢
  clear hin h0
  obtain ⟨o0,o1,o2,o3,rfl,hin⟩:=hJ _ _ hj
  cases hbx : Aa x with
  |nil =>
   have hx0:=DE hx hbx
   subst hx0
   conv=>whnf
   rw [hbx] at hb
   have hjl : j = (Aa s).length:=by
    have:=congrArg List.length hb
    rw [List.length_drop] at this
    simp only [List.length_nil] at this
    omega
   exact Ac ⟨[o0,o1,o2,o3],[],rfl,rfl,hin,rfl,hend _ (hjl ▸ hj)⟩
  |cons i t =>
   obtain ⟨hi,hlow,hpred,hi64⟩:=Dv hbx
   have hx1 : 1 ≤ x:=by
    rcases Nat.eq_zero_or_pos x with e|e
    ·rw [e] at hi;simp at hi
    ·exact e
   have hjl : j < (Aa s).length:=by
    have:=congrArg List.length hb
    rw [hbx,List.length_drop] at this
    simp only [List.length_cons] at this
    omega
   rw [hbx] at hb
   have hji : (Aa s)[j]? = some i:=by
    have:=congrArg (fun l=>l[0]?) hb
    simpa [List.getElem?_drop] using this.symm
   have hjt : t = (Aa s).drop (j + 1):=by
    have:=congrArg List.tail hb
    simpa using this
   repeat' (
    conv=>whnf
    first
    |refine D4 (fun h=>?_) (fun h=>?_)
    |((with_reducible refine Aw ?_);refine Bd (K5 x i hx hi hlow) ?_)
    |refine BW ?_)
   all_goals (conv=>whnf)
   ·refine FQ (Hc:=[o0,o1,o2,o3]) (Y:=[]) (Y1:=[]) (hyl j i _ hj hji) hg (.refl _) hin (Dj _ _) rfl ?_
    intro r H' hq
    obtain ⟨hl',hin',hcase⟩:=A2 hq
    refine ⟨hl',hin',by rcases hcase with ⟨rfl,_⟩|⟨rfl,_⟩ <;> rfl,?_⟩
    rcases hcase with ⟨rfl,hJ'⟩|⟨rfl,hQ'⟩
    ·clear hin hj
     obtain ⟨o0,o1,o2,o3,rfl,hin⟩:=hJ _ _ hJ'
     repeat' (
      conv=>whnf
      first
      |((with_reducible apply BM);(rfl);(rfl);(exact wA);(exact wA))
      |((with_reducible apply Ew);(rfl);(rfl);(first|exact Dx _|omega);(exact wA)))
     all_goals (conv=>whnf)
     refine A4 (j + 1,x &&& (x - 1),[o0,o1,o2,o3]) Bn rfl ?_ ⟨HF hx,hpred.trans hjt,hJ',hjl⟩
     show (Aa (x &&& (x - 1))).length < (i :: t).length
     rw [hpred];simp
    ·all_goals (conv=>whnf)
     exact Ac ⟨H',_,rfl,hl',hin',rfl,hQ'⟩
   ·exact absurd h (by omega)
 ·intro r H' hq
  obtain ⟨Hc,Y,rfl,hl,hino,rfl,hq⟩:=A2 hq
  refine ⟨Hc ++ Y,.tuple [],4,.refl _,.refl _,Nat.le_refl _,by simp;omega,rfl,?_,?_⟩
  ·rw [← hl,List.take_left];rw [hl];exact hino
  ·rw [← hl,List.take_left];exact hq
theorem Wn (s : Nat) (hs : Ax s) (g : Nat) (hg : g < 4) {H0 : List Ob} (lp : Ob) (pre0 : List Ob) (hH : H0 = pre0 ++ [lp]) (J : Nat → List Ob → Prop) (Q : D → List Ob → Prop)
  (hJ : ∀ k X,J k X → X.length + 1 = 4 ∧ ∀ o ∈ X,As 4 o = true) (hlp : As 4 lp = true)
  (hyl : ∀ k p X,J k X → (Aa s)[k]? = some p → YC Tryz.prog g [iD p] (X ++ [lp]) (fun r H'=>Bz ((r = .bool true ∧ ∃ X',H' = X' ++ [lp] ∧ J (k + 1) X') ∨ (r = .bool false ∧ H'.length = 4 ∧ (∀ o ∈ H',As 4 o = true) ∧ Q (.tuple []) H'))))
  (hend : ∀ X,J (Aa s).length X → Q (.tuple []) (X ++ [lp])) (h0 : J 0 pre0) :
  HC Tryz.prog 90 [sD s,.yld g] H0 Q:=by
 have hin : ∀ k X,J k X → (X ++ [lp]).length = 4 ∧ ∀ o ∈ X ++ [lp],As 4 o = true:=by
  intro k X h
  obtain ⟨h1,h2⟩:=hJ k X h
  refine ⟨by simp;omega,fun o ho=>?_⟩
  rcases List.mem_append.1 ho with ho|ho
  ·exact h2 o ho
  ·simp at ho;subst ho;exact hlp
 refine Xy s hs g hg (fun k H=>∃ X,H = X ++ [lp] ∧ J k X) Q (fun k H h=>?_) (fun k p H h hp=>?_) (fun H h=>?_) H0 ⟨pre0,hH,h0⟩
 ·obtain ⟨X,rfl,hj⟩:=h
  obtain ⟨h1,h2⟩:=hin k X hj
  obtain ⟨o0,o1,o2,o3,h3⟩:=Ach h1
  exact ⟨o0,o1,o2,o3,h3,h2⟩
 ·obtain ⟨X,rfl,hj⟩:=h
  refine YC.mono (hyl k p X hj hp) fun r H' hq=>?_
  rcases A2 hq with ⟨h1,X',rfl,h3⟩|⟨h1,h2,h3,h4⟩
  ·obtain ⟨h4,h5⟩:=hin _ _ h3
   exact Ac ⟨h4,h5,.inl ⟨h1,X',rfl,h3⟩⟩
  ·exact Ac ⟨h2,h3,.inr ⟨h1,h4⟩⟩
 ·obtain ⟨X,rfl,hj⟩:=h
  exact hend X hj
def Gj (V : Nat) (B l : List Nat) : List Int:=(List.range V).map fun p=>(Gt B p : Int) + (if p ∈ l then 1 else 0)
theorem LL (V : Nat) (B l : List Nat) : (Gj V B l).length = V:=by simp [Gj]
theorem LH {V : Nat} {B l : List Nat} {p : Nat} (h : p < V) : (Gj V B l)[p]? = some ((Gt B p : Int) + (if p ∈ l then 1 else 0)):=by simp [Gj,h]
theorem WJ {V : Nat} {B l : List Nat} {p : Nat} (hp : p < V) (hn : p ∉ l) : (Gj V B l).set p ((Gt B p : Int) + 1) = Gj V B (l ++ [p]):=by
 refine List.ext_getElem? fun q=>?_
 by_cases hq : q < V
 ·by_cases e : p = q
  ·subst e
   rw [List.getElem?_set_self (by rw [LL];exact hq),LH hq]
   simp
  ·rw [List.getElem?_set_ne e,LH hq,LH hq]
   simp only [List.mem_append,List.mem_singleton,Option.some.injEq]
   have : ¬ q = p:=fun h=>e h.symm
   simp [this]
 ·rw [List.getElem?_eq_none (by rw [List.length_set,LL];omega),List.getElem?_eq_none (by rw [LL];omega)]
theorem Vl {V : Nat} {B : List Nat} {k b : Nat} (hV : V ≤ 64) (h : B[k]? = some b) : Gj V (B.take k) (Aa b) = Gj V (B.take (k + 1)) []:=by
 refine List.map_congr_left fun p hp=>?_
 have hp:=List.mem_range.1 hp
 rw [List.take_add_one,h]
 unfold Gt
 rw [List.countP_append]
 simp only [Option.toList_some,List.countP_singleton,Ba,List.not_mem_nil,if_false]
 have : p < 64:=by omega
 cases b.testBit p <;> simp [this]
theorem Wy (b : Nat) : (Aa b).Nodup:=List.nodup_range.filter _
theorem Uo {b k p : Nat} (h : (Aa b)[k]? = some p) : (Aa b).take (k + 1) = (Aa b).take k ++ [p] ∧ p ∉ (Aa b).take k:=by
 have e : (Aa b).take (k + 1) = (Aa b).take k ++ [p]:=by rw [List.take_add_one,h];rfl
 refine ⟨e,fun hm=>?_⟩
 have h1 : ((Aa b).take (k + 1)).Nodup:=(Wy b).sublist (List.take_sublist _ _)
 rw [e] at h1
 exact (List.nodup_append.1 h1).2.2 p hm p (List.mem_singleton.2 rfl) rfl
end Go.Proofs.YtbpifoakbkmblaaGreatDoor.Pw
