/- Parts of the proof, merged: CR CT CQ CS CU CV CW AS AT CX AU AV AW AX AY BK EA AZ BN EB ED. -/
import Derived.Test.YtbpifoakbkmblaaGreatDoorXc
import Derived.Test.YtbpifoakbkmblaaGreatDoorXd
import Derived.Test.YtbpifoakbkmblaaGreatDoorXa
import Derived.KernelRfl

set_option linter.unusedVariables false
set_option linter.unusedSimpArgs false
set_option maxHeartbeats 40000000
set_option maxRecDepth 10000
namespace Go.Proofs.YtbpifoakbkmblaaGreatDoor.Pw
open Go
def Oj (l : List Int) (b : Int) : List Int:=match l with
 |[]=>[b]
 |a :: l=>if b ≤ a then b :: a :: l else a :: Oj l b
def Cg : List Int → List Int
 |[]=>[]
 |a :: l=>Oj (Cg l) a
theorem KE : ∀ (l : List Int) (b : Int),(Oj l b).Perm (b :: l)
 |[],b=>.refl _
 |a :: l,b=>by
  unfold Oj
  split
  ·exact .refl _
  ·exact ((KE l b).cons a).trans (.swap _ _ _)
theorem Q9 : ∀ {l : List Int} (b : Int),l.Pairwise (· ≤ ·) → (Oj l b).Pairwise (· ≤ ·)
 |[],b,_=>List.pairwise_singleton _ _
 |a :: l,b,h=>by
  obtain ⟨h1,h2⟩:=List.pairwise_cons.1 h
  unfold Oj
  split
  ·rename_i hb
   exact List.pairwise_cons.2 ⟨fun x hx=>by rcases List.mem_cons.1 hx with rfl|hx;exact hb;exact Int.le_trans hb (h1 x hx),h⟩
  ·rename_i hb
   refine List.pairwise_cons.2 ⟨fun x hx=>?_,Q9 b h2⟩
   rcases List.mem_cons.1 ((KE l b).mem_iff.1 hx) with rfl|hx
   ·omega
   ·exact h1 x hx
theorem HN : ∀ l : List Int,(Cg l).Perm l
 |[]=>.refl _
 |a :: l=>(KE _ _).trans ((HN l).cons a)
theorem KY : ∀ l : List Int,(Cg l).Pairwise (· ≤ ·)
 |[]=>.nil
 |a :: l=>Q9 a (KY l)
theorem S8 : ∀ (l m : List Int),l.Pairwise (· ≤ ·) → m.Pairwise (· ≤ ·) → l.Perm m → l = m
 |[],m,_,_,h=>(List.nil_perm.1 h).symm
 |a :: l,[],_,_,h=>(List.cons_ne_nil _ _ (List.perm_nil.1 h)).elim
 |a :: l,b :: m,hl,hm,h=>by
  obtain ⟨h1,h2⟩:=List.pairwise_cons.1 hl
  obtain ⟨h3,h4⟩:=List.pairwise_cons.1 hm
  have e : a = b:=by
   have ha:=h.mem_iff.1 (List.mem_cons_self (a:=a) (l:=l))
   have hb:=h.mem_iff.2 (List.mem_cons_self (a:=b) (l:=m))
   rcases List.mem_cons.1 ha with ha|ha
   ·exact ha
   ·rcases List.mem_cons.1 hb with hb|hb
    ·exact hb.symm
    ·exact Int.le_antisymm (h1 b hb) (h3 a ha)
  subst e
  rw [S8 l m h2 h4 h.cons_inv]
theorem N1 {l m : List Int} (h : m.Perm l) (hs : m.Pairwise (· ≤ ·)) : m = Cg l:=S8 _ _ hs (KY l) (h.trans (HN l).symm)
theorem Mc {l m : List Int} (h : m.Perm l) : Cg m = Cg l:=N1 ((HN m).trans h) (KY m)
theorem OI (l : List Int) : (Cg l).length = l.length:=(HN l).length_eq
def E1 (x : Inc) : List Int:=x.B.map fun b=>(CJ b : Int)
def F7 (x : Inc) : List Int:=(List.range x.V).map fun p=>(Gt x.B p : Int)
theorem OU (B : List Nat) (p : Nat) : Gt B p = B.countP (·.testBit p):=rfl
theorem Rd {x : Inc} (hx : x.Fam) {g : List Int} (hg : Pm g x.V) : (Bo x g).B.Perm (x.B.map (GP g)):=by
 rw [GT hx hg];exact Cv _
theorem Xm {x : Inc} (hx : x.Fam) {g : List Int} (hg : Pm g x.V) : (E1 (Bo x g)).Perm (E1 x):=by
 have hV:=hx.v7
 refine ((Rd hx hg).map _).trans ?_
 rw [List.map_map]
 refine .of_eq (List.map_congr_left fun b hb=>?_)
 show ((CJ (GP g b) : Nat) : Int) = _
 rw [VA hg (by omega) (hx.lt b hb)]
theorem Xv {x : Inc} (hx : x.Fam) {g : List Int} (hg : Pm g x.V) : (F7 (Bo x g)).Perm (F7 x):=by
 have hV:=hx.v7
 have h1 : ∀ p,p < x.V → Gt (Bo x g).B (g.getD p 0).toNat = Gt x.B p:=fun p hp=>by
  rw [OU,OU,(Rd hx hg).countP_eq,List.countP_map]
  refine List.countP_congr fun b hb=>?_
  show (GP g b).testBit _ = true ↔ _
  rw [X8 hg (by omega) (hx.lt b hb) hp]
 have h2 : ((List.range x.V).map fun p=>(g.getD p 0).toNat).Perm (List.range x.V):=by
  have e1 : ((List.range x.V).map fun p=>(g.getD p 0).toNat) = g.map Int.toNat:=by
   refine List.ext_getElem (by simp [hg.1]) fun i h1 h2=>?_
   simp only [List.getElem_map,List.getElem_range]
   rw [List.getD_eq_getElem?_getD,List.getElem?_eq_getElem (by simpa using h2)]
   rfl
  have e2 : (Bh x.V).map Int.toNat = List.range x.V:=by
   unfold Bh DT
   rw [List.map_map]
   exact (List.map_congr_left fun a _=>rfl).trans (List.map_id _)
  rw [e1,← e2]
  exact (JA.1 hg).map _
 unfold F7
 rw [HX]
 refine (h2.symm.map _).trans ?_
 rw [List.map_map]
 refine .of_eq (List.map_congr_left fun p hp=>?_)
 show ((Gt (Bo x g).B (g.getD p 0).toNat : Nat) : Int) = _
 rw [h1 p (List.mem_range.1 hp)]
theorem Ux {x y : Inc} (hx : x.Fam) (hy : y.Fam) (hv : x.V = y.V) (h : Cu x = Cu y) : Cg (E1 x) = Cg (E1 y) ∧ Cg (F7 x) = Cg (F7 y):=by
 obtain ⟨g,hg,rfl⟩:=RN hx hy hv h
 exact ⟨(Mc (Xm hx hg)).symm,(Mc (Xv hx hg)).symm⟩
theorem Sd {x y : Inc} (hx : x.Fam) (hy : y.Fam) (hv : x.V = y.V) : Cu x = Cu y ↔ ∃ g,Pm g x.V ∧ (Bo x g).B = y.B:=by
 constructor
 ·intro h
  obtain ⟨g,hg,e⟩:=RN hx hy hv h
  exact ⟨g,hg,by rw [e]⟩
 ·rintro ⟨g,hg,e⟩
  have : Bo x g = y:=by
   have h1 : (Bo x g).V = y.V:=by rw [HX,hv]
   cases hz : Bo x g with|mk a b=>rw [hz] at h1 e;cases y;simp only at h1 e;rw [h1,e]
  rw [← this,Vj hx hg]
open Go
def VV (n : Nat) : D:=.func 124 [.ref .leaf (iD n),.ptr 8 [],.ptr 10 [],.ptr 11 []]
def OW (n : Nat) (l : List Int) : List Ob:=[.var (.yld 7),.row .leaf (Ab l),.var (.sl 9 0 n),.var (VV n)]
theorem Sp (n : Nat) (hn : n ≤ 7) (J : List (List Int) → List Ob → Prop) (S : List Ob → Prop) (hJ : ∀ d H,J d H → ∃ o0 o1 o2 o3 o4 o5 o6 o7,H = [o0,o1,o2,o3,o4,o5,o6,o7] ∧ ∀ o ∈ H,As 8 o = true) (hS : ∀ H,S H → ∃ o0 o1 o2 o3 o4 o5 o6 o7,H = [o0,o1,o2,o3,o4,o5,o6,o7] ∧ ∀ o ∈ H,As 8 o = true)
  (hyl : ∀ d H p,J d H → Pm p n → YC Tryz.prog 7 [.sl 9 0 n] (H ++ [.var (.yld 7),.row .leaf (Ab p)]) (fun r H'=>Bz (∃ H2,H' = H2 ++ [.var (.yld 7),.row .leaf (Ab p)] ∧ ((r = .bool true ∧ J (d ++ [p]) H2) ∨ (r = .bool false ∧ S H2))))) :
  ∀ (f : Nat) (pre l : List Int) (d : List (List Int)) (H : List Ob),pre.length + f = n → CH pre n → l.length = n → l.take pre.length = pre → J d H →
  HC Tryz.prog 124 [iD pre.length,iD (DR pre),.ref .leaf (iD n),.ptr 8 [],.ptr 10 [],.ptr 11 []] (H ++ OW n l) (fun r H'=>Bz (∃ H2 l2,H' = H2 ++ OW n l2 ∧ ((r = .bool true ∧ l2.length = n ∧ l2.take pre.length = pre ∧ J (d ++ I0 n f pre) H2) ∨ (r = .bool false ∧ S H2))))
 |f,pre,l,d,H,hf,hd,hl,htk,hj=>by
  have ih : ∀ f',f = f' + 1 → ∀ (p : Nat) (l : List Int) (d : List (List Int)) (H : List Ob),p < n → ((p : Nat) : Int) ∉ pre → l.length = n → l.take (pre.length + 1) = pre ++ [((p : Nat) : Int)] → J d H →
    HC Tryz.prog 124 [iD (pre.length + 1),iD (DR pre ||| 1 <<< p),.ref .leaf (iD n),.ptr 8 [],.ptr 10 [],.ptr 11 []] (H ++ OW n l) (fun r H'=>Bz (∃ H2 l2,H' = H2 ++ OW n l2 ∧ ((r = .bool true ∧ l2.length = n ∧ l2.take (pre.length + 1) = pre ++ [((p : Nat) : Int)] ∧ J (d ++ I0 n f' (pre ++ [((p : Nat) : Int)])) H2) ∨ (r = .bool false ∧ S H2)))):=by
   intro f' hf' p l d H hp hnp hl htk hj
   subst hf'
   have:=Sp n hn J S hJ hS hyl f' (pre ++ [((p : Nat) : Int)]) l d H (by simp;omega) ⟨fun x hx=>by
    rcases List.mem_append.1 hx with h|h
    ·exact hd.1 x h
    ·rw [List.mem_singleton.1 h];omega,by
    rw [List.nodup_append]
    refine ⟨hd.2,by simp,fun a ha b hb=>?_⟩
    rw [List.mem_singleton.1 hb]
    rintro rfl;exact hnp ha⟩ hl (by simpa using htk) hj
   rw [SG,List.length_append] at this
   exact this
  obtain ⟨o0,o1,o2,o3,o4,o5,o6,o7,rfl,hin⟩:=hJ d H hj
  have hu:=PC pre n hd.1
  have hu2 : DR pre < 128:=Nat.lt_of_lt_of_le hu (Nat.pow_le_pow_right (by decide) hn)
  clear hu
  have hl0:=Aq l
  have hpr:=fun q=>O9 pre q (fun x hx=>(hd.1 x hx).1)
  have hin10 : ∀ (l : List Int) (o : Ob),o ∈ [o0,o1,o2,o3,o4,o5,o6,o7] ++ [Ob.var (.yld 7),.row .leaf (Ab l)] → As 10 o = true:=by
   intro l o ho
   rcases List.mem_append.1 ho with h|h
   ·exact F6 (by decide) o (hin o h)
   ·rcases List.mem_cons.1 h with rfl|h
    ·rfl
    ·rw [List.mem_singleton.1 h];exact B9 _ _ (Ad _)
  refine Ai (okc Tryz.f124.ntmps 12) (fn:=Tryz.f124) (cd:=_) rfl rfl rfl rfl rfl rfl (fun hbd=>?_)
  repeat' (
   conv=>whnf
   first
   |refine Ap (fun h=>?_) (fun h=>?_))
  all_goals (conv=>whnf)
  ·have hf0 : f = 0:=by omega
   subst hf0
   have hlp : l = pre:=by rw [← htk];rw [List.take_of_length_le (by omega)]
   subst hlp
   refine Vn (Hc:=[o0,o1,o2,o3,o4,o5,o6,o7] ++ [Ob.var (.yld 7),.row .leaf (Ab l)]) (Y:=[.var (.sl 9 0 n),.var (VV n)]) (hyl d _ l hj ⟨by omega,hd⟩) (show 7 < 10 by decide) (hin10 l) (Dj _ _) rfl ?_
   intro r H' hq
   obtain ⟨H2,rfl,hj2⟩:=A2 hq
   have hsh : ∃ o0 o1 o2 o3 o4 o5 o6 o7,H2 = [o0,o1,o2,o3,o4,o5,o6,o7] ∧ ∀ o ∈ H2,As 8 o = true:=by
    rcases hj2 with ⟨_,h⟩|⟨_,h⟩
    ·exact hJ _ _ h
    ·exact hS _ h
   have hrc : (r = .bool true ∨ r = .bool false) ∧ ((r = .bool true ∧ l.length = n ∧ l.take l.length = l ∧ J (d ++ I0 n 0 l) H2) ∨ (r = .bool false ∧ S H2)):=⟨hj2.imp (fun h=>h.1) (fun h=>h.1),hj2.imp (fun h=>⟨h.1,hl,htk,h.2⟩) id⟩
   clear hin hj hin10 hj2
   obtain ⟨o0,o1,o2,o3,o4,o5,o6,o7,rfl,hin⟩:=hsh
   obtain ⟨hb,hfin⟩:=hrc
   refine ⟨rfl,?_,by rcases hb with rfl|rfl <;> rfl,?_⟩
   ·intro o ho
    rcases List.mem_append.1 ho with h|h
    ·exact F6 (show 8 ≤ 10 by decide) o (hin o h)
    ·rcases List.mem_cons.1 h with rfl|h
     ·rfl
     ·rw [List.mem_singleton.1 h];exact B9 _ _ (Ad _)
   ·rcases hb with rfl|rfl
    ·all_goals (conv=>whnf)
     exact Ac ⟨[o0,o1,o2,o3,o4,o5,o6,o7],l,rfl,hfin⟩
    ·all_goals (conv=>whnf)
     exact Ac ⟨[o0,o1,o2,o3,o4,o5,o6,o7],l,rfl,hfin⟩
  ·obtain ⟨f',rfl⟩ : ∃ f',f = f' + 1:=⟨f - 1,by omega⟩
   refine Bt (X:=Nat × List Int × List Ob) (fun s=>[(0,iD pre.length),(1,iD (DR pre)),(4,.ptr 10 []),(5,.ptr 11 []),(16,iD n),(17,iD s.1)]) (fun s=>s.2.2 ++ OW n s.2.1) (fun s=>(s.1 ≤ n ∧ s.2.1.length = n) ∧ s.2.1.take pre.length = pre ∧ J (d ++ HU n f' pre s.1) s.2.2) (fun s=>n - s.1)
    ⟨_,A4 (0,l,[o0,o1,o2,o3,o4,o5,o6,o7]) Bn rfl (Nat.lt_succ_self _) ⟨⟨Nat.zero_le _,hl⟩,htk,by simpa [HU] using hj⟩⟩ ?_
   rintro ⟨k,l,Hc⟩ ⟨⟨hk,hl⟩,htk,hj⟩
   dsimp only at hk hl htk hj ⊢
   clear hin hin10
   obtain ⟨o0,o1,o2,o3,o4,o5,o6,o7,rfl,hin⟩:=hJ _ _ hj
   have hl0:=Aq l
   have hpk:=hpr k
   have hsh : DR pre >>> k ≤ DR pre:=Nat.shiftRight_le _ _
   have hb1:=Hz (DR pre) k
   have hone : ∀ j,j < 8 → 1 <<< j < 256:=by decide
   rcases Nat.lt_or_ge k n with hkn|hkn
   ·have h1k:=hone k (by omega)
    by_cases hmem : ((k : Nat) : Int) ∈ pre
    ·rw [hpk.2 hmem] at hb1
     have hb2:=of_decide_eq_true hb1
     repeat' (
      conv=>whnf
      first
      |((with_reducible apply TR);(rfl);(rfl);(omega))
      |((with_reducible apply P6 (b:=1));(rfl);(rfl);(omega);(decide))
      |refine Ap (fun h=>?_) (fun h=>?_)
      |with_reducible refine Ao ?_
      |((with_reducible apply A1 7);rfl)
      |((with_reducible apply ob);(exact oT)))
     all_goals (conv=>whnf)
     all_goals (first|(exfalso;omega)|skip)
     exact A4 (k + 1,l,[o0,o1,o2,o3,o4,o5,o6,o7]) Bn rfl (by dsimp only;omega) ⟨⟨hkn,hl⟩,htk,by rw [Tu hmem];exact hj⟩
    ·have hb2 : ¬ ((DR pre >>> k &&& 1 : Nat) : Int) = 1:=by
      have : (DR pre).testBit k = false:=by
       cases h : (DR pre).testBit k with
       |false=>rfl
       |true=>exact absurd (hpk.1 h) hmem
      rw [this] at hb1
      exact of_decide_eq_false hb1
     repeat' (
      conv=>whnf
      first
      |((with_reducible apply TR);(rfl);(rfl);(omega))
      |((with_reducible apply P6 (b:=1));(rfl);(rfl);(omega);(decide))
      |((with_reducible apply Yo (a:=1));(rfl);(rfl);(omega);(omega))
      |((with_reducible apply AaU);(rfl);(rfl);(omega);(omega))
      |refine Ap (fun h=>?_) (fun h=>?_)
      |with_reducible refine Ao ?_
      |((with_reducible apply A1 7);rfl)
      |((with_reducible apply ob);(exact oT)))
     all_goals (conv=>whnf)
     all_goals (first|(exfalso;omega)|skip)
     have hlt : pre.length < l.length:=by omega
     have htk1 : (l.set pre.length ((k : Nat) : Int)).take (pre.length + 1) = pre ++ [((k : Nat) : Int)]:=by
      rw [List.take_add_one,List.take_set_of_le (Nat.le_refl _),htk]
      simp [hlt]
     have ih1:=ih f' rfl k (l.set pre.length ((k : Nat) : Int)) (d ++ HU n f' pre k) [o0,o1,o2,o3,o4,o5,o6,o7] hkn hmem (by simp;omega) htk1 hj
     refine Adv (H2:=[o0,o1,o2,o3,o4,o5,o6,o7] ++ OW n (l.set pre.length ((k : Nat) : Int))) ?_ (HC.mono ih1 ?_)
     ·have e : Ab (l.set pre.length ((k : Nat) : Int)) = (Ab l).set (0 + ((pre.length : Nat) : Int).toNat) (.int .i64 ((k : Nat) : Int)):=by
       simp [Ab,List.map_set]
      unfold OW
      rw [e];rfl
     ·intro r H' hq
      obtain ⟨H2,l2,rfl,hst⟩:=A2 hq
      rcases hst with ⟨rfl,hl2,htk2,hj2⟩|⟨rfl,hj2⟩
      case inr =>
       clear hin hj
       obtain ⟨o0,o1,o2,o3,o4,o5,o6,o7,rfl,hin⟩:=hS _ hj2
       all_goals (conv=>whnf)
       exact Ac ⟨[o0,o1,o2,o3,o4,o5,o6,o7],l2,rfl,.inr ⟨rfl,hj2⟩⟩
      clear hin hj
      obtain ⟨o0,o1,o2,o3,o4,o5,o6,o7,rfl,hin⟩:=hJ _ _ hj2
      have htk3 : l2.take pre.length = pre:=by
       have:=congrArg (List.take pre.length) htk2
       rw [List.take_take] at this
       simpa using this
      repeat' (
       conv=>whnf
       first
       |with_reducible refine Ao ?_)
      all_goals (conv=>whnf)
      exact A4 (k + 1,l2,[o0,o1,o2,o3,o4,o5,o6,o7]) Bn rfl (by dsimp only;omega) ⟨⟨hkn,hl2⟩,htk3,by rw [Tl hmem,← List.append_assoc];exact hj2⟩
   ·repeat' (
     conv=>whnf
     first
     |refine Ap (fun h=>?_) (fun h=>?_)
     |((with_reducible apply ob);(exact oT)))
    all_goals (conv=>whnf)
    all_goals (first|(exfalso;omega)|skip)
    have : k = n:=by omega
    subst this
    exact Ac ⟨[o0,o1,o2,o3,o4,o5,o6,o7],l,rfl,.inl ⟨rfl,hl,htk,hj⟩⟩
theorem SU {α : Type} {l : List α} (h : l.length = 8) : ∃ o0 o1 o2 o3 o4 o5 o6 o7,l = [o0,o1,o2,o3,o4,o5,o6,o7]:=by
 match l,h with
 |[a,b,c,d,e,f,g,i],_=>exact ⟨a,b,c,d,e,f,g,i,rfl⟩
theorem V3 (n : Nat) (hn : n ≤ 7) (J : List (List Int) → List Ob → Prop) (lp : Ob) (P0 : List Ob) {H0 : List Ob} (hH : H0 = P0 ++ [lp]) (Q : D → List Ob → Prop) (hJ : ∀ d P,J d P → P.length = 7 ∧ ∀ o ∈ P,As 8 o = true) (hlp : As 8 lp = true)
  (hyl : ∀ d P p,J d P → Pm p n → YC Tryz.prog 7 [.sl 9 0 n] ((P ++ [lp]) ++ [.var (.yld 7),.row .leaf (Ab p)]) (fun r H'=>Bz (∃ P2,H' = P2 ++ [.var (.yld 7),.row .leaf (Ab p)] ∧ ((r = .bool true ∧ ∃ P3,P2 = P3 ++ [lp] ∧ J (d ++ [p]) P3) ∨ (r = .bool false ∧ P2.length = 8 ∧ (∀ o ∈ P2,As 8 o = true) ∧ Q (.tuple []) P2)))))
  (hend : ∀ P,J (I0 n n []) P → Q (.tuple []) (P ++ [lp])) (h0 : J [] P0) : HC Tryz.prog 123 [.yld 7,.ref .leaf (iD n)] H0 Q:=by
 subst hH
 have hJ2 : ∀ d H,(∃ P,H = P ++ [lp] ∧ J d P) → H.length = 8 ∧ ∀ o ∈ H,As 8 o = true:=by
  rintro d H ⟨P,rfl,hj⟩
  obtain ⟨h1,h2⟩:=hJ d P hj
  refine ⟨by simp;omega,fun o ho=>?_⟩
  rcases List.mem_append.1 ho with h|h
  ·exact h2 o h
  ·rw [List.mem_singleton.1 h];exact hlp
 have key:=Sp n hn (fun d H=>∃ P,H = P ++ [lp] ∧ J d P) (fun P2=>P2.length = 8 ∧ (∀ o ∈ P2,As 8 o = true) ∧ Q (.tuple []) P2) (fun d H h=>by
  obtain ⟨h1,h2⟩:=hJ2 d H h
  obtain ⟨o0,o1,o2,o3,o4,o5,o6,o7,h3⟩:=SU h1
  exact ⟨o0,o1,o2,o3,o4,o5,o6,o7,h3,h2⟩) (fun H h=>by
  obtain ⟨h1,h2,_⟩:=h
  obtain ⟨o0,o1,o2,o3,o4,o5,o6,o7,h3⟩:=SU h1
  exact ⟨o0,o1,o2,o3,o4,o5,o6,o7,h3,h2⟩) (fun d H p h hp=>by
  obtain ⟨P,rfl,hj⟩:=h
  refine YC.mono (hyl d P p hj hp) fun r H' hq=>?_
  obtain ⟨P2,rfl,hq2⟩:=A2 hq
  exact Ac ⟨P2,rfl,hq2⟩) n [] (List.replicate n 0) [] (P0 ++ [lp]) (by simp) ⟨fun x hx=>(by cases hx),List.nodup_nil⟩ (by simp) rfl ⟨P0,rfl,h0⟩
 have hz : Ab (List.replicate n 0) = List.replicate n (.int .i64 0):=by simp [Ab]
 obtain ⟨h1,h2⟩:=hJ2 [] (P0 ++ [lp]) ⟨P0,rfl,h0⟩
 obtain ⟨o0,o1,o2,o3,o4,o5,o6,o7,h3⟩:=SU h1
 rw [h3] at key h2 ⊢
 refine HC.view (Q0:=fun r H'=>Bz (∃ P2 Y,H' = P2 ++ Y ∧ r = .tuple [] ∧ P2.length = 8 ∧ (∀ o ∈ P2,As 8 o = true) ∧ Q (.tuple []) P2)) ?_ ?_
 ·refine Ai (okc Tryz.f123.ntmps 8) (fn:=Tryz.f123) (cd:=_) rfl rfl rfl rfl rfl rfl (fun hbd=>?_)
  repeat' (
   conv=>whnf
   first
   |((with_reducible apply ob);(exact oT)))
  all_goals (conv=>whnf)
  unfold OW at key
  rw [hz] at key
  refine HC.mono key ?_
  intro r H' hq
  obtain ⟨H2,l2,rfl,hst⟩:=A2 hq
  rcases hst with ⟨rfl,_,_,P,rfl,hj⟩|⟨rfl,hs⟩
  ·all_goals (conv=>whnf)
   obtain ⟨h4,h5⟩:=hJ2 _ _ ⟨P,rfl,hj⟩
   exact Ac ⟨_,_,rfl,rfl,h4,h5,hend P hj⟩
  ·all_goals (conv=>whnf)
   exact Ac ⟨_,_,rfl,rfl,hs⟩
 ·intro r H' hq
  obtain ⟨P2,Y,rfl,rfl,h4,h5,hq⟩:=A2 hq
  refine ⟨P2 ++ Y,.tuple [],8,.refl _,.refl _,Nat.le_refl _,by rw [List.length_append,h4];omega,rfl,?_,?_⟩
  ·rw [← h4,List.take_left];rw [h4];exact h5
  ·rw [← h4,List.take_left];exact hq
open Go
theorem AbD (a : Int) : Aj Tryz.prog 179 [.int .i64 a] (fun r=>r = .bool false):=by
 refine Aj.ofV ?_
 refine Ai (okc Tryz.f179.ntmps 0) (fn:=Tryz.f179) (cd:=_) rfl rfl rfl rfl rfl rfl (fun hbd=>?_)
 all_goals (conv=>whnf)
 exact fC rfl (by show D.bool _ = _;simp)
theorem X0 (a b : Int) : Aj Tryz.prog 171 [.int .i64 a,.int .i64 b] (fun r=>r = .bool (decide (a < b))):=by
 refine Aj.ofV ?_
 refine Ai (okc Tryz.f171.ntmps 0) (fn:=Tryz.f171) (cd:=_) rfl rfl rfl rfl rfl rfl (fun hbd=>?_)
 repeat' (
  conv=>whnf
  first
  |((with_reducible refine Aw ?_);refine Bd (AbD _) ?_))
 all_goals (conv=>whnf)
 all_goals first|exact fC rfl rfl|skip
theorem Yy (N : Nat) (hN1 : N ≤ 1000000000) (l : List Int) (hN : l.length = N) (a b : Nat) {za : Int} (hza : za = (a : Int)) {zb : Int} (hzb : zb = (b : Int)) (hab : a ≤ b) (hb : b ≤ N) : HC Tryz.prog 165 [.sl 0 0 N,.int .i64 za,.int .i64 zb] [.row .leaf (List.map (D.int .i64) l)] (fun r H'=>Bz (r = .tuple [] ∧ ∃ m,H' = [.row .leaf (List.map (D.int .i64) m)] ∧ PR a b l m ∧ SR (fun x y : Int=>x < y) a b m)):=by
 subst hza hzb
 have w : Wo (fun x y : Int=>x < y):=⟨fun h=>by omega,fun h h2=>by omega⟩
 refine Ai (okc Tryz.f165.ntmps 1) (fn:=Tryz.f165) (cd:=_) rfl rfl rfl rfl rfl rfl (fun hbd=>?_)
 repeat' (
  conv=>whnf
  first
  |with_reducible refine Ao ?_)
 all_goals (conv=>whnf)
 refine Bt (X:=Nat × List Int) (fun x=>[(0,.sl 0 0 N),(1,iD a),(2,iD b),(6,iD x.1)]) (fun x=>[.row .leaf (List.map (D.int .i64) x.2)]) (fun x=>a + 1 ≤ x.1 ∧ (x.1 ≤ b ∨ x.1 = a + 1) ∧ PR a b l x.2 ∧ SR (fun x y : Int=>x < y) a x.1 x.2) (fun x=>b + 1 - x.1)
  ⟨_,nx (a + 1,l) [0] Cj (Bb rfl rfl (Ad _) trivial) rfl rfl (Nat.lt_succ_self _) ⟨Nat.le_refl _,.inr rfl,.refl _ _ _,.small (Nat.le_refl _)⟩⟩ ?_
 rintro ⟨i,m⟩ ⟨hi,hib,hp,hs⟩
 have hml:=hp.len
 dsimp only at hi hib hp hs hml ⊢
 rcases Nat.lt_or_ge i b with hlt|hge
 ·repeat' (
   conv=>whnf
   first
   |refine Ap (fun h=>?_) (fun h=>?_))
  all_goals (conv=>whnf)
  all_goals (first|(exfalso;omega)|skip)
  refine Bt (X:=Nat × List Int) (fun x=>[(0,.sl 0 0 N),(1,iD a),(2,iD b),(6,iD i),(7,iD x.1)]) (fun x=>[.row .leaf (List.map (D.int .i64) x.2)]) (fun x=>a ≤ x.1 ∧ x.1 ≤ i ∧ PR a b l x.2 ∧ IN (fun x y : Int=>x < y) a i x.1 x.2) (fun x=>x.1)
   ⟨_,nx (i,m) [0] Cj (Bb rfl rfl (Ad _) trivial) rfl rfl (Nat.lt_succ_self _) ⟨by omega,Nat.le_refl _,hp,.start hs⟩⟩ ?_
  rintro ⟨j,n⟩ ⟨hj1,hj2,hp2,hs2⟩
  have hnl:=hp2.len
  dsimp only at hj1 hj2 hp2 hs2 hnl ⊢
  have hlm : (List.map (D.int .i64) n).length = N:=by rw [List.length_map];omega
  rcases Nat.lt_or_ge a j with hja|hja
  ·obtain ⟨x,hx⟩:=D5 (l:=n) (i:=j) (by omega)
   obtain ⟨y,hy⟩:=D5 (l:=n) (i:=j - 1) (by omega)
   have hx1:=gx (f:=(D.int .i64)) (z:=(j : Int)) hx (by omega)
   have hy1:=gx (f:=(D.int .i64)) (z:=(j : Int) - 1) hy (by omega)
   repeat' (
    conv=>whnf
    first
    |(with_reducible refine ⟨_,hx1,?_⟩)
    |(with_reducible refine ⟨_,hy1,?_⟩)
    |refine Ap (fun h=>?_) (fun h=>?_)
    |with_reducible refine Ao ?_
    |((with_reducible refine Aw ?_);refine Bd (X0 _ _) ?_)
    |((with_reducible apply A1 13);rfl)
    |((with_reducible apply A1 14);rfl)
    |((with_reducible apply ob);(exact oT)))
   all_goals (conv=>whnf)
   all_goals (first|(exfalso;omega)|skip)
   ·refine nx (j - 1,(n.set j y).set (j - 1) x) [0] (by repeat (first|exact trivial|refine Au rfl rfl ?_|refine Au (congrArg (D.int .i64) (show (j : Int) - 1 = ((j - 1 : Nat) : Int) by omega)) rfl ?_)) (Bb rfl (sx (by omega) (by omega)) (Ad _) trivial) rfl rfl (by dsimp only;omega) ⟨by omega,by omega,hp2.trans (Y4 hx hy (by omega) (by omega) (by omega) (by omega)),hs2.swap w hja hj2 hx hy (by first|exact h|omega)⟩
   ·exact nx (i + 1,n) [0] Cj (Bb rfl rfl (Ad _) trivial) rfl rfl (by dsimp only;omega) ⟨by omega,.inl (by omega),hp2,hs2.fin w hj1 (.inr ⟨x,y,hx,hy,by first|exact h|omega⟩)⟩
  ·have hja2 : j = a:=by omega
   repeat' (
    conv=>whnf
    first
    |refine Ap (fun h=>?_) (fun h=>?_)
    |with_reducible refine Ao ?_
    |((with_reducible apply A1 13);rfl)
    |((with_reducible apply ob);(exact oT)))
   all_goals (conv=>whnf)
   all_goals (first|(exfalso;omega)|skip)
   exact nx (i + 1,n) [0] Cj (Bb rfl rfl (Ad _) trivial) rfl rfl (by dsimp only;omega) ⟨by omega,.inl (by omega),hp2,hs2.fin w hj1 (.inl hja2)⟩
 ·repeat' (
   conv=>whnf
   first
   |refine Ap (fun h=>?_) (fun h=>?_))
  all_goals (conv=>whnf)
  all_goals (first|(exfalso;omega)|skip)
  exact Ac ⟨rfl,m,rfl,hp,hs.sub (Nat.le_refl _) hge⟩
theorem Xz (l : List Int) (hl : l.length ≤ 12) (k : Nat) : HC Tryz.prog 152 [.sl 0 0 l.length,iD 0,iD l.length,iD k] [.row .leaf (Ab l)] (fun r H'=>Bz (r = .tuple [] ∧ ∃ m,H' = [.row .leaf (Ab m)] ∧ m.Perm l ∧ m.Pairwise (· ≤ ·))):=by
 refine Ai (okc Tryz.f152.ntmps 1) (fn:=Tryz.f152) (cd:=_) rfl rfl rfl rfl rfl rfl (fun hbd=>?_)
 all_goals (conv=>whnf)
 refine Bt (X:=Unit) (fun _=>[(0,.sl 0 0 l.length),(1,iD 0),(2,iD l.length)]) (fun _=>[.row .leaf (Ab l)]) (fun _=>True) (fun _=>0) ⟨_,nx (ρ:=[0]) () Cj (by exact Bb rfl rfl (Ad _) trivial) rfl rfl (Nat.lt_succ_self _) trivial⟩ ?_
 intro _ _
 iterate 14 (all_goals try (
     conv=>whnf
     first
     |refine Ap (fun h=>?_) (fun h=>?_)
     |with_reducible refine Ao ?_
     ))
 ·conv=>whnf
  refine HC.mono (Yy l.length (by omega) l rfl 0 l.length rfl rfl (Nat.zero_le _) (Nat.le_refl _)) ?_
  intro r H' hq
  obtain ⟨rfl,m,rfl,hp,hs⟩:=A2 hq
  conv=>whnf
  refine Ac ⟨rfl,m,rfl,hp.1,?_⟩
  rw [List.pairwise_iff_getElem]
  intro i j hi hj hij
  have:=hs i j _ _ (Nat.zero_le _) hij (by have:=hp.len;omega) (List.getElem?_eq_getElem hi) (List.getElem?_eq_getElem hj)
  omega
 ·exact absurd (by omega) h
theorem WK (l : List Int) (hl : l.length ≤ 12) : HC Tryz.prog 122 [.sl 0 0 l.length] [.row .leaf (Ab l)] (fun r H'=>Bz (r = .tuple [] ∧ ∃ m,H' = [.row .leaf (Ab m)] ∧ m.Perm l ∧ m.Pairwise (· ≤ ·))):=by
 refine Ai (okc Tryz.f122.ntmps 1) (fn:=Tryz.f122) (cd:=_) rfl rfl rfl rfl rfl rfl (fun hbd=>?_)
 repeat' (
  conv=>whnf
  first
  |((with_reducible apply Ks);(rfl);(exact wA)))
 all_goals (conv=>whnf)
 refine Aj.call (UE l.length hl) (.refl _) (Dj _ _) rfl ?_
 rintro r ⟨k,hk,rfl⟩
 conv=>whnf
 refine HC.mono (Xz l hl k) ?_
 intro r H' hq
 obtain ⟨rfl,m,rfl,hp,hs⟩:=A2 hq
 conv=>whnf
 exact Ac ⟨rfl,m,rfl,hp,hs⟩
open Go
theorem Tw (x : Inc) (hV1 : 1 ≤ x.V) (hV : x.V ≤ 16) (hB : Ws x.B) (hBl : x.B.length ≤ 12) (hlt : ∀ b ∈ x.B,b < 2 ^ x.V) : HC Tryz.prog 121 [x.D] [] (fun r H'=>Bz (r = .sl 1 0 x.V ∧ ∃ a c,H' = [a,.row .leaf (Ab (Gj x.V x.B [])),c])):=by
 have hl0:=A6 x.B
 refine Ai (okc Tryz.f121.ntmps 0) (fn:=Tryz.f121) (cd:=_) rfl rfl rfl rfl rfl rfl (fun hbd=>?_)
 repeat' (
  conv=>whnf
  first
  |((with_reducible apply ob);(exact oT)))
 all_goals (conv=>whnf)
 refine Bt (X:=Nat) (fun k=>[(2,.nils),(3,.ptr 2 []),(11,A5 x.B),(12,iD (Ak x.B).length),(13,iD k)]) (fun k=>[.var x.D,.row .leaf (Ab (Gj x.V (x.B.take k) [])),.var (.sl 1 0 x.V)]) (fun k=>k ≤ x.B.length) (fun k=>x.B.length - k)
  ⟨_,nx (ρ:=[0,1,2]) 0 Cj (A8 rfl rfl (Bb rfl (by show List.replicate x.V (D.int .i64 0) = _;refine List.ext_getElem? fun q=>?_;simp only [Gj,Ab,Gt,List.take_zero,List.countP_nil,List.getElem?_replicate,List.getElem?_map,List.getElem?_range'];by_cases hq : q < x.V <;> simp [hq]) (Ad _) (A8 rfl rfl trivial))) rfl rfl (Nat.lt_succ_self _) (Nat.zero_le _)⟩ ?_
 intro k hk
 rcases Nat.lt_or_ge k x.B.length with hkl|hkg
 ·obtain ⟨b,hb⟩ : ∃ b,x.B[k]? = some b:=⟨_,List.getElem?_eq_getElem hkl⟩
  have hbw:=Ws.get hb hB
  have hbl:=hlt b (List.mem_of_getElem? hb)
  have hbd : (Ak x.B)[((k : Nat) : Int).toNat]? = some (sD b):=by simp [Ak,hb]
  repeat' (
   conv=>whnf
   first
   |(with_reducible refine ⟨sD b,hbd,?_⟩)
   |refine Ap (fun h=>?_) (fun h=>?_)
   |((with_reducible apply ob);(exact oT)))
  all_goals (conv=>whnf)
  all_goals (first|(exfalso;omega)|skip)
  have hst : ∀ (o : Ob),(∀ j,As 4 (.row .leaf (Ab (Gj x.V (x.B.take k) ((Aa b).take j)))) = true):=fun _ j=>B9 _ _ (Ad _)
  refine Wn b hbw 3 (by omega) _ [.var x.D,.row .leaf (Ab (Gj x.V (x.B.take k) [])),.var (.sl 1 0 x.V)] rfl (fun j X=>X = [.var x.D,.row .leaf (Ab (Gj x.V (x.B.take k) ((Aa b).take j))),.var (.sl 1 0 x.V)]) _ (fun j X h=>by
   subst h
   refine ⟨rfl,fun o ho=>?_⟩
   simp only [List.mem_cons,List.not_mem_nil,or_false] at ho
   rcases ho with rfl|rfl|rfl
   ·rfl
   ·exact B9 _ _ (Ad _)
   ·rfl) rfl ?_ ?_ rfl
  ·rintro j p X rfl hp
   obtain ⟨ht,hn⟩:=Uo hp
   have hpV : p < x.V:=Bw hbl ((Ba b p).1 (List.mem_of_getElem? hp)).2
   have hget : (Ab (Gj x.V (x.B.take k) ((Aa b).take j)))[0 + ((p : Nat) : Int).toNat]? = some (.int .i64 (Gt (x.B.take k) p : Int)):=by simp [Ab,LH hpV,hn]
   have hdg : Gt (x.B.take k) p ≤ 12:=by
    have h1 : Gt (x.B.take k) p ≤ (x.B.take k).length:=List.countP_le_length
    rw [List.length_take] at h1;omega
   have hdl : (Ab (Gj x.V (x.B.take k) ((Aa b).take j))).length = x.V:=by simp [LL]
   refine Bc (okc Tryz.f121.ntmps 4) rfl rfl rfl rfl rfl ?_
   repeat' (
    conv=>whnf
    first
    |(with_reducible refine ⟨.int .i64 (Gt (x.B.take k) p : Int),hget,?_⟩)
    |with_reducible refine Ao ?_
    |((with_reducible apply ob);(exact oT)))
   all_goals (conv=>whnf)
   all_goals (first|(exfalso;omega)|skip)
   have e : (Ab (Gj x.V (x.B.take k) ((Aa b).take j))).set (0 + ((p : Nat) : Int).toNat) (.int .i64 ((Gt (x.B.take k) p : Int) + 1)) = Ab (Gj x.V (x.B.take k) ((Aa b).take (j + 1))):=by
    rw [ht,← WJ hpV hn];simp [Ab,List.map_set]
   refine Ac (.inl ⟨rfl,[.var x.D,.row .leaf (Ab (Gj x.V (x.B.take k) ((Aa b).take (j + 1)))),.var (.sl 1 0 x.V)],?_,rfl⟩)
   rw [← e]
   rfl
  ·rintro X rfl
   conv=>whnf
   rw [List.take_length,Vl (by omega) hb]
   repeat' (
    conv=>whnf
    first
    |with_reducible refine Ao ?_)
   all_goals (conv=>whnf)
   exact nx (k + 1) [0,1,2] Cj (A8 rfl rfl (Bb rfl rfl (Ad _) (A8 rfl rfl trivial))) rfl rfl (by omega) (by omega)
 ·repeat' (
   conv=>whnf
   first
   |refine Ap (fun h=>?_) (fun h=>?_)
   |((with_reducible refine F5 (by omega) ?_);intro y hy;(try simp only [Int.toNat_natCast,Nat.zero_add] at hy);(try have hyr:=hR _ (List.mem_of_getElem? hy)))
   |((with_reducible apply ob);(exact oT)))
  all_goals (conv=>whnf)
  all_goals (first|(exfalso;omega)|skip)
  have hke : k = x.B.length:=by omega
  subst hke
  rw [List.take_length]
  exact Ac ⟨rfl,_,_,rfl⟩
theorem TV (x : Inc) (hV1 : 1 ≤ x.V) (hV : x.V ≤ 16) (hB : Ws x.B) (hBl : x.B.length ≤ 12) (hlt : ∀ b ∈ x.B,b < 2 ^ x.V) : HC Tryz.prog 121 [x.D] [] (fun r H'=>Bz (r = .sl 1 0 x.V ∧ H' = [.dead,.row .leaf (Ab (F7 x)),.dead])):=by
 refine HC.view (Tw x hV1 hV hB hBl hlt) ?_
 intro r H' hq
 obtain ⟨rfl,a,c,rfl⟩:=A2 hq
 have e : Gj x.V x.B [] = F7 x:=by unfold Gj F7;simp
 refine ⟨[.dead,.row .leaf (Ab (F7 x)),.dead],.sl 1 0 x.V,3,.dead 0 (.dead 2 (by rw [e];exact .refl _)),.refl _,by simp,by simp,rfl,?_,Ac ⟨rfl,rfl⟩⟩
 intro o ho
 have ho : o ∈ [Ob.dead,.row .leaf (Ab (F7 x)),.dead]:=ho
 simp only [List.mem_cons,List.not_mem_nil,or_false] at ho
 rcases ho with rfl|rfl|rfl
 ·rfl
 ·exact B9 _ _ (Ad _)
 ·rfl
def Eg (b p : Nat) : List Int:=((List.range p).filter b.testBit).map fun (q : Nat)=>(q : Int)
theorem O7 (b p : Nat) : Eg b (p + 1) = if b.testBit p = true then Eg b p ++ [(p : Int)] else Eg b p:=by
 unfold Eg
 rw [List.range_succ,List.filter_append]
 cases h : b.testBit p <;> simp [h]
theorem QF (b p : Nat) : (Eg b p).length ≤ p:=by
 unfold Eg
 rw [List.length_map]
 have:=List.length_filter_le b.testBit (List.range p)
 rw [List.length_range] at this;exact this
theorem WB {b p : Nat} (h : b >>> p = 0) : ∀ q,p ≤ q → b.testBit q = false:=by
 intro q hq
 have : (b >>> p).testBit (q - p) = b.testBit q:=by rw [Nat.testBit_shiftRight];congr 1;omega
 rw [h,Nat.zero_testBit] at this
 exact this.symm
theorem Ve {b p : Nat} (h : b >>> p = 0) (hp : p ≤ 64) : Eg b p = Eg b 64:=by
 have : ∀ k,p ≤ k → Eg b k = Eg b p:=by
  intro k hk
  induction k with
  |zero =>
       have : p = 0:=by omega
       subst this;rfl
  |succ k ih =>
   rcases Nat.lt_or_ge k p with h1|h1
   ·have : p = k + 1:=by omega
    subst this;rfl
   ·rw [O7,WB h k h1,ih h1];rfl
 exact (this 64 hp).symm
theorem OC (b : Nat) : (Eg b 64).length = CJ b:=by
 rw [JM]
 unfold Eg Aa
 rw [List.length_map]
theorem Vo (b : Nat) (hb : b < 2 ^ 16) : Aj Tryz.prog 120 [sD b] (fun r=>r = Af (Eg b 64)):=by
 have hw : Ax b:=by unfold Ax;omega
 refine Aj.ofV ?_
 refine Ai (okc Tryz.f120.ntmps 0) (fn:=Tryz.f120) (cd:=_) rfl rfl rfl rfl rfl rfl (fun hbd=>?_)
 all_goals (conv=>whnf)
 refine Bt (X:=Nat) (fun p=>[(0,sD b),(3,.sl 0 0 (Eg b p).length),(4,iD p)]) (fun p=>[.row .leaf (Ab (Eg b p))]) (fun p=>p ≤ 16) (fun p=>17 - p) ⟨_,Yj 0 [0] (.slot 3 .leaf rfl (.refl _ _)) (.refl _) Cj (Bb rfl rfl (Ad _) trivial) rfl rfl (Nat.lt_succ_self _) (Nat.zero_le _)⟩ ?_
 intro p hp
 have hn:=O7 b p
 have hl:=QF b p
 have hl0:=Aq (Eg b p)
 by_cases hz : b >>> p = 0
 ·have he:=Ve hz (by omega)
  repeat' (
   conv=>whnf
   first
   |refine Ap (fun h=>?_) (fun h=>?_)
   |with_reducible refine Ao ?_
   |((with_reducible apply BM);(rfl);(rfl);(exact wA);(exact wA))
   |((with_reducible apply EO);(rfl);(rfl);(omega))
   |((with_reducible apply ob);(exact oT)))
  all_goals (conv=>whnf)
  all_goals (first|(exfalso;omega)|skip)
  rw [← he]
  exact LT (Ab (Eg b p)) rfl rfl (by simp) (Ad _) rfl
 ·have hp15 : p < 16:=by
   rcases Nat.lt_or_ge p 16 with h|h
   ·exact h
   ·exfalso;apply hz
    rw [Nat.shiftRight_eq_div_pow]
    exact Nat.div_eq_of_lt (Nat.lt_of_lt_of_le hb (Nat.pow_le_pow_right (by decide) h))
  have hz' : (0 : Int) < ((b >>> p : Nat) : Int):=Int.ofNat_lt.2 (Nat.pos_of_ne_zero hz)
  cases e1 : b.testBit p with
  |true =>
   have f1 : ((b >>> p &&& 1 : Nat) : Int) = 1:=by rw [Os e1];rfl
   rw [if_pos e1] at hn
   repeat' (
    conv=>whnf
    first
    |refine Ap (fun h=>?_) (fun h=>?_)
    |with_reducible refine Ao ?_
    |((with_reducible apply BM);(rfl);(rfl);(exact wA);(exact wA))
    |((with_reducible apply EO);(rfl);(rfl);(omega))
    |((with_reducible apply ob);(exact oT)))
   all_goals (conv=>whnf)
   all_goals (first|(exfalso;omega)|exact absurd hz' ‹¬ (0 : Int) < ((b >>> p : Nat) : Int)›|exact absurd f1 ‹_›|exact absurd ‹((b >>> p &&& 1 : Nat) : Int) = 1› f1|skip)
   exact nx (p + 1) [2] (Au rfl rfl (Au (congrArg (D.sl 2 0) (show (Eg b p).length + 1 = (Eg b (p + 1)).length by rw [hn];simp)) rfl (Au rfl rfl trivial))) (Bb rfl (by show List.take _ (Ab _) ++ [_] = _;rw [List.take_of_length_le (by omega),hn];simp [Ab]) (Ad _) trivial) rfl rfl (by omega) (by omega)
  |false =>
   have f1 : ¬ ((b >>> p &&& 1 : Nat) : Int) = 1:=by rw [Ol e1];decide
   rw [if_neg (by rw [e1];decide)] at hn
   repeat' (
    conv=>whnf
    first
    |refine Ap (fun h=>?_) (fun h=>?_)
    |with_reducible refine Ao ?_
    |((with_reducible apply BM);(rfl);(rfl);(exact wA);(exact wA))
    |((with_reducible apply EO);(rfl);(rfl);(omega))
    |((with_reducible apply ob);(exact oT)))
   all_goals (conv=>whnf)
   all_goals (first|(exfalso;omega)|exact absurd hz' ‹¬ (0 : Int) < ((b >>> p : Nat) : Int)›|exact absurd f1 ‹_›|exact absurd ‹((b >>> p &&& 1 : Nat) : Int) = 1› f1|skip)
   exact nx (p + 1) [0] (Au rfl rfl (Au (congrArg (D.sl 0 0) (show (Eg b p).length = (Eg b (p + 1)).length by rw [hn])) rfl (Au rfl rfl trivial))) (Bb rfl (by rw [hn]) (Ad _) trivial) rfl rfl (by omega) (by omega)
def TB (x : Inc) : D:=.agg [Af (Cg (E1 x)),Af (Cg (F7 x))]
theorem Tx (b : Nat) : CJ b ≤ 64:=by rw [← OC];exact QF b 64
theorem Rn (l : List Int) (g : Nat) (hl : l.length ≤ 12) {H : List Ob} {Q : D → List Ob → Prop} (hg : H.getD g .dead = .row .leaf (Ab l)) (hk : Q (.tuple []) (H.set g (.row .leaf (Ab (Cg l))))) : HC Tryz.prog 122 [.sl g 0 l.length] H Q:=by
 have hlt:=J7 hg (by simp)
 refine HC.frame [g] (WK l hl) (.refl _) (Bb hg rfl (Ad _) trivial) rfl (by simpa using hlt) (Dj _ _) rfl ?_
 intro r H0' hq _
 obtain ⟨rfl,m,rfl,h1,h2⟩:=A2 hq
 have e:=N1 h1 h2
 subst e
 simpa [putB,BT,BL,BV,DY _ _ (Ad _)] using hk
theorem Rp (x : Inc) (hV1 : 1 ≤ x.V) (hV : x.V ≤ 16) (hB : Ws x.B) (hBl : x.B.length ≤ 12) (hlt : ∀ b ∈ x.B,b < 2 ^ x.V) {H : List Ob} {Q : D → List Ob → Prop} (hk : Q (.sl (H.length + 1) 0 x.V) (H ++ [.dead,.row .leaf (Ab (F7 x)),.dead])) : HC Tryz.prog 121 [x.D] H Q:=by
 refine HC.frame [] (TV x hV1 hV hB hBl hlt) (.refl _) trivial rfl (by simp) (Dj _ _) rfl ?_
 intro r H0' hq _
 obtain ⟨rfl,rfl⟩:=A2 hq
 simpa [putB,BT,BL,BV,DY _ _ (Ad _),C8] using hk
theorem Ue (x : Inc) (hx : x.Fam) : Aj Tryz.prog 96 [x.D] (fun r=>r = TB x):=by
 have hv7:=hx.v7
 have hv1:=hx.ok.v1
 have hB12:=hx.ok.n
 have hp16 : 2 ^ x.V ≤ 2 ^ 16:=Nat.pow_le_pow_right (by decide) (by omega)
 have hl0:=A6 x.B
 have hsl : (E1 x).length = x.B.length:=by simp [E1]
 have hdl : (F7 x).length = x.V:=by simp [F7]
 refine Aj.ofV ?_
 refine Ai (okc Tryz.f96.ntmps 0) (fn:=Tryz.f96) (cd:=_) rfl rfl rfl rfl rfl rfl (fun hbd=>?_)
 all_goals (conv=>whnf)
 refine Bt (X:=Nat) (fun i=>[(1,.ptr 0 []),(2,.ptr 1 []),(3,.ptr 2 []),(7,iD x.B.length),(8,iD i)]) (fun i=>[.var x.D,.var (.agg [.nils,.nils]),.var (.agg [.sl 3 0 i,.nils]),.row .leaf (Ab ((E1 x).take i))]) (fun i=>i ≤ x.B.length) (fun i=>x.B.length - i)
  ⟨_,Yj 0 [0,1,2,3] (.var 2 [] [.nils] .leaf rfl (.refl _ _)) (.refl _) (by repeat (first|exact trivial|refine Au rfl rfl ?_|refine Au (by rw [hl0];rfl) rfl ?_)) (A8 rfl rfl (A8 rfl rfl (A8 rfl rfl (Bb rfl rfl (Ad _) trivial)))) rfl rfl (Nat.lt_succ_self _) (Nat.zero_le _)⟩ ?_
 intro i hi
 rcases Nat.lt_or_ge i x.B.length with h1|h1
 ·obtain ⟨b,hb⟩:=D5 h1
  have hb1 : (Ak x.B)[((i : Nat) : Int).toNat]? = some (sD b):=by simp [Ak,hb]
  have hbl:=hx.lt b (List.mem_of_getElem? hb)
  have hpt:=Vo b (by omega)
  have hps:=OC b
  have hs64:=Tx b
  have htl : ((E1 x).take i).length = i:=by rw [List.length_take];omega
  have htn : (E1 x).take (i + 1) = (E1 x).take i ++ [(CJ b : Int)]:=by rw [List.take_add_one];simp [E1,hb]
  repeat' (
   conv=>whnf
   first
   |(with_reducible refine ⟨_,hb1,?_⟩)
   |((with_reducible refine A0 ?_);refine A3 hpt ?_)
   |refine Ap (fun h=>?_) (fun h=>?_)
   |with_reducible refine Ao ?_
   |((with_reducible apply A1 10);rfl)
   |((with_reducible apply ob);(exact oT)))
  all_goals (conv=>whnf)
  all_goals (first|(exfalso;omega)|skip)
  refine nx (i + 1) [0,1,2,5] Cj (A8 rfl rfl (A8 rfl rfl (A8 rfl rfl (Bb rfl (by
   show List.take _ (Ab _) ++ [D.int .i64 (((Ab (Eg b 64)).length : Nat) : Int)] = _
   rw [List.take_of_length_le (by rw [Aq];omega),Aq,hps,htn];simp [Ab]) (Ad _) trivial)))) rfl rfl (by omega) (by omega)
 ·have : i = x.B.length:=by omega
  subst this
  have htk : (E1 x).take x.B.length = E1 x:=List.take_of_length_le (by omega)
  rw [htk]
  repeat' (
   conv=>whnf
   first
   |refine Ap (fun h=>?_) (fun h=>?_)
   |((with_reducible refine F5 (by omega) ?_);intro y hy;(try simp only [Int.toNat_natCast,Nat.zero_add] at hy);(try have hyr:=hR _ (List.mem_of_getElem? hy)))
   |((with_reducible apply A1 10);rfl)
   |((with_reducible apply ob);(exact oT)))
  all_goals (conv=>whnf)
  all_goals (first|(exfalso;omega)|skip)
  refine Rp x hv1 (by omega) hx.ok.b hB12 hx.lt ?_
  repeat' (
   conv=>whnf
   first
   |((with_reducible apply ob);(exact oT)))
  all_goals (conv=>whnf)
  all_goals (first|(exfalso;omega)|skip)
  refine U2 (l:=E1 x) 3 rfl hsl (Rn (E1 x) 3 (by omega) rfl ?_)
  repeat' (
   conv=>whnf
   first
   |((with_reducible apply ob);(exact oT)))
  all_goals (conv=>whnf)
  all_goals (first|(exfalso;omega)|skip)
  refine U2 (l:=F7 x) 5 rfl hdl (Rn (F7 x) 5 (by omega) rfl ?_)
  all_goals (conv=>whnf)
  all_goals (first|(exfalso;omega)|skip)
  refine Ac ⟨_,TB x,.step 3 .leaf (Ab (Cg (E1 x))) rfl (Ad _) (.step 5 .leaf (Ab (Cg (F7 x))) rfl (Ad _) (.refl _)),.agg _ _ (.cons _ _ _ _ (Bi rfl (by rw [Aq,OI,hsl])) (.cons _ _ _ _ (Bi rfl (by rw [Aq,OI,hdl])) .nil)) rfl,?_,rfl⟩
  simp [TB,Bu,Bx,Af,Ad]
open Go
theorem R7 {x : Inc} (hx : x.Fam) {g : List Int} (hg : Pm g x.V) : (Bo x g).B = IQ x g:=by
 have hV:=hx.v7
 rw [GT hx hg]
 show Ca (CN g x.B) = Ca (x.B.map (Cl · g))
 congr 1
 refine List.map_congr_left fun b hb=>?_
 exact (PS hg (by omega) (hx.lt b hb)).symm
def Kx (x y : Inc) (b : Bool) (now : List Nat) : List Ob:=[.var x.D,.var y.D,.var (.bool b),.var (TB x),.var (TB y),.row .leaf (Ak now),.var (.sl 5 0 x.B.length)]
theorem T8 (x y : Inc) (b : Bool) (now : List Nat) (n : Nat) (hn : 6 ≤ n) : ∀ o ∈ Kx x y b now,As n o = true:=by
 intro o ho
 have : As 6 o = true:=by
  simp only [Kx,List.mem_cons,List.not_mem_nil,or_false] at ho
  rcases ho with rfl|rfl|rfl|rfl|rfl|rfl|rfl <;> first|rfl|exact B9 _ _ (A7 _)
 exact F6 hn o this
theorem S0 (x y : Inc) (b : Bool) (now : List Nat) (lp : Ob) (n : Nat) (hn : 6 ≤ n) (hlp : As n lp = true) : ∀ o ∈ Kx x y b now ++ [lp],As n o = true:=by
 intro o ho
 rcases List.mem_append.1 ho with h|h
 ·exact T8 x y b now n hn o h
 ·rw [List.mem_singleton.1 h];exact hlp
theorem RB (x y : Inc) (b : Bool) (now : List Nat) (lp : Ob) (p : List Int) (hlp : As 10 lp = true) : ∀ o ∈ (Kx x y b now ++ [lp]) ++ [Ob.var (.yld 7),.row .leaf (Ab p)],As 10 o = true:=by
 intro o ho
 rcases List.mem_append.1 ho with h|h
 ·exact S0 x y b now lp 10 (by omega) hlp o h
 ·rcases List.mem_cons.1 h with rfl|h
  ·rfl
  ·rw [List.mem_singleton.1 h];exact B9 _ _ (Ad _)
theorem Xk (x y : Inc) (hx : x.Fam) (hy : y.Fam) (hvx : Gf x.V x.B) (hvy : Gf y.V y.B) (hv : x.V = y.V) (hl : x.B.length = y.B.length) : Aj Tryz.prog 68 [x.D,y.D] (fun r=>r = .bool (decide (Cu x = Cu y))):=by
 have hv7:=hx.v7
 have hv1:=hx.ok.v1
 have h1:=KS x.V x.B hx.ok.b (by have:=hx.ok.n;omega)
 have h2:=KS y.V y.B hy.ok.b (by have:=hy.ok.n;omega)
 rw [decide_eq_true hvx] at h1
 rw [decide_eq_true hvy] at h2
 have hl0:=A6 x.B
 have hl1:=A6 y.B
 have hB12:=hx.ok.n
 have hsx:=Ue x hx
 have hsy:=Ue y hy
 have hrep : Ak (List.replicate x.B.length 0) = List.replicate x.B.length (.int .u64 0):=by simp [Ak,sD]
 by_cases hs : Cg (E1 x) = Cg (E1 y) ∧ Cg (F7 x) = Cg (F7 y)
 ·have e1:=Ln (Cg (E1 x)) (Cg (E1 y))
  have e2:=Ln (Cg (F7 x)) (Cg (F7 y))
  rw [decide_eq_true hs.1] at e1
  rw [decide_eq_true hs.2] at e2
  refine Aj.ofV ?_
  refine Ai (okc Tryz.f68.ntmps 0) (fn:=Tryz.f68) (cd:=_) rfl rfl rfl rfl rfl rfl (fun hbd=>?_)
  repeat' (
   conv=>whnf
   first
   |((with_reducible refine A0 ?_);refine A3 hsx ?_)
   |((with_reducible refine A0 ?_);refine A3 hsy ?_)
   |((with_reducible refine Aw ?_);refine Bd h1 ?_)
   |((with_reducible refine Aw ?_);refine Bd h2 ?_)
   |((with_reducible refine Aw ?_);refine Bd e1 ?_)
   |((with_reducible refine Aw ?_);refine Bd e2 ?_)
   |refine Ap (fun h=>?_) (fun h=>?_)
   |refine D4 (fun h=>?_) (fun h=>?_)
   |((with_reducible refine Aw ?_);refine Bd (Wu _) ?_)
   |((with_reducible apply A1 6);rfl)
   |((with_reducible apply ob);(exact oT)))
  all_goals (conv=>whnf)
  all_goals (first|(exfalso;omega)|skip)
  let J : List (List Int) → List Ob → Prop:=fun d P=>(∀ g ∈ d,IQ x g ≠ y.B) ∧ ∃ now,now.length = x.B.length ∧ P = Kx x y false now
  refine V3 x.V hv7 J ?lp (Kx x y false (List.replicate x.B.length 0)) ?hH _ ?_ ?_ ?_ ?_ ?_
  case hH =>
   unfold Kx
   rw [hl0,hrep]
   exact rfl
  ·rintro d P ⟨hd,now,hn,rfl⟩
   exact ⟨rfl,T8 x y false now 8 (by omega)⟩
  ·rfl
  ·rintro d P p ⟨hd,now,hn,rfl⟩ hp
   have hmv:=WS x now p hx.ok.b hn (by omega) (fun q hq=>by have:=hp.2.1 q hq;omega) (by rw [hp.1];omega)
   rw [hp.1] at hmv
   have hil:=W3 x p
   have heq:=V9 (IQ x p) y.B
   refine Yi ?_
   refine Bc (okc Tryz.f68.ntmps 10) rfl rfl rfl rfl rfl ?_
   all_goals (conv=>whnf)
   refine VC 5 9 rfl hmv rfl rfl (A7 _) (A7 _) (Ad _) rfl rfl ?_
   by_cases he : IQ x p = y.B
   ·rw [decide_eq_true he] at heq
    repeat' (
     conv=>whnf
     first
     |((with_reducible refine Aw ?_);refine HC.borrow heq (.step 5 .leaf (Ak (IQ x p)) rfl (A7 _) (.refl _)) (.cons _ _ _ _ (Bi rfl (by rw [A6];exact hil)) (.cons _ _ _ _ (.refl _) .nil)) rfl ?_;rintro r H0 ⟨-,-,rfl⟩;refine ⟨rfl,?_⟩))
    all_goals (conv=>whnf)
    refine Ac ⟨(Kx x y true (IQ x p) ++ [_]) ++ [.var (.yld 7),.row .leaf (Ab p)],[],.refl _,rfl,RB _ _ _ _ _ _ rfl,rfl,Kx x y true (IQ x p) ++ [_],rfl,.inr ⟨rfl,rfl,S0 _ _ _ _ _ 8 (by omega) rfl,?_⟩⟩
    have hyes : Cu x = Cu y:=(Sd hx hy hv).2 ⟨p,hp,by rw [R7 hx hp];exact he⟩
    rw [decide_eq_true hyes]
    conv=>whnf
    exact fC rfl rfl
   ·rw [decide_eq_false he] at heq
    repeat' (
     conv=>whnf
     first
     |((with_reducible refine Aw ?_);refine HC.borrow heq (.step 5 .leaf (Ak (IQ x p)) rfl (A7 _) (.refl _)) (.cons _ _ _ _ (Bi rfl (by rw [A6];exact hil)) (.cons _ _ _ _ (.refl _) .nil)) rfl ?_;rintro r H0 ⟨-,-,rfl⟩;refine ⟨rfl,?_⟩))
    all_goals (conv=>whnf)
    exact Ac ⟨(Kx x y false (IQ x p) ++ [_]) ++ [.var (.yld 7),.row .leaf (Ab p)],[],.refl _,rfl,RB _ _ _ _ _ _ rfl,rfl,Kx x y false (IQ x p) ++ [_],rfl,.inl ⟨rfl,Kx x y false (IQ x p),rfl,fun g hg=>(by
     rcases List.mem_append.1 hg with h|h
     ·exact hd g h
     ·rw [List.mem_singleton.1 h];exact he),IQ x p,hil,rfl⟩⟩
  ·rintro P ⟨hd,now,hn,rfl⟩
   have hne : ¬ Cu x = Cu y:=fun h=>by
    obtain ⟨g,hg,e⟩:=(Sd hx hy hv).1 h
    rw [R7 hx hg] at e
    exact hd g ((UZ x.V g).2 hg) e
   rw [decide_eq_false hne]
   all_goals (conv=>whnf)
   exact fC rfl rfl
  ·exact ⟨fun g hg=>(by cases hg),List.replicate x.B.length 0,by simp,rfl⟩
 ·have hne : ¬ Cu x = Cu y:=fun h=>hs (Ux hx hy hv h)
  rw [decide_eq_false hne]
  by_cases hs1 : Cg (E1 x) = Cg (E1 y)
  ·have e1:=Ln (Cg (E1 x)) (Cg (E1 y))
   have e2:=Ln (Cg (F7 x)) (Cg (F7 y))
   rw [decide_eq_true hs1] at e1
   rw [decide_eq_false (fun h=>hs ⟨hs1,h⟩)] at e2
   refine Aj.ofV ?_
   refine Ai (okc Tryz.f68.ntmps 0) (fn:=Tryz.f68) (cd:=_) rfl rfl rfl rfl rfl rfl (fun hbd=>?_)
   repeat' (
    conv=>whnf
    first
    |((with_reducible refine A0 ?_);refine A3 hsx ?_)
    |((with_reducible refine A0 ?_);refine A3 hsy ?_)
    |((with_reducible refine Aw ?_);refine Bd h1 ?_)
    |((with_reducible refine Aw ?_);refine Bd h2 ?_)
    |((with_reducible refine Aw ?_);refine Bd e1 ?_)
    |((with_reducible refine Aw ?_);refine Bd e2 ?_)
    |refine Ap (fun h=>?_) (fun h=>?_)
    |refine D4 (fun h=>?_) (fun h=>?_)
    |((with_reducible apply A1 6);rfl)
    |((with_reducible apply ob);(exact oT)))
   all_goals (conv=>whnf)
   all_goals (first|(exfalso;omega)|exact fC rfl rfl)
  ·have e1:=Ln (Cg (E1 x)) (Cg (E1 y))
   rw [decide_eq_false hs1] at e1
   refine Aj.ofV ?_
   refine Ai (okc Tryz.f68.ntmps 0) (fn:=Tryz.f68) (cd:=_) rfl rfl rfl rfl rfl rfl (fun hbd=>?_)
   repeat' (
    conv=>whnf
    first
    |((with_reducible refine A0 ?_);refine A3 hsx ?_)
    |((with_reducible refine A0 ?_);refine A3 hsy ?_)
    |((with_reducible refine Aw ?_);refine Bd h1 ?_)
    |((with_reducible refine Aw ?_);refine Bd h2 ?_)
    |((with_reducible refine Aw ?_);refine Bd e1 ?_)
    |refine Ap (fun h=>?_) (fun h=>?_)
    |refine D4 (fun h=>?_) (fun h=>?_)
    |((with_reducible apply A1 6);rfl)
    |((with_reducible apply ob);(exact oT)))
   all_goals (conv=>whnf)
   all_goals (first|(exfalso;omega)|exact fC rfl rfl)
open Go
theorem S1 (x : Inc) (hx : x.Fam) : Aj Tryz.prog 37 [x.D] (fun r=>r = .tuple [iD (wN x),iD 0]):=by
 have hv7:=hx.v7
 have hp:=Wc x hx.ok hx.v7
 rw [Zs] at hp
 have hbx:=Y2 hx.v7
 have hc:=Ww x hx.ok hx.v7 hx.bits (Qz x) (fun l hl=>by have:=hbx l hl;omega)
 have hcn : Jr x (Qz x) = Cd x x.V:=UO hx
 have hop:=NX hx
 unfold Tb at hc
 rw [hcn,if_neg (by omega)] at hc
 rw [show ((List.range x.V).map fun i=>GB (Cm x i (x.V - i))) = Qz x from rfl] at hp
 generalize Qz x = L at hp hc
 have hw:=Ys hx
 have hwl:=T3 x
 have hfl:=L8 x.V hv7
 have hordl : Cd x x.V ≤ 5040:=by
  have:=J4 hx
  have h1:=TN hx
  have : 1 * Cd x x.V ≤ wN x * Cd x x.V:=Nat.mul_le_mul_right _ h1
  omega
 generalize hO : Cd x x.V = O at *
 generalize wN x = Wt at *
 refine Aj.ofV ?_
 refine Ai (okc Tryz.f37.ntmps 0) (fn:=Tryz.f37) (cd:=_) rfl rfl rfl rfl rfl rfl (fun hbd=>?_)
 repeat' (
  conv=>whnf
  first
  |((with_reducible refine Aw ?_);refine Bd hp ?_)
  |((with_reducible refine Aw ?_);refine Bd hc ?_))
 all_goals (conv=>whnf)
 all_goals (first|(exfalso;omega)|skip)
 refine Bt (X:=Nat) (fun i=>[(6,iD O),(7,iD (Bl i)),(27,iD x.V),(28,iD i)]) (fun _=>[]) (fun i=>i ≤ x.V) (fun i=>x.V - i) ⟨_,nx (ρ:=[]) 0 Cj trivial rfl rfl (Nat.lt_succ_self _) (Nat.zero_le _)⟩ ?_
 intro i hi
 rcases Nat.lt_or_ge i x.V with h1|h1
 ·have hm : ((Bl i : Nat) : Int) * ((i : Int) + 1) = ((Bl (i + 1) : Nat) : Int):=by
   rw [Bl,Nat.mul_comm];simp
  have hm2:=L8 (i + 1) (by omega)
  repeat' (
   conv=>whnf
   first
   |(with_reducible refine H7 hm (by omega) ?_)
   |refine Ap (fun h=>?_) (fun h=>?_)
   |with_reducible refine Ao ?_
   |((with_reducible apply ob);(exact oT)))
  all_goals (conv=>whnf)
  all_goals (first|(exfalso;omega)|skip)
  exact nx (i + 1) [] Cj trivial rfl rfl (by omega) (by omega)
 ·have : i = x.V:=by omega
  subst this
  have hq : ((Bl x.V : Nat) : Int).tdiv ((O : Nat) : Int) = ((Wt : Nat) : Int):=by rw [← hw];rfl
  repeat' (
   conv=>whnf
   first
   |(with_reducible refine H7 hq (by omega) ?_)
   |refine Ap (fun h=>?_) (fun h=>?_)
   |with_reducible refine Ao ?_
   |((with_reducible apply ob);(exact oT)))
  all_goals (conv=>whnf)
  all_goals (first|(exfalso;omega)|skip)
  exact fC rfl rfl
theorem T1 (v : Int) (B : List Nat) (h : 7 < v) : Aj Tryz.prog 63 [.agg [.int .i64 v,A5 B]] (fun r=>r = .tuple [Qw [],.int .i64 2]):=by
 refine Aj.ofV ?_
 refine Ai (okc Tryz.f63.ntmps 0) (fn:=Tryz.f63) (cd:=_) rfl rfl rfl rfl rfl rfl (fun hbd=>?_)
 repeat' (
  conv=>whnf
  first
  |refine Ap (fun h=>?_) (fun h=>?_))
 all_goals (conv=>whnf)
 all_goals (first|(exfalso;omega)|skip)
 exact Ac ⟨_,.tuple [Qw [],.int .i64 2],.refl _,.tuple _ _ (.cons _ _ _ _ (.agg _ _ (.cons _ _ _ _ (.nils _) .nil) rfl) (.cons _ _ _ _ (.refl _) .nil)),rfl,rfl⟩
theorem T2 (v : Int) (B : List Nat) (h : 7 < v) : Aj Tryz.prog 37 [.agg [.int .i64 v,A5 B]] (fun r=>r = .tuple [iD 0,iD 2]):=by
 have hp:=T1 v B h
 refine Aj.ofV ?_
 refine Ai (okc Tryz.f37.ntmps 0) (fn:=Tryz.f37) (cd:=_) rfl rfl rfl rfl rfl rfl (fun hbd=>?_)
 repeat' (
  conv=>whnf
  first
  |((with_reducible refine Aw ?_);refine Bd hp ?_))
 all_goals (conv=>whnf)
 all_goals (first|(exfalso;omega)|skip)
 exact fC rfl rfl
theorem WI (x y : Inc) (hx : x.Fam) (hy : y.Fam) (hvx : Gf x.V x.B) (hvy : Gf y.V y.B) (hv : x.V = y.V) (hl : x.B.length = y.B.length) : Aj Tryz.prog 67 [y.D,.ref Cs x.D] (fun r=>r = .bool (decide (Cu x = Cu y))):=by
 have h:=Xk x y hx hy hvx hvy hv hl
 refine Aj.ofV ?_
 refine Ai (okc Tryz.f67.ntmps 0) (fn:=Tryz.f67) (cd:=_) rfl rfl rfl rfl rfl rfl (fun hbd=>?_)
 repeat' (
  conv=>whnf
  first
  |((with_reducible refine Aw ?_);refine Bd h ?_))
 all_goals (conv=>whnf)
 exact fC rfl rfl
def Hb (x y : Inc) : Bool:=decide (Cu x = Cu y)
theorem Aax (x : Inc) (l : List Inc) (hl : l.length ≤ 1000000) (hb : ∀ y ∈ l,Aj Tryz.prog 67 [y.D,.ref Cs x.D] (fun r=>r = .bool (Hb x y))) : Aj Tryz.prog 95 [Jm l,.func 67 [.ref Cs x.D]] (fun r=>r = .int .i64 (match l.findIdx? (Hb x) with|some i=>(i : Int)|none=>-1)):=by
 have hl0:=Iq l
 refine Aj.ofV ?_
 refine Ai (okc Tryz.f95.ntmps 0) (fn:=Tryz.f95) (cd:=_) rfl rfl rfl rfl rfl rfl (fun hbd=>?_)
 all_goals (conv=>whnf)
 refine Bt (X:=Nat) (fun k=>[(0,Jm l),(1,.func 67 [.ref Cs x.D]),(7,iD (CP l).length),(8,iD k)]) (fun _=>[]) (fun k=>k ≤ l.length ∧ ∀ i g,i < k → l[i]? = some g → Hb x g = false) (fun k=>l.length - k) ⟨_,A4 0 Bn rfl (Nat.lt_succ_self _) ⟨Nat.zero_le _,by omega⟩⟩ ?_
 rintro k ⟨hk,he⟩
 rcases Nat.lt_or_ge k l.length with hlt|hge
 ·obtain ⟨g,hg⟩ : ∃ g,l[k]? = some g:=⟨l[k],List.getElem?_eq_getElem hlt⟩
  have hgd : (CP l)[k]? = some g.D:=by simp [CP,hg]
  have hb:=hb g (List.mem_of_getElem? hg)
  cases hbd : Hb x g with
  |true =>
   rw [hbd] at hb
   repeat' (
    conv=>whnf
    first
    |refine Ap (fun h=>?_) (fun h=>?_)
    |((with_reducible refine Aw ?_);refine Bd hb ?_)
    |(with_reducible refine ⟨g.D,by first|exact hgd|(simpa using hgd),?_⟩)
    |((with_reducible apply ob);(exact oT)))
   all_goals (conv=>whnf)
   ·refine fC rfl (congrArg (D.int .i64) ?_)
    have e : l.findIdx? (Hb x) = some k:=List.findIdx?_eq_some_iff_getElem.2 ⟨hlt,by
     rw [List.getElem?_eq_getElem hlt] at hg;cases hg;exact hbd,fun j hj hc=>by
     rw [he j l[j] hj (List.getElem?_eq_getElem (by omega))] at hc;cases hc⟩
    rw [e]
   ·exact absurd hlt (by omega)
  |false =>
   rw [hbd] at hb
   repeat' (
    conv=>whnf
    first
    |refine Ap (fun h=>?_) (fun h=>?_)
    |with_reducible refine Ao ?_
    |((with_reducible refine Aw ?_);refine Bd hb ?_)
    |(with_reducible refine ⟨g.D,by first|exact hgd|(simpa using hgd),?_⟩)
    |((with_reducible apply ob);(exact oT)))
   all_goals (conv=>whnf)
   ·exact A4 (k + 1) Bn rfl (by omega) ⟨by omega,fun i g1 hi h1=>by
     rcases Nat.lt_succ_iff_lt_or_eq.1 hi with h2|rfl
     ·exact he i g1 h2 h1
     ·rw [hg] at h1;cases h1;exact hbd⟩
   ·exact absurd hlt (by omega)
 ·repeat' (
   conv=>whnf
   first
   |refine Ap (fun h=>?_) (fun h=>?_)
   |((with_reducible apply ob);(exact oT)))
  all_goals (conv=>whnf)
  ·exact absurd h (by omega)
  ·refine fC rfl (congrArg (D.int .i64) ?_)
   have e : l.findIdx? (Hb x) = none:=List.findIdx?_eq_none_iff.2 fun g hg=>by
    obtain ⟨i,hi,rfl⟩:=List.getElem_of_mem hg
    exact he i _ (by omega) (List.getElem?_eq_getElem hi)
   rw [e]
theorem Abr (x : Inc) (l : List Inc) (hl : l.length ≤ 1000000) (hb : ∀ y ∈ l,Aj Tryz.prog 67 [y.D,.ref Cs x.D] (fun r=>r = .bool (Hb x y))) : Aj Tryz.prog 66 [Jm l,.func 67 [.ref Cs x.D]] (fun r=>r = .bool (l.any (Hb x))):=by
 have hl0:=Iq l
 have hi:=Aax x l hl hb
 have hany : l.any (Hb x) = (l.findIdx? (Hb x)).isSome:=(List.findIdx?_isSome).symm
 refine Aj.ofV ?_
 refine Ai (okc Tryz.f66.ntmps 0) (fn:=Tryz.f66) (cd:=_) rfl rfl rfl rfl rfl rfl (fun hbd=>?_)
 cases hf : l.findIdx? (Hb x) with
 |none =>
  rw [hf] at hi hany
  repeat' (
   conv=>whnf
   first
   |((with_reducible refine Aw ?_);refine Bd hi ?_))
  all_goals (conv=>whnf)
  exact fC rfl (by rw [hany];rfl)
 |some i =>
  rw [hf] at hi hany
  repeat' (
   conv=>whnf
   first
   |((with_reducible refine Aw ?_);refine Bd hi ?_))
  all_goals (conv=>whnf)
  refine fC rfl (congrArg D.bool ?_)
  rw [hany]
  show decide ((0 : Int) ≤ (i : Int)) = true
  simp
open Go
def Vy (k : Kd) (b : Nat) (prev : List Inc) (x : Inc) : Prop:=Ut k.V k.K k.L x.V x.B ∧ x.B.length = b ∧ prev.any (Hb x) = false
instance (k : Kd) (b : Nat) (prev : List Inc) (x : Inc) : Decidable (Vy k b prev x):=by unfold Vy;infer_instance
def Hg (k : Kd) (b : Nat) : List Inc → Int → List Inc → Option Int
 |_,n,[]=>some n
 |prev,n,x :: l=>if Vy k b prev x then Hg k b (prev ++ [x]) (n - (wN x : Int)) l else none
def Ad9 : Option Int → D
 |some n=>.tuple [.int .i64 n,iD 0]
 |none=>.tuple [iD 0,iD 310]
theorem Ya (k : Kd) (hk : k.Ok) (hs : (k.V,k.K) ∈ Ng) (b : Nat) (hb : b ≤ 20) (l : List Inc) (hl : l.length ≤ 200) (hw : ∀ x ∈ l,Ws x.B ∧ x.B.length ≤ 64) : Aj Tryz.prog 39 [k.D,iD b,Jm l] (fun r=>r = Ad9 (Hg k b [] (Eu k.V k.K k.L b) l)):=by
 have hn:=OM k.V k.K k.L b hk hb
 have hpw:=Vf (V:=k.V) (K:=k.K) k.L b (by have:=hk.v6;omega) (by have:=hk.k4;omega)
 have hl0:=Iq l
 generalize hR : Hg k b [] (Eu k.V k.K k.L b) l = R
 generalize Eu k.V k.K k.L b = N at *
 refine Aj.ofV ?_
 refine Ai (okc Tryz.f39.ntmps 0) (fn:=Tryz.f39) (cd:=_) rfl rfl rfl rfl rfl rfl (fun hbd=>?_)
 repeat' (
  conv=>whnf
  first
  |((with_reducible refine Aw ?_);refine Bd hn ?_)
  |refine Ap (fun h=>?_) (fun h=>?_))
 all_goals (conv=>whnf)
 all_goals (first|(exfalso;omega)|skip)
 refine Bt (X:=Nat × Int) (fun x=>[(1,iD b),(2,Jm l),(3,.ptr 0 []),(8,.int .i64 x.2),(28,Jm l),(29,iD l.length),(30,iD x.1)]) (fun _=>[.var k.D]) (fun x=>(x.1 ≤ l.length ∧ (N : Int) - 5040 * x.1 ≤ x.2 ∧ x.2 ≤ N) ∧ (∀ y ∈ l.take x.1,IsF k y ∧ y.B.length = b) ∧ Hg k b (l.take x.1) x.2 (l.drop x.1) = R) (fun x=>l.length - x.1)
  ⟨_,nx (0,(N : Int)) [0] (by repeat (first|exact trivial|refine Au rfl rfl ?_|refine Au (by rw [hl0];rfl) rfl ?_)) (A8 rfl rfl trivial) rfl rfl (Nat.lt_succ_self _) ⟨⟨Nat.zero_le _,by omega,by omega⟩,fun y hy=>by simp at hy,by simpa using hR⟩⟩ ?_
 rintro ⟨i,n⟩ ⟨⟨hi,hn1,hn2⟩,hF,hc⟩
 dsimp only at hi hn1 hn2 hF hc ⊢
 rcases Nat.lt_or_ge i l.length with h1|h1
 ·obtain ⟨x,hx⟩:=D5 h1
  have hx1 : (CP l)[((i : Nat) : Int).toNat]? = some x.D:=by simp [CP,hx]
  have hd : l.drop i = x :: l.drop (i + 1):=by
   rw [List.drop_eq_getElem_cons h1]
   rw [List.getElem?_eq_getElem h1] at hx
   rw [Option.some.inj hx]
  rw [hd,Hg] at hc
  have hxm:=List.mem_of_getElem? hx
  obtain ⟨hxw,hx64⟩:=hw x hxm
  have his:=AdE k.V k.K k.L x.V x.B hxw (by omega)
  have hB0:=A6 x.B
  by_cases hI : Ut k.V k.K k.L x.V x.B
  ·rw [decide_eq_true hI] at his
   by_cases hbl : x.B.length = b
   ·have hxF:=((L1 k x).1 hI).1
    have hx10:=RF hs hxF
    have hxf:=hxF.fam (by omega)
    have hxv:=Ud hxF (by omega)
    have hcon:=Abr x (l.take i) (by rw [List.length_take];omega) (fun y hy=>by
     obtain ⟨hyF,hyl⟩:=hF y hy
     have hy10:=RF hs hyF
     exact WI x y hxf (hyF.fam (by omega)) hxv.v (Ud hyF (by omega)).v (by rw [hxF.v,hyF.v]) (by omega))
    have hsl : ((CP l).drop 0).take i = CP (l.take i):=by simp [CP]
    unfold Jm at hcon
    rw [← hsl] at hcon
    cases hany : (l.take i).any (Hb x) with
    |true =>
     rw [if_neg (fun h=>by rw [h.2.2] at hany;cases hany)] at hc
     subst hc
     rw [hany] at hcon
     repeat' (
      conv=>whnf
      first
      |(with_reducible refine ⟨_,hx1,?_⟩)
      |((with_reducible refine Aw ?_);refine Bd his ?_)
      |((with_reducible refine Aw ?_);refine HC.borrow hcon (.fvar 1 x.D rfl rfl (.refl _)) (.cons _ _ _ _ (.refl _) (.cons _ _ _ _ (.func _ _ _ (.cons _ _ _ _ (.fvar 1 x.D rfl) .nil)) .nil)) rfl ?_;rintro r H0 ⟨-,-,rfl⟩;refine ⟨rfl,?_⟩)
      |refine Ap (fun h=>?_) (fun h=>?_)
      |refine D4 (fun h=>?_) (fun h=>?_)
      |((with_reducible apply ob);(exact oT)))
     all_goals (conv=>whnf)
     all_goals (first|(exfalso;omega)|skip)
     exact fC rfl rfl
    |false =>
     have hwt:=S1 x hxf
     have hwl:=T3 x
     have hfl:=L8 x.V hxf.v7
     rw [if_pos ⟨hI,hbl,hany⟩] at hc
     rw [hany] at hcon
     repeat' (
      conv=>whnf
      first
      |(with_reducible refine ⟨_,hx1,?_⟩)
      |((with_reducible refine Aw ?_);refine Bd his ?_)
      |((with_reducible refine Aw ?_);refine HC.borrow hcon (.fvar 1 x.D rfl rfl (.refl _)) (.cons _ _ _ _ (.refl _) (.cons _ _ _ _ (.func _ _ _ (.cons _ _ _ _ (.fvar 1 x.D rfl) .nil)) .nil)) rfl ?_;rintro r H0 ⟨-,-,rfl⟩;refine ⟨rfl,?_⟩)
      |((with_reducible refine Aw ?_);refine Bd hwt ?_)
      |refine Ap (fun h=>?_) (fun h=>?_)
      |refine D4 (fun h=>?_) (fun h=>?_)
      |with_reducible refine Ao ?_
      |((with_reducible apply ob);(exact oT)))
     all_goals (conv=>whnf)
     all_goals (first|(exfalso;omega)|skip)
     have htk : l.take (i + 1) = l.take i ++ [x]:=by rw [List.take_add_one,hx];rfl
     exact nx (i + 1,n - (wN x : Int)) [0] Cj (A8 rfl rfl trivial) rfl rfl (by dsimp only;omega) ⟨⟨by dsimp only;omega,by dsimp only;omega,by dsimp only;omega⟩,fun y hy=>by
      dsimp only at hy
      rw [htk] at hy
      rcases List.mem_append.1 hy with h|h
      ·exact hF y h
      ·rw [List.mem_singleton.1 h];exact ⟨hxF,hbl⟩,by dsimp only;rw [htk];exact hc⟩
   ·rw [if_neg (fun h=>hbl h.2.1)] at hc
    subst hc
    repeat' (
     conv=>whnf
     first
     |(with_reducible refine ⟨_,hx1,?_⟩)
     |((with_reducible refine Aw ?_);refine Bd his ?_)
     |refine Ap (fun h=>?_) (fun h=>?_)
     |refine D4 (fun h=>?_) (fun h=>?_)
     |((with_reducible apply ob);(exact oT)))
    all_goals (conv=>whnf)
    all_goals (first|(exfalso;omega)|skip)
    exact fC rfl rfl
  ·rw [if_neg (fun h=>hI h.1)] at hc
   subst hc
   rw [decide_eq_false hI] at his
   repeat' (
    conv=>whnf
    first
    |(with_reducible refine ⟨_,hx1,?_⟩)
    |((with_reducible refine Aw ?_);refine Bd his ?_)
    |refine Ap (fun h=>?_) (fun h=>?_)
    |((with_reducible apply ob);(exact oT)))
   all_goals (conv=>whnf)
   all_goals (first|(exfalso;omega)|skip)
   exact fC rfl rfl
 ·have : i = l.length:=by omega
  subst this
  rw [List.drop_length,Hg] at hc
  subst hc
  repeat' (
   conv=>whnf
   first
   |refine Ap (fun h=>?_) (fun h=>?_)
   |((with_reducible apply ob);(exact oT)))
  all_goals (conv=>whnf)
  all_goals (first|(exfalso;omega)|skip)
  exact fC rfl rfl
open Go
open Go
def Dd : Kd:=⟨4,2,1⟩
theorem FX : Dd.Ok:=⟨by decide,by decide,by decide,by decide,by decide,by decide,by decide⟩
theorem AcO : IsF Dd ⟨4,[3,5]⟩:=((L1 Dd ⟨4,[3,5]⟩).1 (by decide +kernel)).1
open Go
theorem LD (V K L b : Nat) (hk : Kd.Ok ⟨V,K,L⟩) (hb : b ≤ 20) : Aj Tryz.prog 9 [EU V K L,iD b] (fun r=>r = .agg [iD (Eu V K L b),iD 0]):=by
 have h:=OM V K L b hk hb
 refine Aj.ofV ?_
 refine Ai (okc Tryz.f9.ntmps 0) (fn:=Tryz.f9) (cd:=_) rfl rfl rfl rfl rfl rfl (fun hbd=>?_)
 repeat' (
  conv=>whnf
  first
  |((with_reducible refine Aw ?_);refine Bd h ?_))
 all_goals (conv=>whnf)
 exact fC rfl rfl
theorem Sv (v k l b : Int) (h : ¬ Hy v k l ∨ b < 0 ∨ 20 < b) : Aj Tryz.prog 9 [EU v k l,.int .i64 b] (fun r=>r = .agg [iD 0,iD 1]):=by
 have h:=Rs v k l b h
 refine Aj.ofV ?_
 refine Ai (okc Tryz.f9.ntmps 0) (fn:=Tryz.f9) (cd:=_) rfl rfl rfl rfl rfl rfl (fun hbd=>?_)
 repeat' (
  conv=>whnf
  first
  |((with_reducible refine Aw ?_);refine Bd h ?_))
 all_goals (conv=>whnf)
 exact fC rfl rfl
theorem JI (x : Inc) (hx : x.Fam) : Aj Tryz.prog 14 [x.D] (fun r=>r = .agg [iD (wN x),iD 0]):=by
 have h:=S1 x hx
 refine Aj.ofV ?_
 refine Ai (okc Tryz.f14.ntmps 0) (fn:=Tryz.f14) (cd:=_) rfl rfl rfl rfl rfl rfl (fun hbd=>?_)
 repeat' (
  conv=>whnf
  first
  |((with_reducible refine Aw ?_);refine Bd h ?_))
 all_goals (conv=>whnf)
 exact fC rfl rfl
theorem Ro (v : Int) (B : List Nat) (h : 7 < v) : Aj Tryz.prog 14 [.agg [.int .i64 v,A5 B]] (fun r=>r = .agg [iD 0,iD 2]):=by
 have h:=T2 v B h
 refine Aj.ofV ?_
 refine Ai (okc Tryz.f14.ntmps 0) (fn:=Tryz.f14) (cd:=_) rfl rfl rfl rfl rfl rfl (fun hbd=>?_)
 repeat' (
  conv=>whnf
  first
  |((with_reducible refine Aw ?_);refine Bd h ?_))
 all_goals (conv=>whnf)
 exact fC rfl rfl
def Acr : Option Int → D
 |some n=>.agg [.int .i64 n,iD 0]
 |none=>.agg [iD 0,iD 310]
theorem In (k : Kd) (hk : k.Ok) (hs : (k.V,k.K) ∈ Ng) (b : Nat) (hb : b ≤ 20) (l : List Inc) (hl : l.length ≤ 200) (hw : ∀ x ∈ l,Ws x.B ∧ x.B.length ≤ 64) : Aj Tryz.prog 16 [k.D,iD b,Jm l] (fun r=>r = Acr (Hg k b [] (Eu k.V k.K k.L b) l)):=by
 have h:=Ya k hk hs b hb l hl hw
 generalize Hg k b [] (Eu k.V k.K k.L b) l = R at *
 refine Aj.ofV ?_
 refine Ai (okc Tryz.f16.ntmps 0) (fn:=Tryz.f16) (cd:=_) rfl rfl rfl rfl rfl rfl (fun hbd=>?_)
 cases R with
 |none =>
  repeat' (
   conv=>whnf
   first
   |((with_reducible refine Aw ?_);refine Bd h ?_))
  all_goals (conv=>whnf)
  exact fC rfl rfl
 |some n =>
  repeat' (
   conv=>whnf
   first
   |((with_reducible refine Aw ?_);refine Bd h ?_))
  all_goals (conv=>whnf)
  exact fC rfl rfl
theorem X7 (n : Int) : Aj Tryz.prog 27 [.int .i64 n] (fun r=>r = .agg [.int .i64 n,iD 0]):=by
 refine Aj.ofV ?_
 refine Ai (okc Tryz.f27.ntmps 0) (fn:=Tryz.f27) (cd:=_) rfl rfl rfl rfl rfl rfl (fun hbd=>?_)
 all_goals (conv=>whnf)
 exact fC rfl rfl
def GN : Inc:=⟨4,[3,5]⟩
def O5 : Inc:=⟨4,[3,12]⟩
def VE : Inc:=⟨4,[3,6]⟩
theorem Abn : IsF Dd GN:=AcO
theorem Abo : IsF Dd O5:=((L1 Dd O5).1 (by decide +kernel)).1
theorem Xw : Eu 4 2 1 0 = 1 ∧ Eu 4 2 1 1 = 6 ∧ Eu 4 2 1 2 = 15 ∧ Eu 4 2 1 3 = 20 ∧ Eu 4 2 1 7 = 0 ∧ Eu 6 3 2 1 = 20 ∧ Eu 6 3 2 2 = 190:=by decide +kernel
theorem Aat : wN GN = 12 ∧ wN O5 = 3:=by decide +kernel
theorem Xn : Hg Dd 2 [] 15 [GN,O5] = some 0 ∧ Hg Dd 2 [] 15 [GN] = some 3 ∧ Hg Dd 2 [] 15 [GN,VE] = none ∧ Hg Dd 1 [] 6 [GN] = none ∧ Hg Dd 0 [] 1 [] = some 1:=by decide +kernel
theorem Sz : Kd.Ok ⟨6,3,2⟩:=⟨by decide,by decide,by decide,by decide,by decide,by decide,by decide⟩
theorem QU (l : List Inc) (h : ∀ x ∈ l,x.B.length ≤ 2 ∧ ∀ b ∈ x.B,b < 16) : ∀ x ∈ l,Ws x.B ∧ x.B.length ≤ 64:=fun x hx=>⟨fun b hb=>by have:=(h x hx).2 b hb;unfold Ax;omega,by have:=(h x hx).1;omega⟩
theorem VS : Aj Tryz.prog 8 [] (fun r=>r = .bool true):=by
 obtain ⟨a0,a1,a2,a3,a7,b1,b2⟩:=Xw
 obtain ⟨w1,w2⟩:=Aat
 obtain ⟨c1,c2,c3,c4,c5⟩:=Xn
 have h1:=LD 4 2 1 1 FX (by decide)
 have h2:=LD 4 2 1 2 FX (by decide)
 have h3:=LD 4 2 1 3 FX (by decide)
 have h7:=LD 4 2 1 7 FX (by decide)
 have g1:=LD 6 3 2 1 Sz (by decide)
 have g2:=LD 6 3 2 2 Sz (by decide)
 have n1:=Sv 7 3 1 1 (.inl (by decide))
 have n2:=Sv 4 2 1 21 (.inr (.inr (by decide)))
 have hw1:=JI GN (Abn.fam (by decide))
 have hw2:=JI O5 (Abo.fam (by decide))
 have hw3:=Ro 8 [] (by decide)
 have hc1:=In Dd FX (by decide) 2 (by decide) [GN,O5] (by decide) (QU _ (by decide))
 have hc2:=In Dd FX (by decide) 2 (by decide) [GN] (by decide) (QU _ (by decide))
 have hc3:=In Dd FX (by decide) 2 (by decide) [GN,VE] (by decide) (QU _ (by decide))
 have hc4:=In Dd FX (by decide) 1 (by decide) [GN] (by decide) (QU _ (by decide))
 have hc5:=In Dd FX (by decide) 0 (by decide) [] (by decide) (QU _ (by decide))
 rw [a1] at h1
 rw [a2] at h2
 rw [a3] at h3
 rw [a7] at h7
 rw [b1] at g1
 rw [b2] at g2
 rw [w1] at hw1
 rw [w2] at hw2
 rw [show Eu Dd.V Dd.K Dd.L 2 = 15 from a2,show ((15 : Nat) : Int) = 15 from rfl,c1] at hc1
 rw [show Eu Dd.V Dd.K Dd.L 2 = 15 from a2,show ((15 : Nat) : Int) = 15 from rfl,c2] at hc2
 rw [show Eu Dd.V Dd.K Dd.L 2 = 15 from a2,show ((15 : Nat) : Int) = 15 from rfl,c3] at hc3
 rw [show Eu Dd.V Dd.K Dd.L 1 = 6 from a1,show ((6 : Nat) : Int) = 6 from rfl,c4] at hc4
 rw [show Eu Dd.V Dd.K Dd.L 0 = 1 from a0,show ((1 : Nat) : Int) = 1 from rfl,c5] at hc5
 refine Aj.ofV ?_
 refine Ai (okc Tryz.f8.ntmps 0) (fn:=Tryz.f8) (cd:=_) rfl rfl rfl rfl rfl rfl (fun hbd=>?_)
 repeat' (
  conv=>whnf
  first
  |((with_reducible refine Aw ?_);refine Bd h1 ?_)
  |((with_reducible refine Aw ?_);refine Bd h2 ?_)
  |((with_reducible refine Aw ?_);refine Bd h3 ?_)
  |((with_reducible refine Aw ?_);refine Aj.call hw1 (.step 1 .leaf (Ak [3,5]) rfl (A7 _) (.refl _)) (.cons _ _ _ _ (.agg _ _ (.cons _ _ _ _ (.refl _) (.cons _ _ _ _ (Bi rfl rfl) .nil)) rfl) .nil) rfl ?_;rintro r rfl)
  |((with_reducible refine Aw ?_);refine Aj.call hw2 (.step 3 .leaf (Ak [3,12]) rfl (A7 _) (.refl _)) (.cons _ _ _ _ (.agg _ _ (.cons _ _ _ _ (.refl _) (.cons _ _ _ _ (Bi rfl rfl) .nil)) rfl) .nil) rfl ?_;rintro r rfl)
  |((with_reducible refine Aw ?_);refine Aj.call hc1 (.row 5 Cs (CP [GN,O5]) _ rfl (.cons _ _ _ _ (.agg _ _ (.cons _ _ _ _ (.refl _) (.cons _ _ _ _ (Bi rfl rfl) .nil)) rfl) (.cons _ _ _ _ (.agg _ _ (.cons _ _ _ _ (.refl _) (.cons _ _ _ _ (Bi rfl rfl) .nil)) rfl) .nil)) rfl rfl (.step 5 Cs (CP [GN,O5]) rfl rfl (.refl _))) (.cons _ _ _ _ (.refl _) (.cons _ _ _ _ (.refl _) (.cons _ _ _ _ (Bi rfl rfl) .nil))) rfl ?_;rintro r rfl)
  |((with_reducible refine Aw ?_);refine Aj.call hc2 (.row 6 Cs (CP [GN]) _ rfl (.cons _ _ _ _ (.agg _ _ (.cons _ _ _ _ (.refl _) (.cons _ _ _ _ (Bi rfl rfl) .nil)) rfl) .nil) rfl rfl (.step 6 Cs (CP [GN]) rfl rfl (.refl _))) (.cons _ _ _ _ (.refl _) (.cons _ _ _ _ (.refl _) (.cons _ _ _ _ (Bi rfl rfl) .nil))) rfl ?_;rintro r rfl)
  |((with_reducible refine Aw ?_);refine Bd n1 ?_)
  |((with_reducible refine Aw ?_);refine Bd n2 ?_)
  |((with_reducible refine Aw ?_);refine Bd g1 ?_)
  |((with_reducible refine Aw ?_);refine Bd g2 ?_)
  |((with_reducible refine Aw ?_);refine Bd h7 ?_)
  |((with_reducible refine Aw ?_);refine Aj.call hc3 (.step 7 .leaf (Ak [3,6]) rfl (A7 _) (.row 8 Cs (CP [GN,VE]) _ rfl (.cons _ _ _ _ (.agg _ _ (.cons _ _ _ _ (.refl _) (.cons _ _ _ _ (Bi rfl rfl) .nil)) rfl) (.cons _ _ _ _ (.agg _ _ (.cons _ _ _ _ (.refl _) (.cons _ _ _ _ (Bi rfl rfl) .nil)) rfl) .nil)) rfl rfl (.step 8 Cs (CP [GN,VE]) rfl rfl (.refl _)))) (.cons _ _ _ _ (.refl _) (.cons _ _ _ _ (.refl _) (.cons _ _ _ _ (Bi rfl rfl) .nil))) rfl ?_;rintro r rfl)
  |((with_reducible refine Aw ?_);refine Aj.call hc4 (.row 9 Cs (CP [GN]) _ rfl (.cons _ _ _ _ (.agg _ _ (.cons _ _ _ _ (.refl _) (.cons _ _ _ _ (Bi rfl rfl) .nil)) rfl) .nil) rfl rfl (.step 9 Cs (CP [GN]) rfl rfl (.refl _))) (.cons _ _ _ _ (.refl _) (.cons _ _ _ _ (.refl _) (.cons _ _ _ _ (Bi rfl rfl) .nil))) rfl ?_;rintro r rfl)
  |((with_reducible refine Aw ?_);refine Aj.call hw3 (.refl _) (.cons _ _ _ _ (.agg _ _ (.cons _ _ _ _ (.refl _) (.cons _ _ _ _ (.nils _) .nil)) rfl) .nil) rfl ?_;rintro r rfl)
  |((with_reducible refine Aw ?_);refine Aj.call hc5 (.refl _) (.cons _ _ _ _ (.refl _) (.cons _ _ _ _ (.refl _) (.cons _ _ _ _ (.nils _) .nil))) rfl ?_;rintro r rfl)
  |((with_reducible refine Aw ?_);refine Bd (X7 _) ?_))
 all_goals (conv=>whnf)
 exact fC rfl rfl
open Go
open Go
open Go
open Go
open Go
open Go
open Go
open Go
open Go
open Go
open Go
theorem R0 (lx ll : List Nat) (hlx : ∀ x ∈ lx,x < 256) (hll : ∀ x ∈ ll,x < 256) : Aj Tryz.prog 5 [.agg [Dw lx],Dw ll] (fun r=>r = .bool true):=by
 have hex:=VS
 have hmx:=Abb lx hlx
 have hfx:=V0 lx (most:=5) (by omega) (by omega)
 have hv5:=Xq lx (most:=5) (by omega)
 generalize MM lx 5 = X at hmx hfx hv5
 have hv1:=hfx.ok.v1
 have hv7:=hfx.v7
 have hbk:=hfx.ok.b
 have hnk:=hfx.ok.n
 have hfl:=L8 X.V hv7
 have hF:=Wa X.V (by omega)
 have hord:=X2 X hfx.ok hv7
 have hw:=JI X hfx
 have hwo:=J4 hfx
 have hwN : wN X = (CD X (Bl X.V)).length:=rfl
 have hsh:=Uq X.V ll hll (by omega)
 have hpm:=RI ll X.V
 have hI2:=Og X (Ej ll X.V) (by omega) hbk (by omega)
 have hfy:=Ic hfx hpm
 have hwy:=JI (Bo X (Ej ll X.V)) hfy
 rw [Xg hfx hpm] at hwy
 have hol : Cd X X.V ≤ 5040:=by
  have h1:=TN hfx
  have : 1 * Cd X X.V ≤ wN X * Cd X X.V:=Nat.mul_le_mul_right _ h1
  omega
 have hwl:=T3 X
 have hfin : (CP (CD X (Bl X.V))).length = wN X:=by rw [Iq];rfl
 refine Aj.ofV ?_
 refine Ai (okc Tryz.f5.ntmps 0) (fn:=Tryz.f5) (cd:=_) rfl rfl rfl rfl rfl rfl (fun hbd=>?_)
 repeat' (
  conv=>whnf
  first
  |((with_reducible refine Aw ?_);refine Bd hmx ?_)
  |((with_reducible refine Aw ?_);refine Bd VS ?_))
 all_goals (conv=>whnf)
 all_goals (first|(exfalso;omega)|skip)
 refine Bt (X:=Nat) (fun k=>[(1,Dw ll),(5,.bool true),(6,.ptr 1 []),(7,.sl 2 0 (CD X k).length),(8,iD k)]) (fun k=>[.var (.agg [Dw lx]),.var X.D,.row Cs (CP (CD X k))]) (fun k=>k ≤ Bl X.V) (fun k=>Bl X.V - k)
  ⟨_,nx (ρ:=[0,1,2]) 0 Cj HI rfl rfl (Nat.lt_succ_self _) (Nat.zero_le _)⟩ ?_
 intro k hk
 have hil:=MP X k
 have hil2:=Iq (CD X k)
 rcases Nat.lt_or_ge k (Bl X.V) with hlt|hge
 ·have hP:=TP X.V k (by omega) (by omega)
  have hI:=Og X (Fs X.V k) (by omega) hbk (by omega)
  have hidx:=VB (CD X k) (Bo X (Fs X.V k))
  have hnn:=Wq (l:=CD X k) (x:=Bo X (Fs X.V k))
  have hks : CD X (k + 1) = if Bo X (Fs X.V k) ∈ CD X k then CD X k else CD X k ++ [Bo X (Fs X.V k)]:=rfl
  generalize hy : Bo X (Fs X.V k) = y at *
  generalize hix : Ov (CD X k) y = ix at *
  by_cases hmem : y ∈ CD X k
  ·rw [if_pos hmem] at hks
   have h0:=hnn.2 hmem
   repeat' (
    conv=>whnf
    first
    |((with_reducible refine Aw ?_);refine Bd hF ?_)
    |((with_reducible refine A0 ?_);refine A3 hP ?_)
    |((with_reducible refine A0 ?_);refine A3 hI ?_)
    |((with_reducible refine Aw ?_);refine HC.borrow hidx (.step 2 Cs (CP (CD X k)) rfl (KD _) (.refl _)) (.cons _ _ _ _ (Bi rfl hil2) (.cons _ _ _ _ (.refl _) .nil)) rfl ?_;rintro r H0 ⟨-,-,rfl⟩;refine ⟨rfl,?_⟩)
    |refine Ap (fun h=>?_) (fun h=>?_)
    |with_reducible refine Ao ?_
    |((with_reducible apply A1 7);rfl)
    |((with_reducible apply ob);(exact oT)))
   all_goals (conv=>whnf)
   all_goals (first|(exfalso;omega)|skip)
   exact nx (k + 1) [0,1,2] (Au rfl rfl (Au rfl rfl (Au rfl rfl (Au (congrArg (D.sl 2 0) (show (CD X k).length = (CD X (k + 1)).length by rw [hks])) rfl (Au rfl rfl trivial))))) (A8 rfl rfl (A8 rfl rfl (Bb rfl (by rw [hks]) (KD _) trivial))) rfl rfl (by omega) (by omega)
  ·rw [if_neg hmem] at hks
   have h0 : ¬ 0 ≤ ix:=fun h=>hmem (hnn.1 h)
   repeat' (
    conv=>whnf
    first
    |((with_reducible refine Aw ?_);refine Bd hF ?_)
    |((with_reducible refine A0 ?_);refine A3 hP ?_)
    |((with_reducible refine A0 ?_);refine A3 hI ?_)
    |((with_reducible refine Aw ?_);refine HC.borrow hidx (.step 2 Cs (CP (CD X k)) rfl (KD _) (.refl _)) (.cons _ _ _ _ (Bi rfl hil2) (.cons _ _ _ _ (.refl _) .nil)) rfl ?_;rintro r H0 ⟨-,-,rfl⟩;refine ⟨rfl,?_⟩)
    |refine Ap (fun h=>?_) (fun h=>?_)
    |with_reducible refine Ao ?_
    |((with_reducible apply A1 7);rfl)
    |((with_reducible apply ob);(exact oT)))
   all_goals (conv=>whnf)
   all_goals (first|(exfalso;omega)|skip)
   exact nx (k + 1) [0,1,5] (Au rfl rfl (Au rfl rfl (Au rfl rfl (Au (congrArg (D.sl 5 0) (show (CD X k).length + 1 = (CD X (k + 1)).length by rw [hks];simp)) rfl (Au rfl rfl trivial))))) (A8 rfl rfl (A8 rfl rfl (Bb rfl (by show List.take _ (CP _) ++ [_] = _;rw [List.take_of_length_le (by omega),hks];simp [CP];rfl) (KD _) trivial))) rfl rfl (by omega) (by omega)
 ·have : k = Bl X.V:=by omega
  subst this
  have hmul : ((wN X : Nat) : Int) * ((Cd X X.V : Nat) : Int) = ((Bl X.V : Nat) : Int):=by rw [← hwo];exact (Int.natCast_mul _ _).symm
  rw [hwN] at hw hwy hmul
  repeat' (
   conv=>whnf
   first
   |((with_reducible refine Aw ?_);refine Bd hF ?_)
   |((with_reducible refine Aw ?_);refine Bd hord ?_)
   |((with_reducible refine Aw ?_);refine Bd hw ?_)
   |((with_reducible refine A0 ?_);refine A3 hF ?_)
   |((with_reducible refine A0 ?_);refine A3 hsh ?_)
   |((with_reducible refine A0 ?_);refine A3 hI2 ?_)
   |((with_reducible refine A0 ?_);refine A3 hwy ?_)
   |(with_reducible refine H7 hmul (by omega) ?_)
   |refine Ap (fun h=>?_) (fun h=>?_)
   |refine Sy (fun h=>?_) (fun h=>?_)
   |((with_reducible refine A0 ?_);refine A3 (TP _ _ (by omega) (by omega)) ?_)
   |((with_reducible refine A0 ?_);refine A3 (Og _ _ (by omega) (by assumption) (by omega)) ?_)
   |((with_reducible refine A0 ?_);refine A3 (X7 _) ?_)
   |((with_reducible apply A1 7);rfl)
   |((with_reducible apply A1 31);rfl))
  all_goals (conv=>whnf)
  all_goals (first|(exfalso;omega)|skip)
  all_goals first|exact fC rfl rfl|(refine absurd h ?_;simp;done)|(refine fC rfl (congrArg D.bool ?_);simp;done)
theorem vWeightsLaw0 (d0 d1 : D) (h0 : GQ (cx 0 0) 6 37 d0) (h1 : GQ (cx 0 0) 6 35 d1) : Aj Tryz.prog 5 [d0,d1] (fun r=>r = .bool true):=by
 obtain ⟨lx,rfl,hlx⟩:=Aas h0
 obtain ⟨ll,rfl,hll⟩:=VH h1
 exact R0 lx ll hlx hll
end Go.Proofs.YtbpifoakbkmblaaGreatDoor.Pw
