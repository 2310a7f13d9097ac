/- Parts of the proof, merged: AC AD BF CB AE AF AG AH AM. -/
import Derived.Test.YtbpifoakbkmblaaGreatDoorXc

set_option linter.unusedVariables false
set_option linter.unusedSimpArgs false
set_option maxHeartbeats 40000000
set_option maxRecDepth 10000
namespace Go.Proofs.YtbpifoakbkmblaaGreatDoor.Pw
open Go
def IJ (n : Nat) (B : List Nat) (k q : Nat) : List Int:=Bi n (B.take k) q []
def C3 (n : Nat) (B : List Nat) (k b j q : Nat) : List Int:=Bi n (B.take k) q (if q ∈ (Ac b).take j then Ac b else [])
def BT (n : Nat) (B : List Nat) (k b j p l q : Nat) : List Int:=if q = p then Bi n (B.take k) p ((Ac b).take l) else C3 n B k b j q
theorem Dg {n : Nat} {B : List Nat} {k b q : Nat} (hn : n ≤ 64) (hq : q < 64) (h : B[k]? = some b) : C3 n B k b (Ac b).length q = IJ n B (k + 1) q:=by
 unfold C3 IJ
 rw [List.take_length,X4 hn hq h]
theorem RK (n : Nat) (B : List Nat) (k b q : Nat) : C3 n B k b 0 q = IJ n B k q:=by simp [C3,IJ]
theorem E4 {n : Nat} {B : List Nat} {k b j p : Nat} (hn : p ∉ (Ac b).take j) (q : Nat) : BT n B k b j p 0 q = C3 n B k b j q:=by
 unfold BT
 split
 ·rename_i h;subst h;simp [C3,hn]
 ·rfl
theorem Df {n : Nat} {B : List Nat} {k b j p : Nat} (ht : (Ac b).take (j + 1) = (Ac b).take j ++ [p]) (q : Nat) : BT n B k b j p (Ac b).length q = C3 n B k b (j + 1) q:=by
 unfold BT
 split
 ·rename_i h;subst h;simp [C3,ht]
 ·rename_i h;simp [C3,ht,h]
theorem DE {n : Nat} {B : List Nat} {k b j p l q : Nat} (hq : q < n) (hn : q ∉ (Ac b).take l) : (Aa (BT n B k b j p l p))[0 + ((q : Nat) : Int).toNat]? = some (.int .i64 (DP (B.take k) p q : Int)):=by
 unfold BT;rw [if_pos rfl];simp [Aa,Lf hq,hn]
theorem DC (n : Nat) (B : List Nat) (k b j p l : Nat) : (Aa (BT n B k b j p l p)).length = n:=by unfold BT;rw [if_pos rfl,Ar,Cf]
theorem E5 {B : List Nat} {k p q : Nat} (hl : B.length ≤ 64) : DP (B.take k) p q ≤ 64:=by
 have h1 : DP (B.take k) p q ≤ (B.take k).length:=List.countP_le_length
 rw [List.length_take] at h1;omega
theorem DB {n : Nat} {B : List Nat} {k b j p l q : Nat} (ht2 : (Ac b).take (l + 1) = (Ac b).take l ++ [q]) (hq : q < n) (hn : q ∉ (Ac b).take l) : (Aa (BT n B k b j p l p)).set (0 + ((q : Nat) : Int).toNat) (.int .i64 ((DP (B.take k) p q : Int) + 1)) = Aa (BT n B k b j p (l + 1) p):=by
 unfold BT;rw [if_pos rfl,if_pos rfl,ht2,← ZX hq hn];simp [Aa,List.map_set]
abbrev z3 : List D:=Aa [0,0,0]
def FD (f : Nat → List Int) (X : List Ob) : List Ob:=.row .leaf [.sl 2 0 3,.sl 3 0 3,.sl 4 0 3] :: .var (.sl 0 0 3) :: .row .leaf (Aa (f 0)) :: .row .leaf (Aa (f 1)) :: .row .leaf (Aa (f 2)) :: X
theorem Jy (f : Nat → List Int) (X : List Ob) (m : Nat) (hm : 5 ≤ m) (hX : X.all (A3 m) = true) : ∀ o ∈ FD f X,A3 m o = true:=by
 intro o ho
 simp only [FD,List.mem_cons] at ho
 rcases ho with rfl|rfl|rfl|rfl|rfl|ho
 all_goals first|exact ET hm _ rfl|exact B9 _ _ (Af _)|exact List.all_eq_true.1 hX o ho
theorem JF {f g : Nat → List Int} (X : List Ob) (h : ∀ q,f q = g q) : FD f X = FD g X:=by rw [show f = g from funext h]
theorem Abm (B : List Nat) (hB : Ws B) (hl : B.length ≤ 64) (hlt : ∀ b ∈ B,b < 2 ^ 3) : Ah Tryz.prog 55 [(.agg [.int .i64 (3 : Int),Av B])] (fun r=>r = G6 (Il 3 B)):=by
 have hl0:=Ax B
 refine Ah.ofV ?_
 refine Ad (okc Tryz.f55.ntmps 0) (fn:=Tryz.f55) (cd:=_) rfl rfl rfl rfl rfl rfl (fun hbd=>?_)
 repeat' (
  conv=>whnf
  first
  |((with_reducible apply ob);(exact oT)))
 all_goals (conv=>whnf)
 refine Bq (X:=Nat) (fun i=>[(1,.ptr 0 []),(2,.nils),(3,.ptr 2 []),(13,iD 3),(14,iD i)]) (fun i=>match i with|0=>[.var (.agg [.int .i64 (3 : Int),Av B]),.row .leaf [.nils,.nils,.nils],.var (.sl 1 0 3)]|1=>[.var (.agg [.int .i64 (3 : Int),Av B]),.row .leaf [.sl 3 0 3,.nils,.nils],.var (.sl 1 0 3),.row .leaf z3]|2=>[.var (.agg [.int .i64 (3 : Int),Av B]),.row .leaf [.sl 3 0 3,.sl 4 0 3,.nils],.var (.sl 1 0 3),.row .leaf z3,.row .leaf z3]|_=>[.var (.agg [.int .i64 (3 : Int),Av B]),.row .leaf [.sl 3 0 3,.sl 4 0 3,.sl 5 0 3],.var (.sl 1 0 3),.row .leaf z3,.row .leaf z3,.row .leaf z3]) (fun i=>i ≤ 3) (fun i=>3 - i)
  ⟨_,A0 0 Bl rfl (Nat.lt_succ_self _) (Nat.zero_le _)⟩ ?_
 intro i hi
 have hi2 : i = 0 ∨ i = 1 ∨ i = 2 ∨ i = 3:=by omega
 rcases hi2 with rfl|rfl|rfl|rfl
 ·dsimp only
  repeat' (
   conv=>whnf
   first
   |with_reducible refine Ap ?_
   |((with_reducible apply A2 5);rfl)
   |((with_reducible apply ob);(exact oT)))
  all_goals (conv=>whnf)
  exact A0 1 Bl rfl (by omega) (by omega)
 ·dsimp only
  repeat' (
   conv=>whnf
   first
   |with_reducible refine Ap ?_
   |((with_reducible apply A2 5);rfl)
   |((with_reducible apply ob);(exact oT)))
  all_goals (conv=>whnf)
  exact A0 2 Bl rfl (by omega) (by omega)
 ·dsimp only
  repeat' (
   conv=>whnf
   first
   |with_reducible refine Ap ?_
   |((with_reducible apply A2 5);rfl)
   |((with_reducible apply ob);(exact oT)))
  all_goals (conv=>whnf)
  exact A0 3 Bl rfl (by omega) (by omega)
 ·dsimp only
  all_goals (conv=>whnf)
  refine Bq (X:=Nat) (fun k=>[(2,.nils),(3,.ptr 1 []),(25,Av B),(26,iD B.length),(27,iD k)]) (fun k=>(FD (IJ 3 B k) [])) (fun k=>k ≤ B.length) (fun k=>B.length - k)
   ⟨_,nx (ρ:=[1,2,3,4,5]) 0 (by repeat (first|exact trivial|refine Az rfl rfl ?_|refine Az (congrArg (D.int .i64) (by rw [hl0])) rfl ?_)) (Ba rfl rfl (Ba rfl rfl (Bc rfl rfl (Af _) (Bc rfl rfl (Af _) (Bc rfl rfl (Af _) trivial))))) rfl rfl (Nat.lt_succ_self _) (Nat.zero_le _)⟩ ?_
  intro k hk
  rcases Nat.lt_or_ge k B.length with hkl|hkg
  ·obtain ⟨b,hb⟩:=Bp hkl
   have hbm:=List.mem_of_getElem? hb
   have hbw : A8 b:=hB b hbm
   have hbl:=hlt b hbm
   have hbd : (Ae B)[((k : Nat) : Int).toNat]? = some (sD b):=by simp [Ae,hb]
   repeat' (
    conv=>whnf
    first
    |(with_reducible refine ⟨_,hbd,?_⟩)
    |refine Al (fun h=>?_) (fun h=>?_)
    |((with_reducible apply ob);(exact oT)))
   all_goals (conv=>whnf)
   all_goals (first|(exfalso;omega)|skip)
   refine AaQ b hbw 6 (by omega) _ (FD (IJ 3 B k) [.var (sD b)]) rfl (fun j X=>X = (FD (C3 3 B k b j) [.var (sD b)])) _ (fun j X h=>by subst h;exact ⟨rfl,Jy _ _ _ (by decide) rfl⟩) rfl ?_ ?_ (JF _ fun q=>(RK _ _ _ _ q).symm)
   ·rintro j p X rfl hp
    obtain ⟨ht,hn⟩:=B8 hp
    have hpV : p < 3:=B2 hbl ((Bf b p).1 (List.mem_of_getElem? hp)).2
    have hpc : p = 0 ∨ p = 1 ∨ p = 2:=by omega
    rcases hpc with rfl|rfl|rfl
    ·refine FR ?_
     refine Bd (okc Tryz.f55.ntmps 7) rfl rfl rfl rfl rfl ?_
     all_goals (conv=>whnf)
     refine N4 b hbw 8 (by omega) _ (FD (C3 3 B k b j) [.var (sD b),.dead,.var (iD 0)]) rfl (fun l X=>X = (FD (BT 3 B k b j 0 l) [.var (sD b),.dead,.var (iD 0)])) _ (fun l X h=>by subst h;exact ⟨rfl,Jy _ _ _ (by decide) rfl⟩) rfl ?_ ?_ (JF _ fun q=>(E4 hn q).symm)
     ·rintro l q X rfl hq
      obtain ⟨ht2,hn2⟩:=B8 hq
      have hqV : q < 3:=B2 hbl ((Bf b q).1 (List.mem_of_getElem? hq)).2
      have hsl : ([.sl 2 0 3,.sl 3 0 3,.sl 4 0 3] : List D)[0 + ((0 : Nat) : Int).toNat]? = some (.sl 2 0 3):=rfl
      have hrl:=DC 3 B k b j 0 l
      have hqe:=DE (B:=B) (k:=k) (b:=b) (j:=j) (p:=0) hqV hn2
      have hqb:=E5 (B:=B) (k:=k) (p:=0) (q:=q) hl
      have e:=DB (B:=B) (k:=k) (j:=j) (p:=0) ht2 hqV hn2
      refine Bd (okc Tryz.f55.ntmps 9) rfl rfl rfl rfl rfl ?_
      repeat' (
       conv=>whnf
       first
       |(with_reducible refine ⟨_,hsl,?_⟩)
       |(with_reducible refine ⟨_,hqe,?_⟩)
       |with_reducible refine Ap ?_
       |((with_reducible apply ob);(exact oT)))
      all_goals (conv=>whnf)
      all_goals (first|(exfalso;omega)|skip)
      refine Ab (.inl ⟨rfl,(FD (BT 3 B k b j 0 (l + 1)) [.var (sD b),.dead,.var (iD 0)]),?_,rfl⟩)
      unfold FD
      rw [← e]
      rfl
     ·rintro X rfl
      all_goals (conv=>whnf)
      exact Ab ⟨(FD (BT 3 B k b j 0 (Ac b).length) [.var (sD b),_]),_,rfl,rfl,Jy _ _ _ (show 5 ≤ 7 by decide) rfl,rfl,.inl ⟨rfl,(FD (C3 3 B k b (j + 1)) [.var (sD b)]),(JF _ (Df ht)).trans rfl,rfl⟩⟩
    ·refine FR ?_
     refine Bd (okc Tryz.f55.ntmps 7) rfl rfl rfl rfl rfl ?_
     all_goals (conv=>whnf)
     refine N4 b hbw 8 (by omega) _ (FD (C3 3 B k b j) [.var (sD b),.dead,.var (iD 1)]) rfl (fun l X=>X = (FD (BT 3 B k b j 1 l) [.var (sD b),.dead,.var (iD 1)])) _ (fun l X h=>by subst h;exact ⟨rfl,Jy _ _ _ (by decide) rfl⟩) rfl ?_ ?_ (JF _ fun q=>(E4 hn q).symm)
     ·rintro l q X rfl hq
      obtain ⟨ht2,hn2⟩:=B8 hq
      have hqV : q < 3:=B2 hbl ((Bf b q).1 (List.mem_of_getElem? hq)).2
      have hsl : ([.sl 2 0 3,.sl 3 0 3,.sl 4 0 3] : List D)[0 + ((1 : Nat) : Int).toNat]? = some (.sl 3 0 3):=rfl
      have hrl:=DC 3 B k b j 1 l
      have hqe:=DE (B:=B) (k:=k) (b:=b) (j:=j) (p:=1) hqV hn2
      have hqb:=E5 (B:=B) (k:=k) (p:=1) (q:=q) hl
      have e:=DB (B:=B) (k:=k) (j:=j) (p:=1) ht2 hqV hn2
      refine Bd (okc Tryz.f55.ntmps 9) rfl rfl rfl rfl rfl ?_
      repeat' (
       conv=>whnf
       first
       |(with_reducible refine ⟨_,hsl,?_⟩)
       |(with_reducible refine ⟨_,hqe,?_⟩)
       |with_reducible refine Ap ?_
       |((with_reducible apply ob);(exact oT)))
      all_goals (conv=>whnf)
      all_goals (first|(exfalso;omega)|skip)
      refine Ab (.inl ⟨rfl,(FD (BT 3 B k b j 1 (l + 1)) [.var (sD b),.dead,.var (iD 1)]),?_,rfl⟩)
      unfold FD
      rw [← e]
      rfl
     ·rintro X rfl
      all_goals (conv=>whnf)
      exact Ab ⟨(FD (BT 3 B k b j 1 (Ac b).length) [.var (sD b),_]),_,rfl,rfl,Jy _ _ _ (show 5 ≤ 7 by decide) rfl,rfl,.inl ⟨rfl,(FD (C3 3 B k b (j + 1)) [.var (sD b)]),(JF _ (Df ht)).trans rfl,rfl⟩⟩
    ·refine FR ?_
     refine Bd (okc Tryz.f55.ntmps 7) rfl rfl rfl rfl rfl ?_
     all_goals (conv=>whnf)
     refine N4 b hbw 8 (by omega) _ (FD (C3 3 B k b j) [.var (sD b),.dead,.var (iD 2)]) rfl (fun l X=>X = (FD (BT 3 B k b j 2 l) [.var (sD b),.dead,.var (iD 2)])) _ (fun l X h=>by subst h;exact ⟨rfl,Jy _ _ _ (by decide) rfl⟩) rfl ?_ ?_ (JF _ fun q=>(E4 hn q).symm)
     ·rintro l q X rfl hq
      obtain ⟨ht2,hn2⟩:=B8 hq
      have hqV : q < 3:=B2 hbl ((Bf b q).1 (List.mem_of_getElem? hq)).2
      have hsl : ([.sl 2 0 3,.sl 3 0 3,.sl 4 0 3] : List D)[0 + ((2 : Nat) : Int).toNat]? = some (.sl 4 0 3):=rfl
      have hrl:=DC 3 B k b j 2 l
      have hqe:=DE (B:=B) (k:=k) (b:=b) (j:=j) (p:=2) hqV hn2
      have hqb:=E5 (B:=B) (k:=k) (p:=2) (q:=q) hl
      have e:=DB (B:=B) (k:=k) (j:=j) (p:=2) ht2 hqV hn2
      refine Bd (okc Tryz.f55.ntmps 9) rfl rfl rfl rfl rfl ?_
      repeat' (
       conv=>whnf
       first
       |(with_reducible refine ⟨_,hsl,?_⟩)
       |(with_reducible refine ⟨_,hqe,?_⟩)
       |with_reducible refine Ap ?_
       |((with_reducible apply ob);(exact oT)))
      all_goals (conv=>whnf)
      all_goals (first|(exfalso;omega)|skip)
      refine Ab (.inl ⟨rfl,(FD (BT 3 B k b j 2 (l + 1)) [.var (sD b),.dead,.var (iD 2)]),?_,rfl⟩)
      unfold FD
      rw [← e]
      rfl
     ·rintro X rfl
      all_goals (conv=>whnf)
      exact Ab ⟨(FD (BT 3 B k b j 2 (Ac b).length) [.var (sD b),_]),_,rfl,rfl,Jy _ _ _ (show 5 ≤ 7 by decide) rfl,rfl,.inl ⟨rfl,(FD (C3 3 B k b (j + 1)) [.var (sD b)]),(JF _ (Df ht)).trans rfl,rfl⟩⟩
   ·rintro X rfl
    repeat' (
     conv=>whnf
     first
     |with_reducible refine Ap ?_)
    all_goals (conv=>whnf)
    exact nx (k + 1) [0,1,2,3,4] Cb (Ba rfl rfl (Ba rfl rfl (Bc rfl (by rw [Dg (by omega) (by omega) hb]) (Af _) (Bc rfl (by rw [Dg (by omega) (by omega) hb]) (Af _) (Bc rfl (by rw [Dg (by omega) (by omega) hb]) (Af _) trivial))))) rfl rfl (by omega) (by omega)
  ·repeat' (
    conv=>whnf
    first
    |refine Al (fun h=>?_) (fun h=>?_)
    |((with_reducible refine Et (by omega) ?_);intro y hy;(try simp only [Int.toNat_natCast,Nat.zero_add] at hy);(try have hyr:=hR _ (List.mem_of_getElem? hy)))
    |((with_reducible apply ob);(exact oT)))
   all_goals (conv=>whnf)
   all_goals (first|(exfalso;omega)|skip)
   have hkB : k = B.length:=by omega
   subst hkB
   unfold IJ
   rw [List.take_length]
   have e : ∀ p,Bi 3 B p [] = FQ 3 B p:=fun p=>by simp [Bi,FQ]
   refine Ab ⟨_,.list false .leaf [Ai (Bi 3 B 0 []),Ai (Bi 3 B 1 []),Ai (Bi 3 B 2 [])],.step 2 .leaf (Aa (Bi 3 B 0 [])) rfl (Af _) ( .step 3 .leaf (Aa (Bi 3 B 1 [])) rfl (Af _) ( .step 4 .leaf (Aa (Bi 3 B 2 [])) rfl (Af _) (.row 0 .leaf [Ai (Bi 3 B 0 []),Ai (Bi 3 B 1 []),Ai (Bi 3 B 2 [])] [.sl 2 0 3,.sl 3 0 3,.sl 4 0 3] rfl (.cons _ _ _ _ (A9 rfl (by rw [Ar,Cf])) (.cons _ _ _ _ (A9 rfl (by rw [Ar,Cf])) (.cons _ _ _ _ (A9 rfl (by rw [Ar,Cf])) .nil))) rfl rfl (.step 0 .leaf [Ai (Bi 3 B 0 []),Ai (Bi 3 B 1 []),Ai (Bi 3 B 2 [])] rfl ?_ (.refl _))))),A9 rfl rfl,?_,?_⟩
   ·simp [B3,Ai,B1,Af]
   ·simp [B3,Ai,B1,Af]
   ·simp only [e];rfl
abbrev z4 : List D:=Aa [0,0,0,0]
def Ez (f : Nat → List Int) (X : List Ob) : List Ob:=.row .leaf [.sl 2 0 4,.sl 3 0 4,.sl 4 0 4,.sl 5 0 4] :: .var (.sl 0 0 4) :: .row .leaf (Aa (f 0)) :: .row .leaf (Aa (f 1)) :: .row .leaf (Aa (f 2)) :: .row .leaf (Aa (f 3)) :: X
theorem HZ (f : Nat → List Int) (X : List Ob) (m : Nat) (hm : 6 ≤ m) (hX : X.all (A3 m) = true) : ∀ o ∈ Ez f X,A3 m o = true:=by
 intro o ho
 simp only [Ez,List.mem_cons] at ho
 rcases ho with rfl|rfl|rfl|rfl|rfl|rfl|ho
 all_goals first|exact ET hm _ rfl|exact B9 _ _ (Af _)|exact List.all_eq_true.1 hX o ho
theorem HV {f g : Nat → List Int} (X : List Ob) (h : ∀ q,f q = g q) : Ez f X = Ez g X:=by rw [show f = g from funext h]
theorem Aba (B : List Nat) (hB : Ws B) (hl : B.length ≤ 64) (hlt : ∀ b ∈ B,b < 2 ^ 4) : Ah Tryz.prog 55 [(.agg [.int .i64 (4 : Int),Av B])] (fun r=>r = G6 (Il 4 B)):=by
 have hl0:=Ax B
 refine Ah.ofV ?_
 refine Ad (okc Tryz.f55.ntmps 0) (fn:=Tryz.f55) (cd:=_) rfl rfl rfl rfl rfl rfl (fun hbd=>?_)
 repeat' (
  conv=>whnf
  first
  |((with_reducible apply ob);(exact oT)))
 all_goals (conv=>whnf)
 refine Bq (X:=Nat) (fun i=>[(1,.ptr 0 []),(2,.nils),(3,.ptr 2 []),(13,iD 4),(14,iD i)]) (fun i=>match i with|0=>[.var (.agg [.int .i64 (4 : Int),Av B]),.row .leaf [.nils,.nils,.nils,.nils],.var (.sl 1 0 4)]|1=>[.var (.agg [.int .i64 (4 : Int),Av B]),.row .leaf [.sl 3 0 4,.nils,.nils,.nils],.var (.sl 1 0 4),.row .leaf z4]|2=>[.var (.agg [.int .i64 (4 : Int),Av B]),.row .leaf [.sl 3 0 4,.sl 4 0 4,.nils,.nils],.var (.sl 1 0 4),.row .leaf z4,.row .leaf z4]|3=>[.var (.agg [.int .i64 (4 : Int),Av B]),.row .leaf [.sl 3 0 4,.sl 4 0 4,.sl 5 0 4,.nils],.var (.sl 1 0 4),.row .leaf z4,.row .leaf z4,.row .leaf z4]|_=>[.var (.agg [.int .i64 (4 : Int),Av B]),.row .leaf [.sl 3 0 4,.sl 4 0 4,.sl 5 0 4,.sl 6 0 4],.var (.sl 1 0 4),.row .leaf z4,.row .leaf z4,.row .leaf z4,.row .leaf z4]) (fun i=>i ≤ 4) (fun i=>4 - i)
  ⟨_,A0 0 Bl rfl (Nat.lt_succ_self _) (Nat.zero_le _)⟩ ?_
 intro i hi
 have hi2 : i = 0 ∨ i = 1 ∨ i = 2 ∨ i = 3 ∨ i = 4:=by omega
 rcases hi2 with rfl|rfl|rfl|rfl|rfl
 ·dsimp only
  repeat' (
   conv=>whnf
   first
   |with_reducible refine Ap ?_
   |((with_reducible apply A2 5);rfl)
   |((with_reducible apply ob);(exact oT)))
  all_goals (conv=>whnf)
  exact A0 1 Bl rfl (by omega) (by omega)
 ·dsimp only
  repeat' (
   conv=>whnf
   first
   |with_reducible refine Ap ?_
   |((with_reducible apply A2 5);rfl)
   |((with_reducible apply ob);(exact oT)))
  all_goals (conv=>whnf)
  exact A0 2 Bl rfl (by omega) (by omega)
 ·dsimp only
  repeat' (
   conv=>whnf
   first
   |with_reducible refine Ap ?_
   |((with_reducible apply A2 5);rfl)
   |((with_reducible apply ob);(exact oT)))
  all_goals (conv=>whnf)
  exact A0 3 Bl rfl (by omega) (by omega)
 ·dsimp only
  repeat' (
   conv=>whnf
   first
   |with_reducible refine Ap ?_
   |((with_reducible apply A2 5);rfl)
   |((with_reducible apply ob);(exact oT)))
  all_goals (conv=>whnf)
  exact A0 4 Bl rfl (by omega) (by omega)
 ·dsimp only
  all_goals (conv=>whnf)
  refine Bq (X:=Nat) (fun k=>[(2,.nils),(3,.ptr 1 []),(25,Av B),(26,iD B.length),(27,iD k)]) (fun k=>(Ez (IJ 4 B k) [])) (fun k=>k ≤ B.length) (fun k=>B.length - k)
   ⟨_,nx (ρ:=[1,2,3,4,5,6]) 0 (by repeat (first|exact trivial|refine Az rfl rfl ?_|refine Az (congrArg (D.int .i64) (by rw [hl0])) rfl ?_)) (Ba rfl rfl (Ba rfl rfl (Bc rfl rfl (Af _) (Bc rfl rfl (Af _) (Bc rfl rfl (Af _) (Bc rfl rfl (Af _) trivial)))))) rfl rfl (Nat.lt_succ_self _) (Nat.zero_le _)⟩ ?_
  intro k hk
  rcases Nat.lt_or_ge k B.length with hkl|hkg
  ·obtain ⟨b,hb⟩:=Bp hkl
   have hbm:=List.mem_of_getElem? hb
   have hbw : A8 b:=hB b hbm
   have hbl:=hlt b hbm
   have hbd : (Ae B)[((k : Nat) : Int).toNat]? = some (sD b):=by simp [Ae,hb]
   repeat' (
    conv=>whnf
    first
    |(with_reducible refine ⟨_,hbd,?_⟩)
    |refine Al (fun h=>?_) (fun h=>?_)
    |((with_reducible apply ob);(exact oT)))
   all_goals (conv=>whnf)
   all_goals (first|(exfalso;omega)|skip)
   refine AaG b hbw 7 (by omega) _ (Ez (IJ 4 B k) [.var (sD b)]) rfl (fun j X=>X = (Ez (C3 4 B k b j) [.var (sD b)])) _ (fun j X h=>by subst h;exact ⟨rfl,HZ _ _ _ (by decide) rfl⟩) rfl ?_ ?_ (HV _ fun q=>(RK _ _ _ _ q).symm)
   ·rintro j p X rfl hp
    obtain ⟨ht,hn⟩:=B8 hp
    have hpV : p < 4:=B2 hbl ((Bf b p).1 (List.mem_of_getElem? hp)).2
    have hpc : p = 0 ∨ p = 1 ∨ p = 2 ∨ p = 3:=by omega
    rcases hpc with rfl|rfl|rfl|rfl
    ·refine FR ?_
     refine Bd (okc Tryz.f55.ntmps 8) rfl rfl rfl rfl rfl ?_
     all_goals (conv=>whnf)
     refine Jt b hbw 9 (by omega) _ (Ez (C3 4 B k b j) [.var (sD b),.dead,.var (iD 0)]) rfl (fun l X=>X = (Ez (BT 4 B k b j 0 l) [.var (sD b),.dead,.var (iD 0)])) _ (fun l X h=>by subst h;exact ⟨rfl,HZ _ _ _ (by decide) rfl⟩) rfl ?_ ?_ (HV _ fun q=>(E4 hn q).symm)
     ·rintro l q X rfl hq
      obtain ⟨ht2,hn2⟩:=B8 hq
      have hqV : q < 4:=B2 hbl ((Bf b q).1 (List.mem_of_getElem? hq)).2
      have hsl : ([.sl 2 0 4,.sl 3 0 4,.sl 4 0 4,.sl 5 0 4] : List D)[0 + ((0 : Nat) : Int).toNat]? = some (.sl 2 0 4):=rfl
      have hrl:=DC 4 B k b j 0 l
      have hqe:=DE (B:=B) (k:=k) (b:=b) (j:=j) (p:=0) hqV hn2
      have hqb:=E5 (B:=B) (k:=k) (p:=0) (q:=q) hl
      have e:=DB (B:=B) (k:=k) (j:=j) (p:=0) ht2 hqV hn2
      refine Bd (okc Tryz.f55.ntmps 10) rfl rfl rfl rfl rfl ?_
      repeat' (
       conv=>whnf
       first
       |(with_reducible refine ⟨_,hsl,?_⟩)
       |(with_reducible refine ⟨_,hqe,?_⟩)
       |with_reducible refine Ap ?_
       |((with_reducible apply ob);(exact oT)))
      all_goals (conv=>whnf)
      all_goals (first|(exfalso;omega)|skip)
      refine Ab (.inl ⟨rfl,(Ez (BT 4 B k b j 0 (l + 1)) [.var (sD b),.dead,.var (iD 0)]),?_,rfl⟩)
      unfold Ez
      rw [← e]
      rfl
     ·rintro X rfl
      all_goals (conv=>whnf)
      exact Ab ⟨(Ez (BT 4 B k b j 0 (Ac b).length) [.var (sD b),_]),_,rfl,rfl,HZ _ _ _ (show 6 ≤ 8 by decide) rfl,rfl,.inl ⟨rfl,(Ez (C3 4 B k b (j + 1)) [.var (sD b)]),(HV _ (Df ht)).trans rfl,rfl⟩⟩
    ·refine FR ?_
     refine Bd (okc Tryz.f55.ntmps 8) rfl rfl rfl rfl rfl ?_
     all_goals (conv=>whnf)
     refine Jt b hbw 9 (by omega) _ (Ez (C3 4 B k b j) [.var (sD b),.dead,.var (iD 1)]) rfl (fun l X=>X = (Ez (BT 4 B k b j 1 l) [.var (sD b),.dead,.var (iD 1)])) _ (fun l X h=>by subst h;exact ⟨rfl,HZ _ _ _ (by decide) rfl⟩) rfl ?_ ?_ (HV _ fun q=>(E4 hn q).symm)
     ·rintro l q X rfl hq
      obtain ⟨ht2,hn2⟩:=B8 hq
      have hqV : q < 4:=B2 hbl ((Bf b q).1 (List.mem_of_getElem? hq)).2
      have hsl : ([.sl 2 0 4,.sl 3 0 4,.sl 4 0 4,.sl 5 0 4] : List D)[0 + ((1 : Nat) : Int).toNat]? = some (.sl 3 0 4):=rfl
      have hrl:=DC 4 B k b j 1 l
      have hqe:=DE (B:=B) (k:=k) (b:=b) (j:=j) (p:=1) hqV hn2
      have hqb:=E5 (B:=B) (k:=k) (p:=1) (q:=q) hl
      have e:=DB (B:=B) (k:=k) (j:=j) (p:=1) ht2 hqV hn2
      refine Bd (okc Tryz.f55.ntmps 10) rfl rfl rfl rfl rfl ?_
      repeat' (
       conv=>whnf
       first
       |(with_reducible refine ⟨_,hsl,?_⟩)
       |(with_reducible refine ⟨_,hqe,?_⟩)
       |with_reducible refine Ap ?_
       |((with_reducible apply ob);(exact oT)))
      all_goals (conv=>whnf)
      all_goals (first|(exfalso;omega)|skip)
      refine Ab (.inl ⟨rfl,(Ez (BT 4 B k b j 1 (l + 1)) [.var (sD b),.dead,.var (iD 1)]),?_,rfl⟩)
      unfold Ez
      rw [← e]
      rfl
     ·rintro X rfl
      all_goals (conv=>whnf)
      exact Ab ⟨(Ez (BT 4 B k b j 1 (Ac b).length) [.var (sD b),_]),_,rfl,rfl,HZ _ _ _ (show 6 ≤ 8 by decide) rfl,rfl,.inl ⟨rfl,(Ez (C3 4 B k b (j + 1)) [.var (sD b)]),(HV _ (Df ht)).trans rfl,rfl⟩⟩
    ·refine FR ?_
     refine Bd (okc Tryz.f55.ntmps 8) rfl rfl rfl rfl rfl ?_
     all_goals (conv=>whnf)
     refine Jt b hbw 9 (by omega) _ (Ez (C3 4 B k b j) [.var (sD b),.dead,.var (iD 2)]) rfl (fun l X=>X = (Ez (BT 4 B k b j 2 l) [.var (sD b),.dead,.var (iD 2)])) _ (fun l X h=>by subst h;exact ⟨rfl,HZ _ _ _ (by decide) rfl⟩) rfl ?_ ?_ (HV _ fun q=>(E4 hn q).symm)
     ·rintro l q X rfl hq
      obtain ⟨ht2,hn2⟩:=B8 hq
      have hqV : q < 4:=B2 hbl ((Bf b q).1 (List.mem_of_getElem? hq)).2
      have hsl : ([.sl 2 0 4,.sl 3 0 4,.sl 4 0 4,.sl 5 0 4] : List D)[0 + ((2 : Nat) : Int).toNat]? = some (.sl 4 0 4):=rfl
      have hrl:=DC 4 B k b j 2 l
      have hqe:=DE (B:=B) (k:=k) (b:=b) (j:=j) (p:=2) hqV hn2
      have hqb:=E5 (B:=B) (k:=k) (p:=2) (q:=q) hl
      have e:=DB (B:=B) (k:=k) (j:=j) (p:=2) ht2 hqV hn2
      refine Bd (okc Tryz.f55.ntmps 10) rfl rfl rfl rfl rfl ?_
      repeat' (
       conv=>whnf
       first
       |(with_reducible refine ⟨_,hsl,?_⟩)
       |(with_reducible refine ⟨_,hqe,?_⟩)
       |with_reducible refine Ap ?_
       |((with_reducible apply ob);(exact oT)))
      all_goals (conv=>whnf)
      all_goals (first|(exfalso;omega)|skip)
      refine Ab (.inl ⟨rfl,(Ez (BT 4 B k b j 2 (l + 1)) [.var (sD b),.dead,.var (iD 2)]),?_,rfl⟩)
      unfold Ez
      rw [← e]
      rfl
     ·rintro X rfl
      all_goals (conv=>whnf)
      exact Ab ⟨(Ez (BT 4 B k b j 2 (Ac b).length) [.var (sD b),_]),_,rfl,rfl,HZ _ _ _ (show 6 ≤ 8 by decide) rfl,rfl,.inl ⟨rfl,(Ez (C3 4 B k b (j + 1)) [.var (sD b)]),(HV _ (Df ht)).trans rfl,rfl⟩⟩
    ·refine FR ?_
     refine Bd (okc Tryz.f55.ntmps 8) rfl rfl rfl rfl rfl ?_
     all_goals (conv=>whnf)
     refine Jt b hbw 9 (by omega) _ (Ez (C3 4 B k b j) [.var (sD b),.dead,.var (iD 3)]) rfl (fun l X=>X = (Ez (BT 4 B k b j 3 l) [.var (sD b),.dead,.var (iD 3)])) _ (fun l X h=>by subst h;exact ⟨rfl,HZ _ _ _ (by decide) rfl⟩) rfl ?_ ?_ (HV _ fun q=>(E4 hn q).symm)
     ·rintro l q X rfl hq
      obtain ⟨ht2,hn2⟩:=B8 hq
      have hqV : q < 4:=B2 hbl ((Bf b q).1 (List.mem_of_getElem? hq)).2
      have hsl : ([.sl 2 0 4,.sl 3 0 4,.sl 4 0 4,.sl 5 0 4] : List D)[0 + ((3 : Nat) : Int).toNat]? = some (.sl 5 0 4):=rfl
      have hrl:=DC 4 B k b j 3 l
      have hqe:=DE (B:=B) (k:=k) (b:=b) (j:=j) (p:=3) hqV hn2
      have hqb:=E5 (B:=B) (k:=k) (p:=3) (q:=q) hl
      have e:=DB (B:=B) (k:=k) (j:=j) (p:=3) ht2 hqV hn2
      refine Bd (okc Tryz.f55.ntmps 10) rfl rfl rfl rfl rfl ?_
      repeat' (
       conv=>whnf
       first
       |(with_reducible refine ⟨_,hsl,?_⟩)
       |(with_reducible refine ⟨_,hqe,?_⟩)
       |with_reducible refine Ap ?_
       |((with_reducible apply ob);(exact oT)))
      all_goals (conv=>whnf)
      all_goals (first|(exfalso;omega)|skip)
      refine Ab (.inl ⟨rfl,(Ez (BT 4 B k b j 3 (l + 1)) [.var (sD b),.dead,.var (iD 3)]),?_,rfl⟩)
      unfold Ez
      rw [← e]
      rfl
     ·rintro X rfl
      all_goals (conv=>whnf)
      exact Ab ⟨(Ez (BT 4 B k b j 3 (Ac b).length) [.var (sD b),_]),_,rfl,rfl,HZ _ _ _ (show 6 ≤ 8 by decide) rfl,rfl,.inl ⟨rfl,(Ez (C3 4 B k b (j + 1)) [.var (sD b)]),(HV _ (Df ht)).trans rfl,rfl⟩⟩
   ·rintro X rfl
    repeat' (
     conv=>whnf
     first
     |with_reducible refine Ap ?_)
    all_goals (conv=>whnf)
    exact nx (k + 1) [0,1,2,3,4,5] Cb (Ba rfl rfl (Ba rfl rfl (Bc rfl (by rw [Dg (by omega) (by omega) hb]) (Af _) (Bc rfl (by rw [Dg (by omega) (by omega) hb]) (Af _) (Bc rfl (by rw [Dg (by omega) (by omega) hb]) (Af _) (Bc rfl (by rw [Dg (by omega) (by omega) hb]) (Af _) trivial)))))) rfl rfl (by omega) (by omega)
  ·repeat' (
    conv=>whnf
    first
    |refine Al (fun h=>?_) (fun h=>?_)
    |((with_reducible refine Et (by omega) ?_);intro y hy;(try simp only [Int.toNat_natCast,Nat.zero_add] at hy);(try have hyr:=hR _ (List.mem_of_getElem? hy)))
    |((with_reducible apply ob);(exact oT)))
   all_goals (conv=>whnf)
   all_goals (first|(exfalso;omega)|skip)
   have hkB : k = B.length:=by omega
   subst hkB
   unfold IJ
   rw [List.take_length]
   have e : ∀ p,Bi 4 B p [] = FQ 4 B p:=fun p=>by simp [Bi,FQ]
   refine Ab ⟨_,.list false .leaf [Ai (Bi 4 B 0 []),Ai (Bi 4 B 1 []),Ai (Bi 4 B 2 []),Ai (Bi 4 B 3 [])],.step 2 .leaf (Aa (Bi 4 B 0 [])) rfl (Af _) ( .step 3 .leaf (Aa (Bi 4 B 1 [])) rfl (Af _) ( .step 4 .leaf (Aa (Bi 4 B 2 [])) rfl (Af _) ( .step 5 .leaf (Aa (Bi 4 B 3 [])) rfl (Af _) (.row 0 .leaf [Ai (Bi 4 B 0 []),Ai (Bi 4 B 1 []),Ai (Bi 4 B 2 []),Ai (Bi 4 B 3 [])] [.sl 2 0 4,.sl 3 0 4,.sl 4 0 4,.sl 5 0 4] rfl (.cons _ _ _ _ (A9 rfl (by rw [Ar,Cf])) (.cons _ _ _ _ (A9 rfl (by rw [Ar,Cf])) (.cons _ _ _ _ (A9 rfl (by rw [Ar,Cf])) (.cons _ _ _ _ (A9 rfl (by rw [Ar,Cf])) .nil)))) rfl rfl (.step 0 .leaf [Ai (Bi 4 B 0 []),Ai (Bi 4 B 1 []),Ai (Bi 4 B 2 []),Ai (Bi 4 B 3 [])] rfl ?_ (.refl _)))))),A9 rfl rfl,?_,?_⟩
   ·simp [B3,Ai,B1,Af]
   ·simp [B3,Ai,B1,Af]
   ·simp only [e];rfl
abbrev z5 : List D:=Aa [0,0,0,0,0]
def DD (f : Nat → List Int) (X : List Ob) : List Ob:=.row .leaf [.sl 2 0 5,.sl 3 0 5,.sl 4 0 5,.sl 5 0 5,.sl 6 0 5] :: .var (.sl 0 0 5) :: .row .leaf (Aa (f 0)) :: .row .leaf (Aa (f 1)) :: .row .leaf (Aa (f 2)) :: .row .leaf (Aa (f 3)) :: .row .leaf (Aa (f 4)) :: X
theorem Gv (f : Nat → List Int) (X : List Ob) (m : Nat) (hm : 7 ≤ m) (hX : X.all (A3 m) = true) : ∀ o ∈ DD f X,A3 m o = true:=by
 intro o ho
 simp only [DD,List.mem_cons] at ho
 rcases ho with rfl|rfl|rfl|rfl|rfl|rfl|rfl|ho
 all_goals first|exact ET hm _ rfl|exact B9 _ _ (Af _)|exact List.all_eq_true.1 hX o ho
theorem Gc {f g : Nat → List Int} (X : List Ob) (h : ∀ q,f q = g q) : DD f X = DD g X:=by rw [show f = g from funext h]
theorem Aa0 (B : List Nat) (hB : Ws B) (hl : B.length ≤ 64) (hlt : ∀ b ∈ B,b < 2 ^ 5) : Ah Tryz.prog 55 [(.agg [.int .i64 (5 : Int),Av B])] (fun r=>r = G6 (Il 5 B)):=by
 have hl0:=Ax B
 refine Ah.ofV ?_
 refine Ad (okc Tryz.f55.ntmps 0) (fn:=Tryz.f55) (cd:=_) rfl rfl rfl rfl rfl rfl (fun hbd=>?_)
 repeat' (
  conv=>whnf
  first
  |((with_reducible apply ob);(exact oT)))
 all_goals (conv=>whnf)
 refine Bq (X:=Nat) (fun i=>[(1,.ptr 0 []),(2,.nils),(3,.ptr 2 []),(13,iD 5),(14,iD i)]) (fun i=>match i with|0=>[.var (.agg [.int .i64 (5 : Int),Av B]),.row .leaf [.nils,.nils,.nils,.nils,.nils],.var (.sl 1 0 5)]|1=>[.var (.agg [.int .i64 (5 : Int),Av B]),.row .leaf [.sl 3 0 5,.nils,.nils,.nils,.nils],.var (.sl 1 0 5),.row .leaf z5]|2=>[.var (.agg [.int .i64 (5 : Int),Av B]),.row .leaf [.sl 3 0 5,.sl 4 0 5,.nils,.nils,.nils],.var (.sl 1 0 5),.row .leaf z5,.row .leaf z5]|3=>[.var (.agg [.int .i64 (5 : Int),Av B]),.row .leaf [.sl 3 0 5,.sl 4 0 5,.sl 5 0 5,.nils,.nils],.var (.sl 1 0 5),.row .leaf z5,.row .leaf z5,.row .leaf z5]|4=>[.var (.agg [.int .i64 (5 : Int),Av B]),.row .leaf [.sl 3 0 5,.sl 4 0 5,.sl 5 0 5,.sl 6 0 5,.nils],.var (.sl 1 0 5),.row .leaf z5,.row .leaf z5,.row .leaf z5,.row .leaf z5]|_=>[.var (.agg [.int .i64 (5 : Int),Av B]),.row .leaf [.sl 3 0 5,.sl 4 0 5,.sl 5 0 5,.sl 6 0 5,.sl 7 0 5],.var (.sl 1 0 5),.row .leaf z5,.row .leaf z5,.row .leaf z5,.row .leaf z5,.row .leaf z5]) (fun i=>i ≤ 5) (fun i=>5 - i)
  ⟨_,A0 0 Bl rfl (Nat.lt_succ_self _) (Nat.zero_le _)⟩ ?_
 intro i hi
 have hi2 : i = 0 ∨ i = 1 ∨ i = 2 ∨ i = 3 ∨ i = 4 ∨ i = 5:=by omega
 rcases hi2 with rfl|rfl|rfl|rfl|rfl|rfl
 ·dsimp only
  repeat' (
   conv=>whnf
   first
   |with_reducible refine Ap ?_
   |((with_reducible apply A2 5);rfl)
   |((with_reducible apply ob);(exact oT)))
  all_goals (conv=>whnf)
  exact A0 1 Bl rfl (by omega) (by omega)
 ·dsimp only
  repeat' (
   conv=>whnf
   first
   |with_reducible refine Ap ?_
   |((with_reducible apply A2 5);rfl)
   |((with_reducible apply ob);(exact oT)))
  all_goals (conv=>whnf)
  exact A0 2 Bl rfl (by omega) (by omega)
 ·dsimp only
  repeat' (
   conv=>whnf
   first
   |with_reducible refine Ap ?_
   |((with_reducible apply A2 5);rfl)
   |((with_reducible apply ob);(exact oT)))
  all_goals (conv=>whnf)
  exact A0 3 Bl rfl (by omega) (by omega)
 ·dsimp only
  repeat' (
   conv=>whnf
   first
   |with_reducible refine Ap ?_
   |((with_reducible apply A2 5);rfl)
   |((with_reducible apply ob);(exact oT)))
  all_goals (conv=>whnf)
  exact A0 4 Bl rfl (by omega) (by omega)
 ·dsimp only
  repeat' (
   conv=>whnf
   first
   |with_reducible refine Ap ?_
   |((with_reducible apply A2 5);rfl)
   |((with_reducible apply ob);(exact oT)))
  all_goals (conv=>whnf)
  exact A0 5 Bl rfl (by omega) (by omega)
 ·dsimp only
  all_goals (conv=>whnf)
  refine Bq (X:=Nat) (fun k=>[(2,.nils),(3,.ptr 1 []),(25,Av B),(26,iD B.length),(27,iD k)]) (fun k=>(DD (IJ 5 B k) [])) (fun k=>k ≤ B.length) (fun k=>B.length - k)
   ⟨_,nx (ρ:=[1,2,3,4,5,6,7]) 0 (by repeat (first|exact trivial|refine Az rfl rfl ?_|refine Az (congrArg (D.int .i64) (by rw [hl0])) rfl ?_)) (Ba rfl rfl (Ba rfl rfl (Bc rfl rfl (Af _) (Bc rfl rfl (Af _) (Bc rfl rfl (Af _) (Bc rfl rfl (Af _) (Bc rfl rfl (Af _) trivial))))))) rfl rfl (Nat.lt_succ_self _) (Nat.zero_le _)⟩ ?_
  intro k hk
  rcases Nat.lt_or_ge k B.length with hkl|hkg
  ·obtain ⟨b,hb⟩:=Bp hkl
   have hbm:=List.mem_of_getElem? hb
   have hbw : A8 b:=hB b hbm
   have hbl:=hlt b hbm
   have hbd : (Ae B)[((k : Nat) : Int).toNat]? = some (sD b):=by simp [Ae,hb]
   repeat' (
    conv=>whnf
    first
    |(with_reducible refine ⟨_,hbd,?_⟩)
    |refine Al (fun h=>?_) (fun h=>?_)
    |((with_reducible apply ob);(exact oT)))
   all_goals (conv=>whnf)
   all_goals (first|(exfalso;omega)|skip)
   refine N4 b hbw 8 (by omega) _ (DD (IJ 5 B k) [.var (sD b)]) rfl (fun j X=>X = (DD (C3 5 B k b j) [.var (sD b)])) _ (fun j X h=>by subst h;exact ⟨rfl,Gv _ _ _ (by decide) rfl⟩) rfl ?_ ?_ (Gc _ fun q=>(RK _ _ _ _ q).symm)
   ·rintro j p X rfl hp
    obtain ⟨ht,hn⟩:=B8 hp
    have hpV : p < 5:=B2 hbl ((Bf b p).1 (List.mem_of_getElem? hp)).2
    have hpc : p = 0 ∨ p = 1 ∨ p = 2 ∨ p = 3 ∨ p = 4:=by omega
    rcases hpc with rfl|rfl|rfl|rfl|rfl
    ·refine FR ?_
     refine Bd (okc Tryz.f55.ntmps 9) rfl rfl rfl rfl rfl ?_
     all_goals (conv=>whnf)
     refine J1 b hbw 10 (by omega) _ (DD (C3 5 B k b j) [.var (sD b),.dead,.var (iD 0)]) rfl (fun l X=>X = (DD (BT 5 B k b j 0 l) [.var (sD b),.dead,.var (iD 0)])) _ (fun l X h=>by subst h;exact ⟨rfl,Gv _ _ _ (by decide) rfl⟩) rfl ?_ ?_ (Gc _ fun q=>(E4 hn q).symm)
     ·rintro l q X rfl hq
      obtain ⟨ht2,hn2⟩:=B8 hq
      have hqV : q < 5:=B2 hbl ((Bf b q).1 (List.mem_of_getElem? hq)).2
      have hsl : ([.sl 2 0 5,.sl 3 0 5,.sl 4 0 5,.sl 5 0 5,.sl 6 0 5] : List D)[0 + ((0 : Nat) : Int).toNat]? = some (.sl 2 0 5):=rfl
      have hrl:=DC 5 B k b j 0 l
      have hqe:=DE (B:=B) (k:=k) (b:=b) (j:=j) (p:=0) hqV hn2
      have hqb:=E5 (B:=B) (k:=k) (p:=0) (q:=q) hl
      have e:=DB (B:=B) (k:=k) (j:=j) (p:=0) ht2 hqV hn2
      refine Bd (okc Tryz.f55.ntmps 11) rfl rfl rfl rfl rfl ?_
      repeat' (
       conv=>whnf
       first
       |(with_reducible refine ⟨_,hsl,?_⟩)
       |(with_reducible refine ⟨_,hqe,?_⟩)
       |with_reducible refine Ap ?_
       |((with_reducible apply ob);(exact oT)))
      all_goals (conv=>whnf)
      all_goals (first|(exfalso;omega)|skip)
      refine Ab (.inl ⟨rfl,(DD (BT 5 B k b j 0 (l + 1)) [.var (sD b),.dead,.var (iD 0)]),?_,rfl⟩)
      unfold DD
      rw [← e]
      rfl
     ·rintro X rfl
      all_goals (conv=>whnf)
      exact Ab ⟨(DD (BT 5 B k b j 0 (Ac b).length) [.var (sD b),_]),_,rfl,rfl,Gv _ _ _ (show 7 ≤ 9 by decide) rfl,rfl,.inl ⟨rfl,(DD (C3 5 B k b (j + 1)) [.var (sD b)]),(Gc _ (Df ht)).trans rfl,rfl⟩⟩
    ·refine FR ?_
     refine Bd (okc Tryz.f55.ntmps 9) rfl rfl rfl rfl rfl ?_
     all_goals (conv=>whnf)
     refine J1 b hbw 10 (by omega) _ (DD (C3 5 B k b j) [.var (sD b),.dead,.var (iD 1)]) rfl (fun l X=>X = (DD (BT 5 B k b j 1 l) [.var (sD b),.dead,.var (iD 1)])) _ (fun l X h=>by subst h;exact ⟨rfl,Gv _ _ _ (by decide) rfl⟩) rfl ?_ ?_ (Gc _ fun q=>(E4 hn q).symm)
     ·rintro l q X rfl hq
      obtain ⟨ht2,hn2⟩:=B8 hq
      have hqV : q < 5:=B2 hbl ((Bf b q).1 (List.mem_of_getElem? hq)).2
      have hsl : ([.sl 2 0 5,.sl 3 0 5,.sl 4 0 5,.sl 5 0 5,.sl 6 0 5] : List D)[0 + ((1 : Nat) : Int).toNat]? = some (.sl 3 0 5):=rfl
      have hrl:=DC 5 B k b j 1 l
      have hqe:=DE (B:=B) (k:=k) (b:=b) (j:=j) (p:=1) hqV hn2
      have hqb:=E5 (B:=B) (k:=k) (p:=1) (q:=q) hl
      have e:=DB (B:=B) (k:=k) (j:=j) (p:=1) ht2 hqV hn2
      refine Bd (okc Tryz.f55.ntmps 11) rfl rfl rfl rfl rfl ?_
      repeat' (
       conv=>whnf
       first
       |(with_reducible refine ⟨_,hsl,?_⟩)
       |(with_reducible refine ⟨_,hqe,?_⟩)
       |with_reducible refine Ap ?_
       |((with_reducible apply ob);(exact oT)))
      all_goals (conv=>whnf)
      all_goals (first|(exfalso;omega)|skip)
      refine Ab (.inl ⟨rfl,(DD (BT 5 B k b j 1 (l + 1)) [.var (sD b),.dead,.var (iD 1)]),?_,rfl⟩)
      unfold DD
      rw [← e]
      rfl
     ·rintro X rfl
      all_goals (conv=>whnf)
      exact Ab ⟨(DD (BT 5 B k b j 1 (Ac b).length) [.var (sD b),_]),_,rfl,rfl,Gv _ _ _ (show 7 ≤ 9 by decide) rfl,rfl,.inl ⟨rfl,(DD (C3 5 B k b (j + 1)) [.var (sD b)]),(Gc _ (Df ht)).trans rfl,rfl⟩⟩
    ·refine FR ?_
     refine Bd (okc Tryz.f55.ntmps 9) rfl rfl rfl rfl rfl ?_
     all_goals (conv=>whnf)
     refine J1 b hbw 10 (by omega) _ (DD (C3 5 B k b j) [.var (sD b),.dead,.var (iD 2)]) rfl (fun l X=>X = (DD (BT 5 B k b j 2 l) [.var (sD b),.dead,.var (iD 2)])) _ (fun l X h=>by subst h;exact ⟨rfl,Gv _ _ _ (by decide) rfl⟩) rfl ?_ ?_ (Gc _ fun q=>(E4 hn q).symm)
     ·rintro l q X rfl hq
      obtain ⟨ht2,hn2⟩:=B8 hq
      have hqV : q < 5:=B2 hbl ((Bf b q).1 (List.mem_of_getElem? hq)).2
      have hsl : ([.sl 2 0 5,.sl 3 0 5,.sl 4 0 5,.sl 5 0 5,.sl 6 0 5] : List D)[0 + ((2 : Nat) : Int).toNat]? = some (.sl 4 0 5):=rfl
      have hrl:=DC 5 B k b j 2 l
      have hqe:=DE (B:=B) (k:=k) (b:=b) (j:=j) (p:=2) hqV hn2
      have hqb:=E5 (B:=B) (k:=k) (p:=2) (q:=q) hl
      have e:=DB (B:=B) (k:=k) (j:=j) (p:=2) ht2 hqV hn2
      refine Bd (okc Tryz.f55.ntmps 11) rfl rfl rfl rfl rfl ?_
      repeat' (
       conv=>whnf
       first
       |(with_reducible refine ⟨_,hsl,?_⟩)
       |(with_reducible refine ⟨_,hqe,?_⟩)
       |with_reducible refine Ap ?_
       |((with_reducible apply ob);(exact oT)))
      all_goals (conv=>whnf)
      all_goals (first|(exfalso;omega)|skip)
      refine Ab (.inl ⟨rfl,(DD (BT 5 B k b j 2 (l + 1)) [.var (sD b),.dead,.var (iD 2)]),?_,rfl⟩)
      unfold DD
      rw [← e]
      rfl
     ·rintro X rfl
      all_goals (conv=>whnf)
      exact Ab ⟨(DD (BT 5 B k b j 2 (Ac b).length) [.var (sD b),_]),_,rfl,rfl,Gv _ _ _ (show 7 ≤ 9 by decide) rfl,rfl,.inl ⟨rfl,(DD (C3 5 B k b (j + 1)) [.var (sD b)]),(Gc _ (Df ht)).trans rfl,rfl⟩⟩
    ·refine FR ?_
     refine Bd (okc Tryz.f55.ntmps 9) rfl rfl rfl rfl rfl ?_
     all_goals (conv=>whnf)
     refine J1 b hbw 10 (by omega) _ (DD (C3 5 B k b j) [.var (sD b),.dead,.var (iD 3)]) rfl (fun l X=>X = (DD (BT 5 B k b j 3 l) [.var (sD b),.dead,.var (iD 3)])) _ (fun l X h=>by subst h;exact ⟨rfl,Gv _ _ _ (by decide) rfl⟩) rfl ?_ ?_ (Gc _ fun q=>(E4 hn q).symm)
     ·rintro l q X rfl hq
      obtain ⟨ht2,hn2⟩:=B8 hq
      have hqV : q < 5:=B2 hbl ((Bf b q).1 (List.mem_of_getElem? hq)).2
      have hsl : ([.sl 2 0 5,.sl 3 0 5,.sl 4 0 5,.sl 5 0 5,.sl 6 0 5] : List D)[0 + ((3 : Nat) : Int).toNat]? = some (.sl 5 0 5):=rfl
      have hrl:=DC 5 B k b j 3 l
      have hqe:=DE (B:=B) (k:=k) (b:=b) (j:=j) (p:=3) hqV hn2
      have hqb:=E5 (B:=B) (k:=k) (p:=3) (q:=q) hl
      have e:=DB (B:=B) (k:=k) (j:=j) (p:=3) ht2 hqV hn2
      refine Bd (okc Tryz.f55.ntmps 11) rfl rfl rfl rfl rfl ?_
      repeat' (
       conv=>whnf
       first
       |(with_reducible refine ⟨_,hsl,?_⟩)
       |(with_reducible refine ⟨_,hqe,?_⟩)
       |with_reducible refine Ap ?_
       |((with_reducible apply ob);(exact oT)))
      all_goals (conv=>whnf)
      all_goals (first|(exfalso;omega)|skip)
      refine Ab (.inl ⟨rfl,(DD (BT 5 B k b j 3 (l + 1)) [.var (sD b),.dead,.var (iD 3)]),?_,rfl⟩)
      unfold DD
      rw [← e]
      rfl
     ·rintro X rfl
      all_goals (conv=>whnf)
      exact Ab ⟨(DD (BT 5 B k b j 3 (Ac b).length) [.var (sD b),_]),_,rfl,rfl,Gv _ _ _ (show 7 ≤ 9 by decide) rfl,rfl,.inl ⟨rfl,(DD (C3 5 B k b (j + 1)) [.var (sD b)]),(Gc _ (Df ht)).trans rfl,rfl⟩⟩
    ·refine FR ?_
     refine Bd (okc Tryz.f55.ntmps 9) rfl rfl rfl rfl rfl ?_
     all_goals (conv=>whnf)
     refine J1 b hbw 10 (by omega) _ (DD (C3 5 B k b j) [.var (sD b),.dead,.var (iD 4)]) rfl (fun l X=>X = (DD (BT 5 B k b j 4 l) [.var (sD b),.dead,.var (iD 4)])) _ (fun l X h=>by subst h;exact ⟨rfl,Gv _ _ _ (by decide) rfl⟩) rfl ?_ ?_ (Gc _ fun q=>(E4 hn q).symm)
     ·rintro l q X rfl hq
      obtain ⟨ht2,hn2⟩:=B8 hq
      have hqV : q < 5:=B2 hbl ((Bf b q).1 (List.mem_of_getElem? hq)).2
      have hsl : ([.sl 2 0 5,.sl 3 0 5,.sl 4 0 5,.sl 5 0 5,.sl 6 0 5] : List D)[0 + ((4 : Nat) : Int).toNat]? = some (.sl 6 0 5):=rfl
      have hrl:=DC 5 B k b j 4 l
      have hqe:=DE (B:=B) (k:=k) (b:=b) (j:=j) (p:=4) hqV hn2
      have hqb:=E5 (B:=B) (k:=k) (p:=4) (q:=q) hl
      have e:=DB (B:=B) (k:=k) (j:=j) (p:=4) ht2 hqV hn2
      refine Bd (okc Tryz.f55.ntmps 11) rfl rfl rfl rfl rfl ?_
      repeat' (
       conv=>whnf
       first
       |(with_reducible refine ⟨_,hsl,?_⟩)
       |(with_reducible refine ⟨_,hqe,?_⟩)
       |with_reducible refine Ap ?_
       |((with_reducible apply ob);(exact oT)))
      all_goals (conv=>whnf)
      all_goals (first|(exfalso;omega)|skip)
      refine Ab (.inl ⟨rfl,(DD (BT 5 B k b j 4 (l + 1)) [.var (sD b),.dead,.var (iD 4)]),?_,rfl⟩)
      unfold DD
      rw [← e]
      rfl
     ·rintro X rfl
      all_goals (conv=>whnf)
      exact Ab ⟨(DD (BT 5 B k b j 4 (Ac b).length) [.var (sD b),_]),_,rfl,rfl,Gv _ _ _ (show 7 ≤ 9 by decide) rfl,rfl,.inl ⟨rfl,(DD (C3 5 B k b (j + 1)) [.var (sD b)]),(Gc _ (Df ht)).trans rfl,rfl⟩⟩
   ·rintro X rfl
    repeat' (
     conv=>whnf
     first
     |with_reducible refine Ap ?_)
    all_goals (conv=>whnf)
    exact nx (k + 1) [0,1,2,3,4,5,6] Cb (Ba rfl rfl (Ba rfl rfl (Bc rfl (by rw [Dg (by omega) (by omega) hb]) (Af _) (Bc rfl (by rw [Dg (by omega) (by omega) hb]) (Af _) (Bc rfl (by rw [Dg (by omega) (by omega) hb]) (Af _) (Bc rfl (by rw [Dg (by omega) (by omega) hb]) (Af _) (Bc rfl (by rw [Dg (by omega) (by omega) hb]) (Af _) trivial))))))) rfl rfl (by omega) (by omega)
  ·repeat' (
    conv=>whnf
    first
    |refine Al (fun h=>?_) (fun h=>?_)
    |((with_reducible refine Et (by omega) ?_);intro y hy;(try simp only [Int.toNat_natCast,Nat.zero_add] at hy);(try have hyr:=hR _ (List.mem_of_getElem? hy)))
    |((with_reducible apply ob);(exact oT)))
   all_goals (conv=>whnf)
   all_goals (first|(exfalso;omega)|skip)
   have hkB : k = B.length:=by omega
   subst hkB
   unfold IJ
   rw [List.take_length]
   have e : ∀ p,Bi 5 B p [] = FQ 5 B p:=fun p=>by simp [Bi,FQ]
   refine Ab ⟨_,.list false .leaf [Ai (Bi 5 B 0 []),Ai (Bi 5 B 1 []),Ai (Bi 5 B 2 []),Ai (Bi 5 B 3 []),Ai (Bi 5 B 4 [])],.step 2 .leaf (Aa (Bi 5 B 0 [])) rfl (Af _) ( .step 3 .leaf (Aa (Bi 5 B 1 [])) rfl (Af _) ( .step 4 .leaf (Aa (Bi 5 B 2 [])) rfl (Af _) ( .step 5 .leaf (Aa (Bi 5 B 3 [])) rfl (Af _) ( .step 6 .leaf (Aa (Bi 5 B 4 [])) rfl (Af _) (.row 0 .leaf [Ai (Bi 5 B 0 []),Ai (Bi 5 B 1 []),Ai (Bi 5 B 2 []),Ai (Bi 5 B 3 []),Ai (Bi 5 B 4 [])] [.sl 2 0 5,.sl 3 0 5,.sl 4 0 5,.sl 5 0 5,.sl 6 0 5] rfl (.cons _ _ _ _ (A9 rfl (by rw [Ar,Cf])) (.cons _ _ _ _ (A9 rfl (by rw [Ar,Cf])) (.cons _ _ _ _ (A9 rfl (by rw [Ar,Cf])) (.cons _ _ _ _ (A9 rfl (by rw [Ar,Cf])) (.cons _ _ _ _ (A9 rfl (by rw [Ar,Cf])) .nil))))) rfl rfl (.step 0 .leaf [Ai (Bi 5 B 0 []),Ai (Bi 5 B 1 []),Ai (Bi 5 B 2 []),Ai (Bi 5 B 3 []),Ai (Bi 5 B 4 [])] rfl ?_ (.refl _))))))),A9 rfl rfl,?_,?_⟩
   ·simp [B3,Ai,B1,Af]
   ·simp [B3,Ai,B1,Af]
   ·simp only [e];rfl
abbrev z6 : List D:=Aa [0,0,0,0,0,0]
def Dk (f : Nat → List Int) (X : List Ob) : List Ob:=.row .leaf [.sl 2 0 6,.sl 3 0 6,.sl 4 0 6,.sl 5 0 6,.sl 6 0 6,.sl 7 0 6] :: .var (.sl 0 0 6) :: .row .leaf (Aa (f 0)) :: .row .leaf (Aa (f 1)) :: .row .leaf (Aa (f 2)) :: .row .leaf (Aa (f 3)) :: .row .leaf (Aa (f 4)) :: .row .leaf (Aa (f 5)) :: X
theorem Fg (f : Nat → List Int) (X : List Ob) (m : Nat) (hm : 8 ≤ m) (hX : X.all (A3 m) = true) : ∀ o ∈ Dk f X,A3 m o = true:=by
 intro o ho
 simp only [Dk,List.mem_cons] at ho
 rcases ho with rfl|rfl|rfl|rfl|rfl|rfl|rfl|rfl|ho
 all_goals first|exact ET hm _ rfl|exact B9 _ _ (Af _)|exact List.all_eq_true.1 hX o ho
theorem Fe {f g : Nat → List Int} (X : List Ob) (h : ∀ q,f q = g q) : Dk f X = Dk g X:=by rw [show f = g from funext h]
theorem AaN (B : List Nat) (hB : Ws B) (hl : B.length ≤ 64) (hlt : ∀ b ∈ B,b < 2 ^ 6) : Ah Tryz.prog 55 [(.agg [.int .i64 (6 : Int),Av B])] (fun r=>r = G6 (Il 6 B)):=by
 have hl0:=Ax B
 refine Ah.ofV ?_
 refine Ad (okc Tryz.f55.ntmps 0) (fn:=Tryz.f55) (cd:=_) rfl rfl rfl rfl rfl rfl (fun hbd=>?_)
 repeat' (
  conv=>whnf
  first
  |((with_reducible apply ob);(exact oT)))
 all_goals (conv=>whnf)
 refine Bq (X:=Nat) (fun i=>[(1,.ptr 0 []),(2,.nils),(3,.ptr 2 []),(13,iD 6),(14,iD i)]) (fun i=>match i with|0=>[.var (.agg [.int .i64 (6 : Int),Av B]),.row .leaf [.nils,.nils,.nils,.nils,.nils,.nils],.var (.sl 1 0 6)]|1=>[.var (.agg [.int .i64 (6 : Int),Av B]),.row .leaf [.sl 3 0 6,.nils,.nils,.nils,.nils,.nils],.var (.sl 1 0 6),.row .leaf z6]|2=>[.var (.agg [.int .i64 (6 : Int),Av B]),.row .leaf [.sl 3 0 6,.sl 4 0 6,.nils,.nils,.nils,.nils],.var (.sl 1 0 6),.row .leaf z6,.row .leaf z6]|3=>[.var (.agg [.int .i64 (6 : Int),Av B]),.row .leaf [.sl 3 0 6,.sl 4 0 6,.sl 5 0 6,.nils,.nils,.nils],.var (.sl 1 0 6),.row .leaf z6,.row .leaf z6,.row .leaf z6]|4=>[.var (.agg [.int .i64 (6 : Int),Av B]),.row .leaf [.sl 3 0 6,.sl 4 0 6,.sl 5 0 6,.sl 6 0 6,.nils,.nils],.var (.sl 1 0 6),.row .leaf z6,.row .leaf z6,.row .leaf z6,.row .leaf z6]|5=>[.var (.agg [.int .i64 (6 : Int),Av B]),.row .leaf [.sl 3 0 6,.sl 4 0 6,.sl 5 0 6,.sl 6 0 6,.sl 7 0 6,.nils],.var (.sl 1 0 6),.row .leaf z6,.row .leaf z6,.row .leaf z6,.row .leaf z6,.row .leaf z6]|_=>[.var (.agg [.int .i64 (6 : Int),Av B]),.row .leaf [.sl 3 0 6,.sl 4 0 6,.sl 5 0 6,.sl 6 0 6,.sl 7 0 6,.sl 8 0 6],.var (.sl 1 0 6),.row .leaf z6,.row .leaf z6,.row .leaf z6,.row .leaf z6,.row .leaf z6,.row .leaf z6]) (fun i=>i ≤ 6) (fun i=>6 - i)
  ⟨_,A0 0 Bl rfl (Nat.lt_succ_self _) (Nat.zero_le _)⟩ ?_
 intro i hi
 have hi2 : i = 0 ∨ i = 1 ∨ i = 2 ∨ i = 3 ∨ i = 4 ∨ i = 5 ∨ i = 6:=by omega
 rcases hi2 with rfl|rfl|rfl|rfl|rfl|rfl|rfl
 ·dsimp only
  repeat' (
   conv=>whnf
   first
   |with_reducible refine Ap ?_
   |((with_reducible apply A2 5);rfl)
   |((with_reducible apply ob);(exact oT)))
  all_goals (conv=>whnf)
  exact A0 1 Bl rfl (by omega) (by omega)
 ·dsimp only
  repeat' (
   conv=>whnf
   first
   |with_reducible refine Ap ?_
   |((with_reducible apply A2 5);rfl)
   |((with_reducible apply ob);(exact oT)))
  all_goals (conv=>whnf)
  exact A0 2 Bl rfl (by omega) (by omega)
 ·dsimp only
  repeat' (
   conv=>whnf
   first
   |with_reducible refine Ap ?_
   |((with_reducible apply A2 5);rfl)
   |((with_reducible apply ob);(exact oT)))
  all_goals (conv=>whnf)
  exact A0 3 Bl rfl (by omega) (by omega)
 ·dsimp only
  repeat' (
   conv=>whnf
   first
   |with_reducible refine Ap ?_
   |((with_reducible apply A2 5);rfl)
   |((with_reducible apply ob);(exact oT)))
  all_goals (conv=>whnf)
  exact A0 4 Bl rfl (by omega) (by omega)
 ·dsimp only
  repeat' (
   conv=>whnf
   first
   |with_reducible refine Ap ?_
   |((with_reducible apply A2 5);rfl)
   |((with_reducible apply ob);(exact oT)))
  all_goals (conv=>whnf)
  exact A0 5 Bl rfl (by omega) (by omega)
 ·dsimp only
  repeat' (
   conv=>whnf
   first
   |with_reducible refine Ap ?_
   |((with_reducible apply A2 5);rfl)
   |((with_reducible apply ob);(exact oT)))
  all_goals (conv=>whnf)
  exact A0 6 Bl rfl (by omega) (by omega)
 ·dsimp only
  all_goals (conv=>whnf)
  refine Bq (X:=Nat) (fun k=>[(2,.nils),(3,.ptr 1 []),(25,Av B),(26,iD B.length),(27,iD k)]) (fun k=>(Dk (IJ 6 B k) [])) (fun k=>k ≤ B.length) (fun k=>B.length - k)
   ⟨_,nx (ρ:=[1,2,3,4,5,6,7,8]) 0 (by repeat (first|exact trivial|refine Az rfl rfl ?_|refine Az (congrArg (D.int .i64) (by rw [hl0])) rfl ?_)) (Ba rfl rfl (Ba rfl rfl (Bc rfl rfl (Af _) (Bc rfl rfl (Af _) (Bc rfl rfl (Af _) (Bc rfl rfl (Af _) (Bc rfl rfl (Af _) (Bc rfl rfl (Af _) trivial)))))))) rfl rfl (Nat.lt_succ_self _) (Nat.zero_le _)⟩ ?_
  intro k hk
  rcases Nat.lt_or_ge k B.length with hkl|hkg
  ·obtain ⟨b,hb⟩:=Bp hkl
   have hbm:=List.mem_of_getElem? hb
   have hbw : A8 b:=hB b hbm
   have hbl:=hlt b hbm
   have hbd : (Ae B)[((k : Nat) : Int).toNat]? = some (sD b):=by simp [Ae,hb]
   repeat' (
    conv=>whnf
    first
    |(with_reducible refine ⟨_,hbd,?_⟩)
    |refine Al (fun h=>?_) (fun h=>?_)
    |((with_reducible apply ob);(exact oT)))
   all_goals (conv=>whnf)
   all_goals (first|(exfalso;omega)|skip)
   refine Jt b hbw 9 (by omega) _ (Dk (IJ 6 B k) [.var (sD b)]) rfl (fun j X=>X = (Dk (C3 6 B k b j) [.var (sD b)])) _ (fun j X h=>by subst h;exact ⟨rfl,Fg _ _ _ (by decide) rfl⟩) rfl ?_ ?_ (Fe _ fun q=>(RK _ _ _ _ q).symm)
   ·rintro j p X rfl hp
    obtain ⟨ht,hn⟩:=B8 hp
    have hpV : p < 6:=B2 hbl ((Bf b p).1 (List.mem_of_getElem? hp)).2
    have hpc : p = 0 ∨ p = 1 ∨ p = 2 ∨ p = 3 ∨ p = 4 ∨ p = 5:=by omega
    rcases hpc with rfl|rfl|rfl|rfl|rfl|rfl
    ·refine FR ?_
     refine Bd (okc Tryz.f55.ntmps 10) rfl rfl rfl rfl rfl ?_
     all_goals (conv=>whnf)
     refine Im b hbw 11 (by omega) _ (Dk (C3 6 B k b j) [.var (sD b),.dead,.var (iD 0)]) rfl (fun l X=>X = (Dk (BT 6 B k b j 0 l) [.var (sD b),.dead,.var (iD 0)])) _ (fun l X h=>by subst h;exact ⟨rfl,Fg _ _ _ (by decide) rfl⟩) rfl ?_ ?_ (Fe _ fun q=>(E4 hn q).symm)
     ·rintro l q X rfl hq
      obtain ⟨ht2,hn2⟩:=B8 hq
      have hqV : q < 6:=B2 hbl ((Bf b q).1 (List.mem_of_getElem? hq)).2
      have hsl : ([.sl 2 0 6,.sl 3 0 6,.sl 4 0 6,.sl 5 0 6,.sl 6 0 6,.sl 7 0 6] : List D)[0 + ((0 : Nat) : Int).toNat]? = some (.sl 2 0 6):=rfl
      have hrl:=DC 6 B k b j 0 l
      have hqe:=DE (B:=B) (k:=k) (b:=b) (j:=j) (p:=0) hqV hn2
      have hqb:=E5 (B:=B) (k:=k) (p:=0) (q:=q) hl
      have e:=DB (B:=B) (k:=k) (j:=j) (p:=0) ht2 hqV hn2
      refine Bd (okc Tryz.f55.ntmps 12) rfl rfl rfl rfl rfl ?_
      repeat' (
       conv=>whnf
       first
       |(with_reducible refine ⟨_,hsl,?_⟩)
       |(with_reducible refine ⟨_,hqe,?_⟩)
       |with_reducible refine Ap ?_
       |((with_reducible apply ob);(exact oT)))
      all_goals (conv=>whnf)
      all_goals (first|(exfalso;omega)|skip)
      refine Ab (.inl ⟨rfl,(Dk (BT 6 B k b j 0 (l + 1)) [.var (sD b),.dead,.var (iD 0)]),?_,rfl⟩)
      unfold Dk
      rw [← e]
      rfl
     ·rintro X rfl
      all_goals (conv=>whnf)
      exact Ab ⟨(Dk (BT 6 B k b j 0 (Ac b).length) [.var (sD b),_]),_,rfl,rfl,Fg _ _ _ (show 8 ≤ 10 by decide) rfl,rfl,.inl ⟨rfl,(Dk (C3 6 B k b (j + 1)) [.var (sD b)]),(Fe _ (Df ht)).trans rfl,rfl⟩⟩
    ·refine FR ?_
     refine Bd (okc Tryz.f55.ntmps 10) rfl rfl rfl rfl rfl ?_
     all_goals (conv=>whnf)
     refine Im b hbw 11 (by omega) _ (Dk (C3 6 B k b j) [.var (sD b),.dead,.var (iD 1)]) rfl (fun l X=>X = (Dk (BT 6 B k b j 1 l) [.var (sD b),.dead,.var (iD 1)])) _ (fun l X h=>by subst h;exact ⟨rfl,Fg _ _ _ (by decide) rfl⟩) rfl ?_ ?_ (Fe _ fun q=>(E4 hn q).symm)
     ·rintro l q X rfl hq
      obtain ⟨ht2,hn2⟩:=B8 hq
      have hqV : q < 6:=B2 hbl ((Bf b q).1 (List.mem_of_getElem? hq)).2
      have hsl : ([.sl 2 0 6,.sl 3 0 6,.sl 4 0 6,.sl 5 0 6,.sl 6 0 6,.sl 7 0 6] : List D)[0 + ((1 : Nat) : Int).toNat]? = some (.sl 3 0 6):=rfl
      have hrl:=DC 6 B k b j 1 l
      have hqe:=DE (B:=B) (k:=k) (b:=b) (j:=j) (p:=1) hqV hn2
      have hqb:=E5 (B:=B) (k:=k) (p:=1) (q:=q) hl
      have e:=DB (B:=B) (k:=k) (j:=j) (p:=1) ht2 hqV hn2
      refine Bd (okc Tryz.f55.ntmps 12) rfl rfl rfl rfl rfl ?_
      repeat' (
       conv=>whnf
       first
       |(with_reducible refine ⟨_,hsl,?_⟩)
       |(with_reducible refine ⟨_,hqe,?_⟩)
       |with_reducible refine Ap ?_
       |((with_reducible apply ob);(exact oT)))
      all_goals (conv=>whnf)
      all_goals (first|(exfalso;omega)|skip)
      refine Ab (.inl ⟨rfl,(Dk (BT 6 B k b j 1 (l + 1)) [.var (sD b),.dead,.var (iD 1)]),?_,rfl⟩)
      unfold Dk
      rw [← e]
      rfl
     ·rintro X rfl
      all_goals (conv=>whnf)
      exact Ab ⟨(Dk (BT 6 B k b j 1 (Ac b).length) [.var (sD b),_]),_,rfl,rfl,Fg _ _ _ (show 8 ≤ 10 by decide) rfl,rfl,.inl ⟨rfl,(Dk (C3 6 B k b (j + 1)) [.var (sD b)]),(Fe _ (Df ht)).trans rfl,rfl⟩⟩
    ·refine FR ?_
     refine Bd (okc Tryz.f55.ntmps 10) rfl rfl rfl rfl rfl ?_
     all_goals (conv=>whnf)
     refine Im b hbw 11 (by omega) _ (Dk (C3 6 B k b j) [.var (sD b),.dead,.var (iD 2)]) rfl (fun l X=>X = (Dk (BT 6 B k b j 2 l) [.var (sD b),.dead,.var (iD 2)])) _ (fun l X h=>by subst h;exact ⟨rfl,Fg _ _ _ (by decide) rfl⟩) rfl ?_ ?_ (Fe _ fun q=>(E4 hn q).symm)
     ·rintro l q X rfl hq
      obtain ⟨ht2,hn2⟩:=B8 hq
      have hqV : q < 6:=B2 hbl ((Bf b q).1 (List.mem_of_getElem? hq)).2
      have hsl : ([.sl 2 0 6,.sl 3 0 6,.sl 4 0 6,.sl 5 0 6,.sl 6 0 6,.sl 7 0 6] : List D)[0 + ((2 : Nat) : Int).toNat]? = some (.sl 4 0 6):=rfl
      have hrl:=DC 6 B k b j 2 l
      have hqe:=DE (B:=B) (k:=k) (b:=b) (j:=j) (p:=2) hqV hn2
      have hqb:=E5 (B:=B) (k:=k) (p:=2) (q:=q) hl
      have e:=DB (B:=B) (k:=k) (j:=j) (p:=2) ht2 hqV hn2
      refine Bd (okc Tryz.f55.ntmps 12) rfl rfl rfl rfl rfl ?_
      repeat' (
       conv=>whnf
       first
       |(with_reducible refine ⟨_,hsl,?_⟩)
       |(with_reducible refine ⟨_,hqe,?_⟩)
       |with_reducible refine Ap ?_
       |((with_reducible apply ob);(exact oT)))
      all_goals (conv=>whnf)
      all_goals (first|(exfalso;omega)|skip)
      refine Ab (.inl ⟨rfl,(Dk (BT 6 B k b j 2 (l + 1)) [.var (sD b),.dead,.var (iD 2)]),?_,rfl⟩)
      unfold Dk
      rw [← e]
      rfl
     ·rintro X rfl
      all_goals (conv=>whnf)
      exact Ab ⟨(Dk (BT 6 B k b j 2 (Ac b).length) [.var (sD b),_]),_,rfl,rfl,Fg _ _ _ (show 8 ≤ 10 by decide) rfl,rfl,.inl ⟨rfl,(Dk (C3 6 B k b (j + 1)) [.var (sD b)]),(Fe _ (Df ht)).trans rfl,rfl⟩⟩
    ·refine FR ?_
     refine Bd (okc Tryz.f55.ntmps 10) rfl rfl rfl rfl rfl ?_
     all_goals (conv=>whnf)
     refine Im b hbw 11 (by omega) _ (Dk (C3 6 B k b j) [.var (sD b),.dead,.var (iD 3)]) rfl (fun l X=>X = (Dk (BT 6 B k b j 3 l) [.var (sD b),.dead,.var (iD 3)])) _ (fun l X h=>by subst h;exact ⟨rfl,Fg _ _ _ (by decide) rfl⟩) rfl ?_ ?_ (Fe _ fun q=>(E4 hn q).symm)
     ·rintro l q X rfl hq
      obtain ⟨ht2,hn2⟩:=B8 hq
      have hqV : q < 6:=B2 hbl ((Bf b q).1 (List.mem_of_getElem? hq)).2
      have hsl : ([.sl 2 0 6,.sl 3 0 6,.sl 4 0 6,.sl 5 0 6,.sl 6 0 6,.sl 7 0 6] : List D)[0 + ((3 : Nat) : Int).toNat]? = some (.sl 5 0 6):=rfl
      have hrl:=DC 6 B k b j 3 l
      have hqe:=DE (B:=B) (k:=k) (b:=b) (j:=j) (p:=3) hqV hn2
      have hqb:=E5 (B:=B) (k:=k) (p:=3) (q:=q) hl
      have e:=DB (B:=B) (k:=k) (j:=j) (p:=3) ht2 hqV hn2
      refine Bd (okc Tryz.f55.ntmps 12) rfl rfl rfl rfl rfl ?_
      repeat' (
       conv=>whnf
       first
       |(with_reducible refine ⟨_,hsl,?_⟩)
       |(with_reducible refine ⟨_,hqe,?_⟩)
       |with_reducible refine Ap ?_
       |((with_reducible apply ob);(exact oT)))
      all_goals (conv=>whnf)
      all_goals (first|(exfalso;omega)|skip)
      refine Ab (.inl ⟨rfl,(Dk (BT 6 B k b j 3 (l + 1)) [.var (sD b),.dead,.var (iD 3)]),?_,rfl⟩)
      unfold Dk
      rw [← e]
      rfl
     ·rintro X rfl
      all_goals (conv=>whnf)
      exact Ab ⟨(Dk (BT 6 B k b j 3 (Ac b).length) [.var (sD b),_]),_,rfl,rfl,Fg _ _ _ (show 8 ≤ 10 by decide) rfl,rfl,.inl ⟨rfl,(Dk (C3 6 B k b (j + 1)) [.var (sD b)]),(Fe _ (Df ht)).trans rfl,rfl⟩⟩
    ·refine FR ?_
     refine Bd (okc Tryz.f55.ntmps 10) rfl rfl rfl rfl rfl ?_
     all_goals (conv=>whnf)
     refine Im b hbw 11 (by omega) _ (Dk (C3 6 B k b j) [.var (sD b),.dead,.var (iD 4)]) rfl (fun l X=>X = (Dk (BT 6 B k b j 4 l) [.var (sD b),.dead,.var (iD 4)])) _ (fun l X h=>by subst h;exact ⟨rfl,Fg _ _ _ (by decide) rfl⟩) rfl ?_ ?_ (Fe _ fun q=>(E4 hn q).symm)
     ·rintro l q X rfl hq
      obtain ⟨ht2,hn2⟩:=B8 hq
      have hqV : q < 6:=B2 hbl ((Bf b q).1 (List.mem_of_getElem? hq)).2
      have hsl : ([.sl 2 0 6,.sl 3 0 6,.sl 4 0 6,.sl 5 0 6,.sl 6 0 6,.sl 7 0 6] : List D)[0 + ((4 : Nat) : Int).toNat]? = some (.sl 6 0 6):=rfl
      have hrl:=DC 6 B k b j 4 l
      have hqe:=DE (B:=B) (k:=k) (b:=b) (j:=j) (p:=4) hqV hn2
      have hqb:=E5 (B:=B) (k:=k) (p:=4) (q:=q) hl
      have e:=DB (B:=B) (k:=k) (j:=j) (p:=4) ht2 hqV hn2
      refine Bd (okc Tryz.f55.ntmps 12) rfl rfl rfl rfl rfl ?_
      repeat' (
       conv=>whnf
       first
       |(with_reducible refine ⟨_,hsl,?_⟩)
       |(with_reducible refine ⟨_,hqe,?_⟩)
       |with_reducible refine Ap ?_
       |((with_reducible apply ob);(exact oT)))
      all_goals (conv=>whnf)
      all_goals (first|(exfalso;omega)|skip)
      refine Ab (.inl ⟨rfl,(Dk (BT 6 B k b j 4 (l + 1)) [.var (sD b),.dead,.var (iD 4)]),?_,rfl⟩)
      unfold Dk
      rw [← e]
      rfl
     ·rintro X rfl
      all_goals (conv=>whnf)
      exact Ab ⟨(Dk (BT 6 B k b j 4 (Ac b).length) [.var (sD b),_]),_,rfl,rfl,Fg _ _ _ (show 8 ≤ 10 by decide) rfl,rfl,.inl ⟨rfl,(Dk (C3 6 B k b (j + 1)) [.var (sD b)]),(Fe _ (Df ht)).trans rfl,rfl⟩⟩
    ·refine FR ?_
     refine Bd (okc Tryz.f55.ntmps 10) rfl rfl rfl rfl rfl ?_
     all_goals (conv=>whnf)
     refine Im b hbw 11 (by omega) _ (Dk (C3 6 B k b j) [.var (sD b),.dead,.var (iD 5)]) rfl (fun l X=>X = (Dk (BT 6 B k b j 5 l) [.var (sD b),.dead,.var (iD 5)])) _ (fun l X h=>by subst h;exact ⟨rfl,Fg _ _ _ (by decide) rfl⟩) rfl ?_ ?_ (Fe _ fun q=>(E4 hn q).symm)
     ·rintro l q X rfl hq
      obtain ⟨ht2,hn2⟩:=B8 hq
      have hqV : q < 6:=B2 hbl ((Bf b q).1 (List.mem_of_getElem? hq)).2
      have hsl : ([.sl 2 0 6,.sl 3 0 6,.sl 4 0 6,.sl 5 0 6,.sl 6 0 6,.sl 7 0 6] : List D)[0 + ((5 : Nat) : Int).toNat]? = some (.sl 7 0 6):=rfl
      have hrl:=DC 6 B k b j 5 l
      have hqe:=DE (B:=B) (k:=k) (b:=b) (j:=j) (p:=5) hqV hn2
      have hqb:=E5 (B:=B) (k:=k) (p:=5) (q:=q) hl
      have e:=DB (B:=B) (k:=k) (j:=j) (p:=5) ht2 hqV hn2
      refine Bd (okc Tryz.f55.ntmps 12) rfl rfl rfl rfl rfl ?_
      repeat' (
       conv=>whnf
       first
       |(with_reducible refine ⟨_,hsl,?_⟩)
       |(with_reducible refine ⟨_,hqe,?_⟩)
       |with_reducible refine Ap ?_
       |((with_reducible apply ob);(exact oT)))
      all_goals (conv=>whnf)
      all_goals (first|(exfalso;omega)|skip)
      refine Ab (.inl ⟨rfl,(Dk (BT 6 B k b j 5 (l + 1)) [.var (sD b),.dead,.var (iD 5)]),?_,rfl⟩)
      unfold Dk
      rw [← e]
      rfl
     ·rintro X rfl
      all_goals (conv=>whnf)
      exact Ab ⟨(Dk (BT 6 B k b j 5 (Ac b).length) [.var (sD b),_]),_,rfl,rfl,Fg _ _ _ (show 8 ≤ 10 by decide) rfl,rfl,.inl ⟨rfl,(Dk (C3 6 B k b (j + 1)) [.var (sD b)]),(Fe _ (Df ht)).trans rfl,rfl⟩⟩
   ·rintro X rfl
    repeat' (
     conv=>whnf
     first
     |with_reducible refine Ap ?_)
    all_goals (conv=>whnf)
    exact nx (k + 1) [0,1,2,3,4,5,6,7] Cb (Ba rfl rfl (Ba rfl rfl (Bc rfl (by rw [Dg (by omega) (by omega) hb]) (Af _) (Bc rfl (by rw [Dg (by omega) (by omega) hb]) (Af _) (Bc rfl (by rw [Dg (by omega) (by omega) hb]) (Af _) (Bc rfl (by rw [Dg (by omega) (by omega) hb]) (Af _) (Bc rfl (by rw [Dg (by omega) (by omega) hb]) (Af _) (Bc rfl (by rw [Dg (by omega) (by omega) hb]) (Af _) trivial)))))))) rfl rfl (by omega) (by omega)
  ·repeat' (
    conv=>whnf
    first
    |refine Al (fun h=>?_) (fun h=>?_)
    |((with_reducible refine Et (by omega) ?_);intro y hy;(try simp only [Int.toNat_natCast,Nat.zero_add] at hy);(try have hyr:=hR _ (List.mem_of_getElem? hy)))
    |((with_reducible apply ob);(exact oT)))
   all_goals (conv=>whnf)
   all_goals (first|(exfalso;omega)|skip)
   have hkB : k = B.length:=by omega
   subst hkB
   unfold IJ
   rw [List.take_length]
   have e : ∀ p,Bi 6 B p [] = FQ 6 B p:=fun p=>by simp [Bi,FQ]
   refine Ab ⟨_,.list false .leaf [Ai (Bi 6 B 0 []),Ai (Bi 6 B 1 []),Ai (Bi 6 B 2 []),Ai (Bi 6 B 3 []),Ai (Bi 6 B 4 []),Ai (Bi 6 B 5 [])],.step 2 .leaf (Aa (Bi 6 B 0 [])) rfl (Af _) ( .step 3 .leaf (Aa (Bi 6 B 1 [])) rfl (Af _) ( .step 4 .leaf (Aa (Bi 6 B 2 [])) rfl (Af _) ( .step 5 .leaf (Aa (Bi 6 B 3 [])) rfl (Af _) ( .step 6 .leaf (Aa (Bi 6 B 4 [])) rfl (Af _) ( .step 7 .leaf (Aa (Bi 6 B 5 [])) rfl (Af _) (.row 0 .leaf [Ai (Bi 6 B 0 []),Ai (Bi 6 B 1 []),Ai (Bi 6 B 2 []),Ai (Bi 6 B 3 []),Ai (Bi 6 B 4 []),Ai (Bi 6 B 5 [])] [.sl 2 0 6,.sl 3 0 6,.sl 4 0 6,.sl 5 0 6,.sl 6 0 6,.sl 7 0 6] rfl (.cons _ _ _ _ (A9 rfl (by rw [Ar,Cf])) (.cons _ _ _ _ (A9 rfl (by rw [Ar,Cf])) (.cons _ _ _ _ (A9 rfl (by rw [Ar,Cf])) (.cons _ _ _ _ (A9 rfl (by rw [Ar,Cf])) (.cons _ _ _ _ (A9 rfl (by rw [Ar,Cf])) (.cons _ _ _ _ (A9 rfl (by rw [Ar,Cf])) .nil)))))) rfl rfl (.step 0 .leaf [Ai (Bi 6 B 0 []),Ai (Bi 6 B 1 []),Ai (Bi 6 B 2 []),Ai (Bi 6 B 3 []),Ai (Bi 6 B 4 []),Ai (Bi 6 B 5 [])] rfl ?_ (.refl _)))))))),A9 rfl rfl,?_,?_⟩
   ·simp [B3,Ai,B1,Af]
   ·simp [B3,Ai,B1,Af]
   ·simp only [e];rfl
open Go
theorem AcC (v : Int) (B : List Nat) (hB : Ws B) (hV : Ff v B) (h3 : 3 ≤ v) (h6 : v ≤ 6) : Ah Tryz.prog 55 [.agg [.int .i64 v,Av B]] (fun r=>r = G6 (Il v.toNat B)):=by
 have hc : v = 3 ∨ v = 4 ∨ v = 5 ∨ v = 6:=by omega
 rcases hc with rfl|rfl|rfl|rfl
 ·exact Abm B hB hV.1.2.2 hV.2.2
 ·exact Aba B hB hV.1.2.2 hV.2.2
 ·exact Aa0 B hB hV.1.2.2 hV.2.2
 ·exact AaN B hB hV.1.2.2 hV.2.2
theorem Yg (v k l xv : Int) (B : List Nat) (hB : Ws B) (hl : B.length ≤ 1000000) : Ah Tryz.prog 31 [BO v k l,.agg [.int .i64 xv,Av B]] (fun r=>r = .bool (decide (GO v k l xv B))) :=
 Ahp v k l xv B hB hl fun h hR hV=>by subst h;exact AcC xv B hB hV hR.1 hR.2.1
def Em : List Nat → List Nat → Int
 |[],[]=>0
 |[],_ :: _=>-1
 |_ :: _,[]=>1
 |a :: l,b :: m=>if a < b then -1 else if b < a then 1 else Em l m
theorem Ir (a b : Nat) : Ah Tryz.prog 114 [sD a,sD b] (fun r=>r = .int .i64 (if a < b then -1 else if b < a then 1 else 0)):=by
 refine Ah.ofV ?_
 refine Ad (okc Tryz.f114.ntmps 0) (fn:=Tryz.f114) (cd:=_) rfl rfl rfl rfl rfl rfl (fun hbd=>?_)
 repeat' (
  conv=>whnf
  first
  |refine Al (fun h=>?_) (fun h=>?_)
  |((with_reducible refine Ao ?_);refine Au (Ach _) ?_))
 all_goals (conv=>whnf)
 all_goals first|exact fC rfl (by rw [if_pos (by omega)];rfl)|exact fC rfl (by rw [if_neg (by omega),if_pos (by omega)];rfl)|exact fC rfl (by rw [if_neg (by omega),if_neg (by omega)];rfl)
theorem WQ (a b : List Nat) (ha : a.length ≤ 1000000) (hb : b.length ≤ 1000000) : Ah Tryz.prog 87 [Av a,Av b] (fun r=>r = .int .i64 (Em a b)):=by
 have ha0:=Ax a
 have hb0:=Ax b
 refine Ah.ofV ?_
 refine Ad (okc Tryz.f87.ntmps 0) (fn:=Tryz.f87) (cd:=_) rfl rfl rfl rfl rfl rfl (fun hbd=>?_)
 all_goals (conv=>whnf)
 refine Bq (X:=Nat) (fun k=>[(0,Av a),(1,Av b),(9,Av a),(10,iD a.length),(11,iD k)]) (fun _=>[]) (fun k=>(k ≤ a.length ∧ k ≤ b.length) ∧ Em a b = Em (a.drop k) (b.drop k)) (fun k=>a.length - k)
  ⟨_,A0 0 (by repeat (first|exact trivial|refine B4 rfl ?_|refine B4 (congrArg (D.int .i64) (by rw [ha0])) ?_)) rfl (Nat.lt_succ_self _) ⟨⟨Nat.zero_le _,Nat.zero_le _⟩,rfl⟩⟩ ?_
 rintro k ⟨⟨hka,hkb⟩,he⟩
 rcases Nat.lt_or_ge k a.length with h1|h1
 ·obtain ⟨x,hx⟩:=Bp h1
  have hx1 : (Ae a)[((k : Nat) : Int).toNat]? = some (sD x):=by simp [Ae,hx]
  have ea : a.drop k = x :: a.drop (k + 1):=by rw [List.drop_eq_getElem_cons h1,(List.getElem?_eq_some_iff.1 hx).2]
  rcases Nat.lt_or_ge k b.length with h2|h2
  ·obtain ⟨y,hy⟩:=Bp h2
   have hy1 : (Ae b)[((k : Nat) : Int).toNat]? = some (sD y):=by simp [Ae,hy]
   have eb : b.drop k = y :: b.drop (k + 1):=by rw [List.drop_eq_getElem_cons h2,(List.getElem?_eq_some_iff.1 hy).2]
   rw [ea,eb,Em] at he
   rcases Nat.lt_trichotomy x y with hc|hc|hc
   ·have hcv:=Ir x y
    rw [if_pos hc] at hcv he
    repeat' (
     conv=>whnf
     first
     |(with_reducible refine ⟨_,hx1,?_⟩)
     |(with_reducible refine ⟨_,hy1,?_⟩)
     |((with_reducible refine Ao ?_);refine Au hcv ?_)
     |refine Al (fun h=>?_) (fun h=>?_)
     |((with_reducible apply ob);(exact oT)))
    all_goals (conv=>whnf)
    all_goals (first|(exfalso;omega)|skip)
    exact fC rfl (by rw [he];rfl)
   ·subst hc
    have hcv:=Ir x x
    rw [if_neg (Nat.lt_irrefl _),if_neg (Nat.lt_irrefl _)] at hcv he
    repeat' (
     conv=>whnf
     first
     |(with_reducible refine ⟨_,hx1,?_⟩)
     |(with_reducible refine ⟨_,hy1,?_⟩)
     |((with_reducible refine Ao ?_);refine Au hcv ?_)
     |refine Al (fun h=>?_) (fun h=>?_)
     |with_reducible refine Ap ?_
     |((with_reducible apply ob);(exact oT)))
    all_goals (conv=>whnf)
    all_goals (first|(exfalso;omega)|skip)
    exact A0 (k + 1) Bl rfl (by omega) ⟨⟨by omega,by omega⟩,he⟩
   ·have hcv:=Ir x y
    rw [if_neg (by omega),if_pos hc] at hcv he
    repeat' (
     conv=>whnf
     first
     |(with_reducible refine ⟨_,hx1,?_⟩)
     |(with_reducible refine ⟨_,hy1,?_⟩)
     |((with_reducible refine Ao ?_);refine Au hcv ?_)
     |refine Al (fun h=>?_) (fun h=>?_)
     |((with_reducible apply ob);(exact oT)))
    all_goals (conv=>whnf)
    all_goals (first|(exfalso;omega)|skip)
    exact fC rfl (by rw [he];rfl)
  ·repeat' (
    conv=>whnf
    first
    |(with_reducible refine ⟨_,hx1,?_⟩)
    |refine Al (fun h=>?_) (fun h=>?_)
    |refine Cs (fun h=>?_) (fun h=>?_)
    |with_reducible refine Ap ?_
    |((with_reducible refine Et (by omega) ?_);intro y hy;(try simp only [Int.toNat_natCast,Nat.zero_add] at hy);(try have hyr:=hR _ (List.mem_of_getElem? hy)))
    |((with_reducible refine Ao ?_);refine Au (Ir _ _) ?_)
    |((with_reducible apply ob);(exact oT)))
   all_goals (conv=>whnf)
   all_goals (first|(exfalso;omega)|skip)
   refine fC rfl ?_
   rw [he,ea,List.drop_eq_nil_of_le h2];rfl
 ·repeat' (
   conv=>whnf
   first
   |refine Al (fun h=>?_) (fun h=>?_)
   |refine Cs (fun h=>?_) (fun h=>?_)
   |with_reducible refine Ap ?_
   |((with_reducible refine Et (by omega) ?_);intro y hy;(try simp only [Int.toNat_natCast,Nat.zero_add] at hy);(try have hyr:=hR _ (List.mem_of_getElem? hy)))
   |((with_reducible refine Ao ?_);refine Au (Ir _ _) ?_)
   |((with_reducible apply ob);(exact oT)))
  all_goals (conv=>whnf)
  all_goals (first|(exfalso;omega)|skip)
  ·refine fC rfl ?_
   obtain ⟨y,hy⟩:=Bp (l:=b) (i:=k) (by omega)
   rw [he,List.drop_eq_nil_of_le h1,List.drop_eq_getElem_cons (by omega)];rfl
  ·refine fC rfl ?_
   rw [he,List.drop_eq_nil_of_le h1,List.drop_eq_nil_of_le (by omega)];rfl
theorem Yt (a b : List Nat) (ha : a.length ≤ 1000000) (hb : b.length ≤ 1000000) : Ah Tryz.prog 154 [Av a,Av b] (fun r=>r = .bool (decide (Em a b < 0))):=by
 refine Ah.ofV ?_
 refine Ad (okc Tryz.f154.ntmps 0) (fn:=Tryz.f154) (cd:=_) rfl rfl rfl rfl rfl rfl (fun hbd=>?_)
 repeat' (
  conv=>whnf
  first
  |((with_reducible refine Ao ?_);refine Au (WQ _ _ (by omega) (by omega)) ?_))
 all_goals (conv=>whnf)
 exact fC rfl rfl
theorem Zz (l : List Nat) (hl : l.length ≤ 1000000) : HC Tryz.prog 82 [.sl 0 0 l.length] [.row .leaf (Ae l)] (fun r H'=>Bs ((l = [] ∧ r = .nils ∧ H' = [.row .leaf []]) ∨ (r = .sl 2 0 l.length ∧ H' = [.row .leaf (Ae l),.dead,.row .leaf (Ae l)]))):=by
 have hl0:=Ax l
 refine Ad (okc Tryz.f82.ntmps 1) (fn:=Tryz.f82) (cd:=_) rfl rfl rfl rfl rfl rfl (fun hbd=>?_)
 all_goals (conv=>whnf)
 refine VN (fun e=>?_) ?_
 ·have e : l = []:=by cases l with|nil=>rfl|cons a l=>simp at e
  subst e
  all_goals (conv=>whnf)
  exact Ab (.inl ⟨rfl,rfl,rfl⟩)
 ·repeat' (
   conv=>whnf
   first
   |((with_reducible apply ob);(exact oT)))
  all_goals (conv=>whnf)
  have e : List.take l.length (List.drop 0 (Ae l)) = Ae l:=by rw [List.drop_zero,← hl0,List.take_length]
  refine Ab (.inr ⟨?_,?_⟩)
  ·show D.sl (0 + 1 + 1) 0 (0 + (List.take l.length (List.drop 0 (Ae l))).length) = _
   rw [e,hl0,Nat.zero_add (l.length)]
  ·show [Ob.row .leaf (Ae l),.dead,Ob.row .leaf ([] ++ List.take l.length (List.drop 0 (Ae l)))] = _
   rw [e];rfl
theorem Yl (l : List Int) (hl : l.length ≤ 1000000) : HC Tryz.prog 108 [.sl 0 0 l.length] [.row .leaf (Aa l)] (fun r H'=>Bs ((l = [] ∧ r = .nils ∧ H' = [.row .leaf []]) ∨ (r = .sl 2 0 l.length ∧ H' = [.row .leaf (Aa l),.dead,.row .leaf (Aa l)]))):=by
 have hl0:=Ar l
 refine Ad (okc Tryz.f108.ntmps 1) (fn:=Tryz.f108) (cd:=_) rfl rfl rfl rfl rfl rfl (fun hbd=>?_)
 all_goals (conv=>whnf)
 refine VN (fun e=>?_) ?_
 ·have e : l = []:=by cases l with|nil=>rfl|cons a l=>simp at e
  subst e
  all_goals (conv=>whnf)
  exact Ab (.inl ⟨rfl,rfl,rfl⟩)
 ·repeat' (
   conv=>whnf
   first
   |((with_reducible apply ob);(exact oT)))
  all_goals (conv=>whnf)
  have e : List.take l.length (List.drop 0 (Aa l)) = Aa l:=by rw [List.drop_zero,← hl0,List.take_length]
  refine Ab (.inr ⟨?_,?_⟩)
  ·show D.sl (0 + 1 + 1) 0 (0 + (List.take l.length (List.drop 0 (Aa l))).length) = _
   rw [e,hl0,Nat.zero_add (l.length)]
  ·show [Ob.row .leaf (Aa l),.dead,Ob.row .leaf ([] ++ List.take l.length (List.drop 0 (Aa l)))] = _
   rw [e];rfl
theorem AaB : Ah Tryz.prog 129 [] (fun r=>r = .agg [.agg [.func 154 []],.agg [.func 155 []]]):=by
 refine Ah.ofV ?_
 refine Ad (okc Tryz.f129.ntmps 0) (fn:=Tryz.f129) (cd:=_) rfl rfl rfl rfl rfl rfl (fun hbd=>?_)
 all_goals (conv=>whnf)
 exact fC rfl rfl
open Go
def Gy (n : Nat) : Nat → List Int → List (List Int)
 |0,pre=>[pre]
 |f + 1,pre=>((List.range n).filter fun p=>!pre.contains ((p : Nat) : Int)).flatMap fun p=>Gy n f (pre ++ [((p : Nat) : Int)])
def GW (n f : Nat) (pre : List Int) (k : Nat) : List (List Int):=((List.range k).filter fun p=>!pre.contains ((p : Nat) : Int)).flatMap fun p=>Gy n f (pre ++ [((p : Nat) : Int)])
theorem Pk {n f : Nat} {pre : List Int} {k : Nat} (h : ((k : Nat) : Int) ∈ pre) : GW n f pre (k + 1) = GW n f pre k:=by
 unfold GW
 rw [List.range_succ,List.filter_append]
 have : List.filter (fun p=>!pre.contains ((p : Nat) : Int)) [k] = []:=by simp [h]
 rw [this,List.append_nil]
theorem PC {n f : Nat} {pre : List Int} {k : Nat} (h : ((k : Nat) : Int) ∉ pre) : GW n f pre (k + 1) = GW n f pre k ++ Gy n f (pre ++ [((k : Nat) : Int)]):=by
 unfold GW
 rw [List.range_succ,List.filter_append]
 have : List.filter (fun p=>!pre.contains ((p : Nat) : Int)) [k] = [k]:=by simp [h]
 rw [this,List.flatMap_append];simp
theorem O3 (n : Nat) : ∀ (f : Nat) (pre g : List Int),pre.length + f = n → De pre n → (g ∈ Gy n f pre ↔ Pm g n ∧ g.take pre.length = pre)
 |0,pre,g,hf,hd=>by
  rw [Gy,List.mem_singleton]
  constructor
  ·rintro rfl;exact ⟨⟨by omega,hd⟩,List.take_length⟩
  ·rintro ⟨⟨h1,_⟩,h2⟩
   rw [← h2,List.take_of_length_le (by omega)]
 |f + 1,pre,g,hf,hd=>by
  rw [Gy,List.mem_flatMap]
  constructor
  ·rintro ⟨p,hp,hg⟩
   obtain ⟨hp1,hp2⟩:=List.mem_filter.1 hp
   have hpn : ((p : Nat) : Int) ∉ pre:=by simpa using hp2
   have hp1:=List.mem_range.1 hp1
   have hd2 : De (pre ++ [((p : Nat) : Int)]) n:=⟨fun x hx=>by
    rcases List.mem_append.1 hx with h|h
    ·exact hd.1 x h
    ·rw [List.mem_singleton.1 h];omega,by
    rw [List.nodup_append]
    refine ⟨hd.2,by simp,fun a ha b hb=>?_⟩
    rw [List.mem_singleton.1 hb]
    rintro rfl;exact hpn ha⟩
   obtain ⟨h1,h2⟩:=(O3 n f _ g (by simp;omega) hd2).1 hg
   refine ⟨h1,?_⟩
   have:=congrArg (List.take pre.length) h2
   rw [List.take_take] at this
   simpa using this
  ·rintro ⟨h1,h2⟩
   have hlt : pre.length < g.length:=by rw [h1.1];omega
   have hx:=h1.2.1 g[pre.length] (List.getElem_mem hlt)
   have hx2 : ((g[pre.length].toNat : Nat) : Int) = g[pre.length]:=by omega
   have hnp : g[pre.length] ∉ pre:=by
    have hnd:=h1.2.2
    have : g = pre ++ g.drop pre.length:=by
     conv=>lhs;rw [← List.take_append_drop pre.length g,h2]
    intro hm
    rw [this] at hnd
    have:=(List.nodup_append.1 hnd).2.2 _ hm g[pre.length] (by
     rw [List.mem_iff_getElem?]
     exact ⟨0,by rw [List.getElem?_drop];simp [hlt]⟩)
    exact this rfl
   have htk : g.take (pre.length + 1) = pre ++ [g[pre.length]]:=by
    rw [List.take_add_one,h2,List.getElem?_eq_getElem hlt];rfl
   refine ⟨g[pre.length].toNat,List.mem_filter.2 ⟨List.mem_range.2 (by omega),by rw [hx2];simpa using hnp⟩,?_⟩
   rw [hx2]
   have hd2 : De (pre ++ [g[pre.length]]) n:=by
    rw [← htk]
    exact ⟨fun x hx=>h1.2.1 x (List.mem_of_mem_take hx),h1.2.2.sublist (List.take_sublist _ _)⟩
   exact (O3 n f _ g (by simp;omega) hd2).2 ⟨h1,by simpa using htk⟩
theorem T4 (n : Nat) (g : List Int) : g ∈ Gy n n [] ↔ Pm g n:=by
 rw [O3 n n [] g (by simp) ⟨fun x hx=>by (cases hx),List.nodup_nil⟩]
 simp
theorem FG : ∀ (a b : List Nat),Em a b < 0 ↔ Bu a b = true
 |[],[]=>by simp [Em,Bu]
 |[],_ :: _=>by simp [Em,Bu]
 |_ :: _,[]=>by simp [Em,Bu]
 |a :: l,b :: m=>by
  unfold Em Bu
  split
  ·simp
  ·split
   ·simp
   ·exact FG l m
def BG (x : Inc) (g : List Int) : List Nat:=Cl (x.B.map (Cy · g))
theorem Aan (B : List Nat) (g : List Int) : ∀ k,k ≤ B.length → JR (B.map (Cy · g)) k = Ha B g k
 |0,_=>rfl
 |k + 1,h=>by
  rw [JR,Ha,Aan B g k (by omega)]
  congr 1
  simp [List.getD,List.getElem?_eq_getElem (show k < B.length by omega)]
theorem Sg {x : Inc} {g : List Int} (hg : Pm g x.V) : Bn x g = ⟨x.V,BG x g⟩:=by
 unfold Bn BG Cl
 rw [if_pos hg,List.length_map,Aan _ _ _ (Nat.le_refl _)]
def WT (x : Inc) (st : Option (List Nat × List Int)) (g : List Int) : Option (List Nat × List Int) :=
 match st with
 |none=>some (BG x g,g)
 |some (b,a)=>if Em (BG x g) b < 0 then some (BG x g,g) else some (b,a)
def II (x : Inc) (l : List (List Int)) : Option (List Nat × List Int):=l.foldl (WT x) none
theorem RZ (x : Inc) (l : List (List Int)) (g : List Int) : II x (l ++ [g]) = WT x (II x l) g:=by unfold II;rw [List.foldl_append];rfl
theorem Ox (x : Inc) : ∀ (l : List (List Int)) (b0 : List Nat) (a0 : List Int),∃ b a,l.foldl (WT x) (some (b0,a0)) = some (b,a) ∧ ((b = b0 ∧ a = a0) ∨ ∃ g ∈ l,b = BG x g ∧ a = g) ∧ Bu b0 b = false ∧ ∀ g ∈ l,Bu (BG x g) b = false
 |[],b0,a0=>⟨b0,a0,rfl,.inl ⟨rfl,rfl⟩,Jx _,fun g hg=>by cases hg⟩
 |g :: l,b0,a0=>by
  rw [List.foldl_cons]
  unfold WT
  dsimp only
  by_cases h : Em (BG x g) b0 < 0
  ·rw [if_pos h]
   have h':=(FG _ _).1 h
   obtain ⟨b,a,e,h1,h2,h3⟩:=Ox x l (BG x g) g
   refine ⟨b,a,e,.inr ?_,KL h2 (JD h'),fun k hk=>?_⟩
   ·rcases h1 with ⟨h4,h5⟩|⟨k,hk,h4⟩
    ·exact ⟨g,List.mem_cons_self,h4,h5⟩
    ·exact ⟨k,List.mem_cons_of_mem _ hk,h4⟩
   ·rcases List.mem_cons.1 hk with rfl|hk
    ·exact h2
    ·exact h3 k hk
  ·rw [if_neg h]
   have h' : Bu (BG x g) b0 = false:=by
    cases h4 : Bu (BG x g) b0 with
    |false=>rfl
    |true=>exact absurd ((FG _ _).2 h4) h
   obtain ⟨b,a,e,h1,h2,h3⟩:=Ox x l b0 a0
   refine ⟨b,a,e,?_,h2,fun k hk=>?_⟩
   ·rcases h1 with h4|⟨k,hk,h4⟩
    ·exact .inl h4
    ·exact .inr ⟨k,List.mem_cons_of_mem _ hk,h4⟩
   ·rcases List.mem_cons.1 hk with rfl|hk
    ·exact KL h2 h'
    ·exact h3 k hk
theorem SA (x : Inc) {l : List (List Int)} (hl : l ≠ []) : ∃ b a,II x l = some (b,a) ∧ (∃ g ∈ l,b = BG x g ∧ a = g) ∧ ∀ g ∈ l,Bu (BG x g) b = false:=by
 cases l with
 |nil=>exact absurd rfl hl
 |cons g l =>
  obtain ⟨b,a,e,h1,h2,h3⟩:=Ox x l (BG x g) g
  refine ⟨b,a,e,?_,fun k hk=>?_⟩
  ·rcases h1 with ⟨h4,h5⟩|⟨k,hk,h4⟩
   ·exact ⟨g,List.mem_cons_self,h4,h5⟩
   ·exact ⟨k,List.mem_cons_of_mem _ hk,h4⟩
  ·rcases List.mem_cons.1 hk with rfl|hk
   ·exact h2
   ·exact h3 k hk
theorem T7 (x : Inc) {l : List (List Int)} (hl : ∀ g,g ∈ l ↔ Pm g x.V) : ∃ a,II x l = some ((Ak x).B,a) ∧ Pm a x.V ∧ (Ak x).B = BG x a:=by
 have h0:=(hl _).2 (I3 x.V)
 obtain ⟨b,a,e,⟨g,hg,hb,ha⟩,h3⟩:=SA x (l:=l) (by rintro rfl;cases h0)
 have hgp:=(hl g).1 hg
 have : (⟨x.V,b⟩ : Inc) = Ak x:=by
  refine Rz hgp (by rw [Sg hgp,hb]) fun k hk=>?_
  rw [Sg hk]
  exact h3 k ((hl k).2 hk)
 have hB : b = (Ak x).B:=by rw [← this]
 exact ⟨a,by rw [e,hB],ha ▸ hgp,by rw [← hB,hb,ha]⟩
def atI (x : Inc) : List Int:=match II x (Gy x.V x.V []) with
 |some (_,a)=>a
 |none=>[]
theorem AaY (x : Inc) : II x (Gy x.V x.V []) = some ((Ak x).B,atI x):=by
 obtain ⟨a,e,_⟩:=T7 x (T4 x.V)
 unfold atI
 rw [e]
open Go
def QO (two : Bool) : List Nat → Nat → Nat → Bool
 |[],_,_=>true
 |x :: B,o,t=>decide (t &&& x = 0 ∧ (two = true ∨ o &&& x = 0)) && QO two B (o ||| x) (t ||| (o &&& x))
theorem L0 (two : Bool) (f : Nat → Nat) : ∀ (S : List Nat) (b o t : Nat),Fh two (S.map f) b o t = ((E8 b S).filter fun B=>QO two (B.map f) o t).length
 |S,0,o,t=>by rw [Mx];cases S <;> rfl
 |[],b + 1,o,t=>rfl
 |x :: S,b + 1,o,t=>by
  rw [List.map_cons,Fh,L0 two f S b,L0 two f S (b + 1),E8,List.filter_append,List.length_append,List.filter_map,List.length_map]
  congr 1
  have e : ((fun B : List Nat=>QO two (B.map f) o t) ∘ fun B=>x :: B) = fun B=>decide (t &&& f x = 0 ∧ (two = true ∨ o &&& f x = 0)) && QO two (B.map f) (o ||| f x) (t ||| (o &&& f x)):=rfl
  rw [e]
  by_cases h : t &&& f x = 0 ∧ (two = true ∨ o &&& f x = 0)
  ·rw [if_pos h,decide_eq_true h];simp only [Bool.true_and]
  ·rw [if_neg h,decide_eq_false h]
   simp only [Bool.false_and]
   rw [List.filter_eq_nil_iff.2 (by intro a _;simp)];rfl
def GD (B : List Nat) (i : Nat) : Nat:=B.countP (·.testBit i)
theorem Ib (x : Nat) (B : List Nat) (i : Nat) : GD (x :: B) i = GD B i + if x.testBit i = true then 1 else 0:=List.countP_cons
theorem Sv (a b : Nat) : a &&& b = 0 ↔ ∀ i,a.testBit i = true → b.testBit i = true → False:=by
 constructor
 ·intro h i h1 h2
  have:=Nat.testBit_and a b i
  rw [h,h1,h2] at this;simp at this
 ·intro h
  apply Nat.eq_of_testBit_eq
  intro i
  rw [Nat.testBit_and,Nat.zero_testBit]
  by_cases h1 : a.testBit i = true
  ·by_cases h2 : b.testBit i = true
   ·exact (h i h1 h2).elim
   ·simp [h2]
  ·simp [h1]
theorem QE (two : Bool) : ∀ (B A : List Nat) (o t : Nat),(∀ i,o.testBit i = decide (1 ≤ GD A i)) → (∀ i,t.testBit i = decide (2 ≤ GD A i)) → (∀ i,GD A i ≤ if two = true then 2 else 1) →
  (QO two B o t = true ↔ ∀ i,GD A i + GD B i ≤ if two = true then 2 else 1)
 |[],A,o,t,ho,ht,hA=>⟨fun _ i=>hA i,fun _=>rfl⟩
 |x :: B,A,o,t,ho,ht,hA=>by
  have ho' : ∀ i,(o ||| x).testBit i = decide (1 ≤ GD (x :: A) i):=fun i=>by
   rw [Nat.testBit_or,ho,Ib,Bool.eq_iff_iff,Bool.or_eq_true,decide_eq_true_eq,decide_eq_true_eq]
   split <;> rename_i h <;> simp [h] <;> omega
  have ht' : ∀ i,(t ||| (o &&& x)).testBit i = decide (2 ≤ GD (x :: A) i):=fun i=>by
   rw [Nat.testBit_or,Nat.testBit_and,ho,ht,Ib,Bool.eq_iff_iff,Bool.or_eq_true,Bool.and_eq_true,decide_eq_true_eq,decide_eq_true_eq,decide_eq_true_eq]
   split <;> rename_i h <;> simp [h] <;> omega
  have hc : (t &&& x = 0 ∧ (two = true ∨ o &&& x = 0)) ↔ ∀ i,GD (x :: A) i ≤ if two = true then 2 else 1:=by
   rw [Sv,Sv]
   constructor
   ·rintro ⟨h1,h2⟩ i
    rw [Ib]
    have hAi:=hA i
    split
    ·rename_i hx
     cases two with
     |true =>
      have : ¬ (2 ≤ GD A i):=fun h=>h1 i (by rw [ht,decide_eq_true h]) hx
      simp;omega
     |false =>
      have h2:=h2.resolve_left (by decide)
      have : ¬ (1 ≤ GD A i):=fun h=>h2 i (by rw [ho,decide_eq_true h]) hx
      simp;omega
    ·exact hAi
   ·intro h
    refine ⟨fun i h1 h2=>?_,?_⟩
    ·have:=h i
     rw [Ib,if_pos h2] at this
     rw [ht,decide_eq_true_eq] at h1
     cases two <;> simp at this <;> omega
    ·cases two with
     |true=>exact .inl rfl
     |false =>
      refine .inr fun i h1 h2=>?_
      have:=h i
      rw [Ib,if_pos h2] at this
      rw [ho,decide_eq_true_eq] at h1
      simp at this;omega
  have hs : ∀ i,GD (x :: A) i + GD B i = GD A i + GD (x :: B) i:=fun i=>by rw [Ib,Ib];omega
  rw [QO,Bool.and_eq_true,decide_eq_true_eq,hc]
  constructor
  ·rintro ⟨h1,h2⟩ i
   rw [← hs]
   exact (QE two B (x :: A) _ _ ho' ht' h1).1 h2 i
  ·intro h
   have h1 : ∀ i,GD (x :: A) i ≤ if two = true then 2 else 1:=fun i=>Nat.le_trans (Nat.le_add_right _ _) (by rw [hs];exact h i)
   exact ⟨h1,(QE two B (x :: A) _ _ ho' ht' h1).2 fun i=>by rw [hs];exact h i⟩
theorem Ya : ∀ b,b < 64 → ∀ p,p < 7 → ∀ q,q < p → (F0 b).testBit (p * (p - 1) / 2 + q) = (b.testBit p && b.testBit q):=by decide +kernel
theorem Acc : ∀ i,i < 21 → ∃ p,p < 7 ∧ ∃ q,q < p ∧ i = p * (p - 1) / 2 + q:=by decide +kernel
theorem T6 {B : List Nat} (hB : ∀ b ∈ B,b < 64) {p q : Nat} (hp : p < 7) (hq : q < p) : GD (B.map F0) (p * (p - 1) / 2 + q) = GI B p q:=by
 unfold GD GI
 rw [List.countP_map]
 refine List.countP_congr fun b hb=>?_
 show (F0 b).testBit _ = true ↔ _
 rw [Ya b (hB b hb) p hp q hq]
theorem Ac7 {B : List Nat} (hB : ∀ b ∈ B,b < 64) {i : Nat} (hi : 21 ≤ i) : GD (B.map F0) i = 0:=by
 unfold GD
 rw [List.countP_eq_zero]
 intro b hb
 obtain ⟨c,hc,rfl⟩:=List.mem_map.1 hb
 have:=UU (hB c hc)
 rw [Nat.testBit_lt_two_pow (Nat.lt_of_lt_of_le this (Nat.pow_le_pow_right (by decide) hi))]
 decide
theorem UM {k : Kd} (hk : k.Ok) {B : List Nat} (hB : ∀ b ∈ B,b < 2 ^ k.V) : QO (decide (1 < k.L)) (B.map F0) 0 0 = true ↔ ∀ p q,p < k.V → q < k.V → p ≠ q → GI B p q ≤ k.L:=by
 have hV:=hk.v6
 have hB6 : ∀ b ∈ B,b < 64:=fun b hb=>Nat.lt_of_lt_of_le (hB b hb) (Nat.pow_le_pow_right (n:=2) (j:=6) (by decide) hV)
 have hm : (if decide (1 < k.L) = true then 2 else 1) = k.L:=by
  have h1:=hk.l1
  have h2:=hk.l2
  rcases (show k.L = 1 ∨ k.L = 2 by omega) with e|e <;> simp [e]
 rw [QE (decide (1 < k.L)) (B.map F0) [] 0 0 (fun i=>by rw [Nat.zero_testBit];rfl) (fun i=>by rw [Nat.zero_testBit];rfl) (fun i=>Nat.zero_le _),hm]
 have h0 : ∀ i,GD [] i = 0:=fun i=>rfl
 constructor
 ·intro h p q hp hq hpq
  have main : ∀ p q,p < 7 → q < p → GI B p q ≤ k.L:=fun p q hp hq=>by
   have:=h (p * (p - 1) / 2 + q)
   rwa [h0,Nat.zero_add,T6 hB6 hp hq] at this
  rcases Nat.lt_or_ge q p with h1|h1
  ·exact main p q (by omega) h1
  ·rw [QQ];exact main q p (by omega) (by omega)
 ·intro h i
  rw [h0,Nat.zero_add]
  rcases Nat.lt_or_ge i 21 with hi|hi
  ·obtain ⟨p,hp,q,hq,rfl⟩:=Acc i hi
   rw [T6 hB6 hp hq]
   rcases Nat.lt_or_ge p k.V with h1|h1
   ·exact h p q h1 (by omega) (by omega)
   ·have : GI B p q = 0:=by
     unfold GI
     rw [List.countP_eq_zero]
     intro b hb
     rw [Nat.testBit_lt_two_pow (Nat.lt_of_lt_of_le (hB b hb) (Nat.pow_le_pow_right (by decide) h1))]
     simp
    omega
  ·rw [Ac7 hB6 hi];omega
theorem JZ : ∀ (n : Nat) (l B : List Nat),B ∈ E8 n l → B.Sublist l ∧ B.length = n
 |0,l,B,h=>by
  have : B = []:=by cases l <;> simpa [E8] using h
  subst this;exact ⟨List.nil_sublist _,rfl⟩
 |n + 1,[],B,h=>by simp [E8] at h
 |n + 1,a :: l,B,h=>by
  rw [E8,List.mem_append,List.mem_map] at h
  rcases h with ⟨C,hC,rfl⟩|h
  ·obtain ⟨h1,h2⟩:=JZ n l C hC
   exact ⟨h1.cons_cons a,by rw [List.length_cons,h2]⟩
  ·obtain ⟨h1,h2⟩:=JZ (n + 1) l B h
   exact ⟨h1.cons a,h2⟩
theorem O7 : ∀ (n : Nat) (l : List Nat),l.Nodup → (E8 n l).Nodup
 |0,l,h=>by cases l <;> simp [E8]
 |n + 1,[],h=>by simp [E8]
 |n + 1,a :: l,h=>by
  obtain ⟨h1,h2⟩:=List.nodup_cons.1 h
  rw [E8,List.nodup_append]
  refine ⟨(CZ (fun x _ y _ e=>(List.cons.inj e).2)).2 (O7 n l h2),O7 (n + 1) l h2,?_⟩
  rintro x hx y hy rfl
  obtain ⟨C,hC,rfl⟩:=List.mem_map.1 hx
  exact h1 ((JZ _ _ _ hy).1.subset List.mem_cons_self)
theorem JY (V K : Nat) : (B7 V K).Pairwise (· < ·):=List.Pairwise.filter _ List.pairwise_lt_range
theorem RO {l : List Nat} (h : l.Pairwise (· < ·)) : l.Nodup:=h.imp fun {a b} h e=>by omega
theorem Gx {V K b : Nat} : b ∈ B7 V K ↔ b < 2 ^ V ∧ Cv b = K:=by
 unfold B7
 rw [List.mem_filter,List.mem_range,beq_iff_eq]
def El (k : Kd) (b : Nat) : List Inc:=((E8 b (B7 k.V k.K)).filter fun B=>QO (decide (1 < k.L)) (B.map F0) 0 0).map (Inc.mk k.V)
theorem Rw (k : Kd) (b : Nat) : (El k b).length = Dl k.V k.K k.L b:=by
 unfold El Dl
 rw [List.length_map,L0]
theorem OU (k : Kd) (b : Nat) : (El k b).Nodup:=(CZ (fun x _ y _ e=>by injection e)).2 ((O7 _ _ (RO (JY _ _))).filter _)
theorem Dc {k : Kd} (hk : k.Ok) (b : Nat) (x : Inc) : x ∈ El k b ↔ IsF k x ∧ x.B.length = b:=by
 unfold El
 rw [List.mem_map]
 constructor
 ·rintro ⟨B,hB,rfl⟩
  obtain ⟨h1,h2⟩:=List.mem_filter.1 hB
  obtain ⟨h3,h4⟩:=JZ _ _ _ h1
  have h5 : ∀ b ∈ B,b < 2 ^ k.V ∧ Cv b = k.K:=fun b hb=>Gx.1 (h3.subset hb)
  exact ⟨⟨hk,rfl,(JY _ _).sublist h3,fun b hb=>(h5 b hb).1,fun b hb=>(h5 b hb).2,(UM hk fun b hb=>(h5 b hb).1).1 h2⟩,h4⟩
 ·rintro ⟨h,rfl⟩
  refine ⟨x.B,List.mem_filter.2 ⟨Me h,(UM hk h.lt).2 h.pr⟩,?_⟩
  exact DZ h.v.symm rfl
def wN (x : Inc) : Nat:=(G0 x (By x.V)).length
theorem MM {x : Inc} (hx : x.Fam) : wN x * DX x x.V = By x.V:=by rw [Nat.mul_comm];exact AaK hx
theorem Xf {x : Inc} (hx : x.Fam) : 1 ≤ wN x:=by
 have h:=MM hx
 have h2:=L9 x.V
 rcases Nat.eq_zero_or_pos (wN x) with h3|h3
 ·rw [h3] at h;omega
 ·exact h3
theorem AbL {x : Inc} (hx : x.Fam) : By x.V / DX x x.V = wN x:=by
 have h:=MM hx
 rw [← h]
 exact Nat.mul_div_cancel _ (Qi hx)
theorem Wz (x : Inc) : wN x ≤ By x.V:=Tt x _
theorem AaI (x y : Inc) : y ∈ G0 x (By x.V) ↔ ∃ g,Pm g x.V ∧ Bn x g = y:=by
 rw [Lr]
 constructor
 ·rintro ⟨r,hr,h⟩;exact ⟨_,Sm hr,h⟩
 ·rintro ⟨g,hg,h⟩
  have:=(C0 _ _).2 hg
  rw [← IA] at this
  obtain ⟨r,hr,rfl⟩:=List.mem_map.1 this
  exact ⟨r,List.mem_range.1 hr,h⟩
theorem AbI {x : Inc} (hx : x.Fam) {g : List Int} (hg : Pm g x.V) : wN (Bn x g) = wN x:=by
 have h1:=MM (Iq hx hg)
 have h2:=MM hx
 rw [AaW hx hg,GC] at h1
 have h3:=Qi hx
 exact Nat.eq_of_mul_eq_mul_right h3 (h1.trans h2.symm)
theorem Ms {α β : Type} [DecidableEq β] (f : α → β) : ∀ (J : List β) (L : List α),J.Nodup → (∀ a ∈ L,f a ∈ J) → ∀ w : α → Nat,(L.map w).sum = (J.map fun j=>((L.filter fun a=>decide (f a = j)).map w).sum).sum
 |[],L,_,h,w=>by
  cases L with
  |nil=>rfl
  |cons a L=>have:=h a List.mem_cons_self;cases this
 |j :: J,L,hJ,h,w=>by
  obtain ⟨hj,hJ2⟩:=List.nodup_cons.1 hJ
  have ih:=Ms f J (L.filter fun a=>!decide (f a = j)) hJ2 (by
   intro a ha
   obtain ⟨h1,h2⟩:=List.mem_filter.1 ha
   rcases List.mem_cons.1 (h a h1) with h3|h3
   ·simp [h3] at h2
   ·exact h3) w
  have e : (J.map fun j'=>(((L.filter fun a=>!decide (f a = j)).filter fun a=>decide (f a = j')).map w).sum) = J.map fun j'=>((L.filter fun a=>decide (f a = j')).map w).sum:=by
   refine List.map_congr_left fun j' hj'=>?_
   rw [List.filter_filter]
   congr 2
   refine List.filter_congr fun a _=>?_
   by_cases h4 : f a = j'
   ·have : ¬ j' = j:=fun e=>hj (e ▸ hj')
    simp [h4,this]
   ·simp [h4]
  rw [e] at ih
  rw [List.map_cons,List.sum_cons,← ih]
  clear ih e h
  induction L with
  |nil=>rfl
  |cons a L ih =>
   by_cases h1 : f a = j
   ·simp [h1,List.filter_cons,ih];omega
   ·simp [h1,List.filter_cons,ih];omega
theorem NN {α : Type} (L : List α) : (L.map fun _=>1).sum = L.length:=by
 induction L with
 |nil=>rfl
 |cons a L ih=>simp [ih];omega
theorem Rh {α : Type} (L : List α) (w : α → Nat) (c : Nat) (h : ∀ a ∈ L,w a = c) : (L.map w).sum = L.length * c:=by
 induction L with
 |nil=>simp
 |cons a L ih =>
  rw [List.map_cons,List.sum_cons,ih fun a ha=>h a (List.mem_cons_of_mem _ ha),h a List.mem_cons_self,List.length_cons,Nat.add_mul];omega
theorem Yc {k : Kd} {x : Inc} (h : IsF k x) (hl : x.B.length ≤ 12) : IsFm k x.B.length (Ak x) :=
 ⟨Hd h hl,DK (h.fam hl),Hp (h.fam hl)⟩
theorem TS {k : Kd} (hk : k.Ok) {b : Nat} (hb : b ≤ 12) {f : Inc} (hf : IsFm k b f) : ((El k b).filter fun x=>decide (Ak x = f)).length = wN f:=by
 have hfl : f.B.length ≤ 12:=by rw [hf.len];exact hb
 have hff:=hf.fm.fam hfl
 have hmem : ∀ x,x ∈ (El k b).filter (fun x=>decide (Ak x = f)) ↔ x ∈ G0 f (By f.V):=by
  intro x
  rw [List.mem_filter,Dc hk,decide_eq_true_eq,AaI]
  constructor
  ·rintro ⟨⟨h1,h2⟩,h3⟩
   have hx:=h1.fam (by omega)
   exact Qb hff hx (by rw [hf.fm.v,h1.v]) (by rw [h3,hf.form])
  ·rintro ⟨g,hg,rfl⟩
   exact ⟨⟨Ja hf.fm hfl hg,by rw [K5 hff hg,hf.len]⟩,by rw [Jz hff hg,hf.form]⟩
 exact Nat.le_antisymm (D8 _ _ ((OU k b).filter _) fun x hx=>(hmem x).1 hx) (D8 _ _ (Qo _ _) fun x hx=>(hmem x).2 hx)
theorem OA {k : Kd} (hk : k.Ok) {b : Nat} (hb : b ≤ 12) : Dl k.V k.K k.L b = ((Ay k b).map wN).sum:=by
 obtain ⟨_,h2,h3⟩:=Ev hk b hb
 rw [← Rw,← NN]
 rw [Ms Ak (Ay k b) (El k b) (MU h2) (fun x hx=>by
  obtain ⟨h4,h5⟩:=(Dc hk b x).1 hx
  have:=Yc h4 (by omega)
  rw [h5] at this
  exact (h3 _).2 this)]
 congr 1
 refine List.map_congr_left fun f hf=>?_
 rw [NN]
 exact TS hk hb ((h3 f).1 hf)
def E0 (k : Kd) (x : Inc) (b : Nat) : Bool:=decide (GO k.V k.K k.L (Bb x b).V (Bb x b).B)
def Gm (k : Kd) (x : Inc) : Nat:=(B7 k.V k.K).countP (E0 k x)
theorem Ik {k : Kd} {x : Inc} (hl : x.B.length ≤ 12) (b : Nat) : E0 k x b = true ↔ IsF k (Bb x b):=by
 unfold E0
 rw [decide_eq_true_eq,Ea]
 exact ⟨fun h=>h.1,fun h=>⟨h,by show (Bw x.B b).length ≤ 64;rw [DW];omega⟩⟩
theorem UY {k : Kd} (hk : k.Ok) {x y : Inc} (hx : IsF k x) (hl : x.B.length ≤ 11) {g : List Int} (hg : Pm g x.V) (hy : y = Bn x g) : Gm k x ≤ Gm k y:=by
 have hV:=hk.v6
 have hxf:=hx.fam (by omega)
 have hyl : y.B.length ≤ 11:=by rw [hy,K5 hxf hg];exact hl
 have hv:=hx.v
 have hlt : ∀ s ∈ (B7 k.V k.K),s < 2 ^ x.V:=fun s hs=>by rw [hv];exact (Gx.1 hs).1
 unfold Gm
 rw [List.countP_eq_length_filter,List.countP_eq_length_filter]
 have hnd:=RO (JY k.V k.K)
 have h1:=D8 (((B7 k.V k.K).filter (E0 k x)).map (DT g)) ((B7 k.V k.K).filter (E0 k y)) ((CZ (fun a ha b hb e=>U3 hg (by omega) (hlt a (List.mem_filter.1 ha).1) (hlt b (List.mem_filter.1 hb).1) e)).2 (hnd.filter _)) (by
  intro s hs
  obtain ⟨a,ha,rfl⟩:=List.mem_map.1 hs
  obtain ⟨ha1,ha2⟩:=List.mem_filter.1 ha
  have hal:=hlt a ha1
  have haF:=(Ik (by omega) a).1 ha2
  have hafl : (Bb x a).B.length ≤ 12:=by show (Bw x.B a).length ≤ 12;rw [DW];omega
  have e:=US hxf hal (haF.fam hafl) hg
  refine List.mem_filter.2 ⟨Gx.2 ⟨by rw [← hv];exact JU hg hal,by rw [O0 hg (by omega) hal];exact (Gx.1 ha1).2⟩,?_⟩
  rw [Ik (by omega),hy,e]
  exact Ja haF hafl hg)
 rwa [List.length_map] at h1
theorem Ys {k : Kd} (hk : k.Ok) {x : Inc} (hx : IsF k x) (hl : x.B.length ≤ 11) {g : List Int} (hg : Pm g x.V) : Gm k (Bn x g) = Gm k x:=by
 have hxf:=hx.fam (by omega)
 obtain ⟨h,hh,e⟩:=Qz hxf hg
 exact Nat.le_antisymm (UY hk (Ja hx (by omega) hg) (by rw [K5 hxf hg];exact hl) (by rw [GC];exact hh) e.symm) (UY hk hx hl hg rfl)
theorem Xl {k : Kd} (hk : k.Ok) {x : Inc} (hx : IsF k x) (hl : x.B.length ≤ 11) : Gm k (Ak x) = Gm k x:=by
 obtain ⟨g,hg,e⟩:=Eu x
 rw [e];exact Ys hk hx hl hg
theorem K0 {α β : Type} (f : α → List β) : ∀ L : List α,(L.flatMap f).length = (L.map fun a=>(f a).length).sum
 |[]=>rfl
 |a :: L=>by rw [List.flatMap_cons,List.length_append,K0 f L];rfl
theorem Qj {α β : Type} (f : α → List β) : ∀ L : List α,L.Nodup → (∀ a ∈ L,(f a).Nodup) → (∀ a ∈ L,∀ b ∈ L,∀ c,c ∈ f a → c ∈ f b → a = b) → (L.flatMap f).Nodup
 |[],_,_,_=>List.nodup_nil
 |a :: L,h,h1,h2=>by
  obtain ⟨h3,h4⟩:=List.nodup_cons.1 h
  rw [List.flatMap_cons,List.nodup_append]
  refine ⟨h1 a List.mem_cons_self,Qj f L h4 (fun b hb=>h1 b (List.mem_cons_of_mem _ hb)) (fun b hb c hc=>h2 b (List.mem_cons_of_mem _ hb) c (List.mem_cons_of_mem _ hc)),?_⟩
  rintro x hx y hy rfl
  obtain ⟨b,hb,hxb⟩:=List.mem_flatMap.1 hy
  have:=h2 a List.mem_cons_self b (List.mem_cons_of_mem _ hb) x hx hxb
  exact h3 (this ▸ hb)
theorem Ln {B : List Nat} (h : B.Pairwise (· < ·)) {s : Nat} (hs : s ∈ B) : Bw (B.erase s) s = B:=by
 have h1 : H5 B:=h.imp fun h=>Nat.le_of_lt h
 refine Jp _ _ (Ho (h1.sublist List.erase_sublist) s) h1 ?_
 exact (DO _ _).trans (List.perm_cons_erase hs).symm
theorem PV {B : List Nat} {s : Nat} (h : (Bw B s).Pairwise (· < ·)) (hB : B.Pairwise (· < ·)) : (Bw B s).erase s = B:=by
 have h1 : H5 B:=hB.imp fun h=>Nat.le_of_lt h
 have h2 : H5 (Bw B s):=h.imp fun h=>Nat.le_of_lt h
 refine Jp _ _ (h2.sublist List.erase_sublist) h1 ?_
 have:=(DO B s).erase s
 rwa [List.erase_cons_head] at this
theorem Z2 {k : Kd} (hk : k.Ok) {b : Nat} (hb : b ≤ 11) : Dl k.V k.K k.L (b + 1) * (b + 1) = ((El k b).map (Gm k)).sum:=by
 have h1 : (((El k b).flatMap fun y=>((B7 k.V k.K).filter (E0 k y)).map (Prod.mk y))).length = ((El k b).map (Gm k)).sum:=by
  rw [K0]
  congr 1
  refine List.map_congr_left fun y _=>?_
  rw [List.length_map]
  exact List.countP_eq_length_filter.symm
 have h2 : ((El k (b + 1)).flatMap fun x=>x.B.map (Prod.mk x)).length = Dl k.V k.K k.L (b + 1) * (b + 1):=by
  rw [K0,Rh _ _ (b + 1) (fun x hx=>by rw [List.length_map];exact ((Dc hk _ _).1 hx).2),Rw]
 have hset:=RO (JY k.V k.K)
 have n1 : ((El k b).flatMap fun y=>((B7 k.V k.K).filter (E0 k y)).map (Prod.mk y)).Nodup:=Qj _ _ (OU k b) (fun y _=>(CZ (fun a _ c _ e=>by injection e)).2 (hset.filter _)) (by
  intro a _ c _ z hz1 hz2
  obtain ⟨s,_,rfl⟩:=List.mem_map.1 hz1
  obtain ⟨t,_,e⟩:=List.mem_map.1 hz2
  injection e with e _
  exact e.symm)
 have n2 : ((El k (b + 1)).flatMap fun x=>x.B.map (Prod.mk x)).Nodup:=Qj _ _ (OU k _) (fun x hx=>(CZ (fun a _ c _ e=>by injection e)).2 (RO ((Dc hk _ _).1 hx).1.s)) (by
  intro a _ c _ z hz1 hz2
  obtain ⟨s,_,rfl⟩:=List.mem_map.1 hz1
  obtain ⟨t,_,e⟩:=List.mem_map.1 hz2
  injection e with e _
  exact e.symm)
 rw [← h1,← h2]
 refine Nat.le_antisymm ?_ ?_
 ·have:=D8 (((El k (b + 1)).flatMap fun x=>x.B.map (Prod.mk x)).map fun z=>((⟨z.1.V,z.1.B.erase z.2⟩ : Inc),z.2)) ((El k b).flatMap fun y=>((B7 k.V k.K).filter (E0 k y)).map (Prod.mk y)) ((CZ (by
    intro z hz w hw e
    obtain ⟨x,hx,hz⟩:=List.mem_flatMap.1 hz
    obtain ⟨y,hy,hw⟩:=List.mem_flatMap.1 hw
    obtain ⟨s,hs,rfl⟩:=List.mem_map.1 hz
    obtain ⟨t,ht,rfl⟩:=List.mem_map.1 hw
    have hxF:=(Dc hk _ _).1 hx
    have hyF:=(Dc hk _ _).1 hy
    simp only [Prod.mk.injEq,Inc.mk.injEq] at e
    obtain ⟨⟨e1,e2⟩,rfl⟩:=e
    have : x.B = y.B:=by rw [← Ln hxF.1.s hs,e2,Ln hyF.1.s ht]
    rw [DZ e1 this])).2 n2) (by
    intro z hz
    obtain ⟨w,hw,rfl⟩:=List.mem_map.1 hz
    obtain ⟨x,hx,hw⟩:=List.mem_flatMap.1 hw
    obtain ⟨s,hs,rfl⟩:=List.mem_map.1 hw
    obtain ⟨hxF,hxl⟩:=(Dc hk _ _).1 hx
    have hel : (x.B.erase s).length = b:=by rw [List.length_erase_of_mem hs,hxl];rfl
    refine List.mem_flatMap.2 ⟨⟨x.V,x.B.erase s⟩,(Dc hk _ _).2 ⟨Ng hxF List.erase_sublist,hel⟩,List.mem_map.2 ⟨s,List.mem_filter.2 ⟨Gx.2 ⟨hxF.lt s hs,hxF.sz s hs⟩,?_⟩,rfl⟩⟩
    rw [Ik (by show (x.B.erase s).length ≤ 12;omega)]
    have e : Bb ⟨x.V,x.B.erase s⟩ s = x:=DZ rfl (Ln hxF.s hs)
    rw [e];exact hxF)
  rwa [List.length_map] at this
 ·have:=D8 (((El k b).flatMap fun y=>((B7 k.V k.K).filter (E0 k y)).map (Prod.mk y)).map fun z=>(Bb z.1 z.2,z.2)) ((El k (b + 1)).flatMap fun x=>x.B.map (Prod.mk x)) ((CZ (by
    intro z hz w hw e
    obtain ⟨x,hx,hz⟩:=List.mem_flatMap.1 hz
    obtain ⟨y,hy,hw⟩:=List.mem_flatMap.1 hw
    obtain ⟨s,hs,rfl⟩:=List.mem_map.1 hz
    obtain ⟨t,ht,rfl⟩:=List.mem_map.1 hw
    obtain ⟨hxF,hxl⟩:=(Dc hk _ _).1 hx
    obtain ⟨hyF,hyl⟩:=(Dc hk _ _).1 hy
    have hsF:=(Ik (by omega) s).1 (List.mem_filter.1 hs).2
    have htF:=(Ik (by omega) t).1 (List.mem_filter.1 ht).2
    simp only [Prod.mk.injEq] at e
    obtain ⟨e1,rfl⟩:=e
    have eB : Bw x.B s = Bw y.B s:=congrArg Inc.B e1
    have : x.B = y.B:=by rw [← PV hsF.s hxF.s,eB,PV htF.s hyF.s]
    have hv : (Bb x s).V = (Bb y s).V:=congrArg Inc.V e1
    rw [DZ (show x.V = y.V from hv) this])).2 n1) (by
    intro z hz
    obtain ⟨w,hw,rfl⟩:=List.mem_map.1 hz
    obtain ⟨y,hy,hw⟩:=List.mem_flatMap.1 hw
    obtain ⟨s,hs,rfl⟩:=List.mem_map.1 hw
    obtain ⟨hyF,hyl⟩:=(Dc hk _ _).1 hy
    have hsF:=(Ik (by omega) s).1 (List.mem_filter.1 hs).2
    refine List.mem_flatMap.2 ⟨Bb y s,(Dc hk _ _).2 ⟨hsF,by show (Bw y.B s).length = _;rw [DW,hyl]⟩,List.mem_map.2 ⟨s,?_,rfl⟩⟩
    exact (DO y.B s).mem_iff.2 List.mem_cons_self)
  rwa [List.length_map] at this
theorem X6 {k : Kd} (hk : k.Ok) {b : Nat} (hb : b ≤ 11) : Dl k.V k.K k.L (b + 1) * (b + 1) = ((Ay k b).map fun f=>wN f * Gm k f).sum:=by
 obtain ⟨_,h2,h3⟩:=Ev hk b (by omega)
 rw [Z2 hk hb,Ms Ak (Ay k b) (El k b) (MU h2) (fun x hx=>by
  obtain ⟨h4,h5⟩:=(Dc hk b x).1 hx
  have:=Yc h4 (by omega)
  rw [h5] at this
  exact (h3 _).2 this) (Gm k)]
 congr 1
 refine List.map_congr_left fun f hf=>?_
 have hfm:=(h3 f).1 hf
 rw [Rh _ _ (Gm k f) (fun x hx=>by
  obtain ⟨h4,h5⟩:=List.mem_filter.1 hx
  obtain ⟨h6,h7⟩:=(Dc hk b x).1 h4
  rw [← Xl hk h6 (by omega),of_decide_eq_true h5]),TS hk (by omega) hfm]
open Go
theorem W1 {P : Program} {f : FuncId} {ds : List D} {H : List Ob} {Q : D → List Ob → Prop} (h : HC P f ds H (fun r H'=>Bs (∃ A Y,H' = A ++ Y ∧ A.length = H.length ∧ (∀ o ∈ A,A3 A.length o = true) ∧ B1 r = true ∧ Q r A))) : HC P f ds H (fun r H'=>Bs (Q r H')):=by
 refine HC.view h ?_
 intro r H' hq
 obtain ⟨A,Y,rfl,hl,hin,hr,hq⟩:=Aw hq
 refine ⟨A ++ Y,r,A.length,.refl _,.refl _,by omega,by simp,JT _ _ hr,?_,?_⟩
 ·rw [List.take_left];exact hin
 ·rw [List.take_left];exact Ab hq
theorem UG {P : Program} {f : FuncId} {args0 args : List D} {H0 X : List Ob} {Q0 Q : D → List Ob → Prop} (h : HC P f args0 H0 (fun r H'=>Bs (Q0 r H'))) (hin : ∀ o ∈ H0,A3 H0.length o = true) (hargs : LeDs (H0 ++ X) args0 args) (hina : Di H0.length args0 = true)
  (hQ0 : ∀ r H',Q0 r H' → H'.length = H0.length ∧ (∀ o ∈ H',A3 H0.length o = true) ∧ B1 r = true) (hk : ∀ r H',Q0 r H' → Q r (H' ++ X)) : HC P f args (H0 ++ X) Q:=by
 refine HC.frame (List.range H0.length) h (.refl _) (EL H0 X hin) (CG _) (fun x hx=>?_) (by rw [EJ _ _ hina];exact hargs) hina ?_
 ·have:=List.mem_range.1 hx
  simp;omega
 ·intro r H' hq _
  have hq:=Aw hq
  obtain ⟨h1,h2,h3⟩:=hQ0 r H' hq
  rw [h1,Nat.sub_self]
  have e : C4 (List.range H0.length) (H0 ++ X).length 0 = List.range H0.length:=by simp [C4]
  rw [e,G2 _ _ h3]
  have:=Jm H0.length H' 0 (H0 ++ X) (List.range H0.length) (fun o ho=>En _ o (h2 o ho)) (by simp;omega)
  rw [h1] at this
  simp only [Nat.zero_add,List.take_zero,List.nil_append,List.map_id'] at this
  rw [this,List.drop_left]
  exact hk r H' hq
theorem Abx (b : Nat) (g : List Int) (k : Nat) : Dz b g k ||| (b >>> k &&& 1) <<< (g.getD k 0).toNat = Dz b g (k + 1):=by
 rw [Dz]
 cases h : b.testBit k with
 |true =>
  have : b >>> k &&& 1 = 1:=by
   have:=HR b k
   rw [h] at this
   have:=of_decide_eq_true this
   omega
  rw [this];rfl
 |false =>
  have : b >>> k &&& 1 = 0:=by
   have h1:=HR b k
   rw [h] at h1
   have h2:=of_decide_eq_false h1
   have h3 : b >>> k &&& 1 = b >>> k % 2:=Nat.and_one_is_mod _
   omega
  rw [this];simp
theorem UW (x : Inc) (o : List Nat) (g : List Int) (hB : Ws x.B) (hm : o.length = x.B.length) (hl : x.B.length ≤ 12) (hg : ∀ q ∈ g,0 ≤ q ∧ q < 64) (hgl : g.length ≤ 64) :
  HC Tryz.prog 98 [.sl 0 0 x.B.length,x.D,.sl 1 0 g.length] [.row .leaf (Ae o),.row .leaf (Aa g)] (fun r H'=>Bs (r = .tuple [] ∧ H' = [.row .leaf (Ae (Cl (x.B.map (Cy · g)))),.row .leaf (Aa g)])):=by
 have hl0:=Ax x.B
 have hg0:=Ar g
 refine W1 ?_
 refine Ad (okc Tryz.f98.ntmps 2) (fn:=Tryz.f98) (cd:=_) rfl rfl rfl rfl rfl rfl (fun hbd=>?_)
 all_goals (conv=>whnf)
 refine Bq (X:=Nat) (fun i=>[(0,.sl 0 0 x.B.length),(2,.sl 1 0 g.length),(11,Av x.B),(12,iD x.B.length),(13,iD i)]) (fun i=>[.row .leaf (Ae ((x.B.take i).map (Cy · g) ++ o.drop i)),.row .leaf (Aa g)]) (fun i=>i ≤ x.B.length) (fun i=>x.B.length - i)
  ⟨_,nx (ρ:=[0,1]) 0 (by repeat (first|exact trivial|refine Az rfl rfl ?_|refine Az (congrArg (D.int .i64) (by rw [hl0])) rfl ?_)) (Bc rfl (by simp) (A6 _) (Bc rfl rfl (Af _) trivial)) rfl rfl (Nat.lt_succ_self _) (Nat.zero_le _)⟩ ?_
 intro i hi
 rcases Nat.lt_or_ge i x.B.length with hlt|hge
 ·obtain ⟨b,hb⟩:=Bp hlt
  have hbw:=Ws.get hb hB
  have hb1 : (Ae x.B)[((i : Nat) : Int).toNat]? = some (sD b):=by simp [Ae,hb]
  have hol : (Ae ((x.B.take i).map (Cy · g) ++ o.drop i)).length = x.B.length:=by simp;omega
  repeat' (
   conv=>whnf
   first
   |(with_reducible refine ⟨_,hb1,?_⟩)
   |refine Al (fun h=>?_) (fun h=>?_)
   |((with_reducible apply ob);(exact oT)))
  all_goals (conv=>whnf)
  all_goals (first|(exfalso;omega)|skip)
  have hmw:=KJ (b:=b) hg
  have eset : ∀ v w : Nat,(Ae ((x.B.take i).map (Cy · g) ++ v :: o.drop (i + 1))).set i (sD w) = Ae ((x.B.take i).map (Cy · g) ++ w :: o.drop (i + 1)):=fun v w=>by
   have : ((x.B.take i).map (Cy · g)).length = i:=by simp;omega
   rw [show sD w = .int .u64 (w : Int) from rfl,Ol,List.set_append_right _ _ (by omega),this,Nat.sub_self,List.set_cons_zero]
  have eget : ∀ v : Nat,(Ae ((x.B.take i).map (Cy · g) ++ v :: o.drop (i + 1)))[i]? = some (sD v):=fun v=>by
   have : ((x.B.take i).map (Cy · g)).length = i:=by simp;omega
   simp only [Ae,List.getElem?_map]
   rw [List.getElem?_append_right (by omega),this,Nat.sub_self];rfl
  have elen : ∀ v : Nat,(Ae ((x.B.take i).map (Cy · g) ++ v :: o.drop (i + 1))).length = x.B.length:=fun v=>by
   simp;omega
  obtain ⟨v0,hv0⟩:=Bp (l:=o) (i:=i) (by omega)
  have ed : o.drop i = v0 :: o.drop (i + 1):=by rw [List.drop_eq_getElem_cons (by omega),(List.getElem?_eq_some_iff.1 hv0).2]
  refine Bq (X:=Nat) (fun k=>[(0,.sl 0 0 x.B.length),(2,.sl 1 0 g.length),(6,iD i),(7,sD b),(11,Av x.B),(12,iD x.B.length),(13,iD i),(21,.sl 1 0 g.length),(22,iD g.length),(23,iD k)]) (fun k=>[.row .leaf (Ae ((x.B.take i).map (Cy · g) ++ Dz b g k :: o.drop (i + 1))),.row .leaf (Aa g)]) (fun k=>k ≤ g.length) (fun k=>g.length - k)
   ⟨_,nx (ρ:=[0,1]) 0 Cb (Bc rfl (by rw [ed,Nat.zero_add,Int.toNat_natCast];exact eset v0 0) (A6 _) (Bc rfl rfl (Af _) trivial)) rfl rfl (Nat.lt_succ_self _) (Nat.zero_le _)⟩ ?_
  intro k hk
  rcases Nat.lt_or_ge k g.length with hkl|hkg
  ·obtain ⟨q,hq⟩:=Bp hkl
   have hqr:=hg q (List.mem_of_getElem? hq)
   have hq1 : (Aa g)[0 + ((k : Nat) : Int).toNat]? = some (.int .i64 q):=by simp [Aa,hq]
   have ho1 : (Ae ((x.B.take i).map (Cy · g) ++ Dz b g k :: o.drop (i + 1)))[0 + ((i : Nat) : Int).toNat]? = some (sD (Dz b g k)):=by rw [Nat.zero_add,Int.toNat_natCast];exact eget _
   have hmk:=hmw k
   have hmk1:=hmw (k + 1)
   have hms:=Abx b g k
   rw [Bt hq] at hms
   have hb2 : A8 (b >>> k &&& 1):=by have : b >>> k &&& 1 ≤ 1:=Nat.and_le_right;unfold A8;omega
   have hsh : A8 ((b >>> k &&& 1) <<< q.toNat):=by
    have h1 : b >>> k &&& 1 ≤ 1:=Nat.and_le_right
    rcases Nat.le_one_iff_eq_zero_or_eq_one.1 h1 with e|e <;> rw [e]
    ·simp [A8]
    ·exact OI (by omega)
   have hlen1:=elen (Dz b g k)
   repeat' (
    conv=>whnf
    first
    |(with_reducible refine ⟨_,hq1,?_⟩)
    |(with_reducible refine ⟨_,ho1,?_⟩)
    |refine Al (fun h=>?_) (fun h=>?_)
    |with_reducible refine Ap ?_
    |((with_reducible apply Co);(rfl);(rfl);(exact wA);(exact wA))
    |((with_reducible apply Gj);(rfl);(rfl);(exact wA);(exact wA))
    |((with_reducible apply EQ);(rfl);(rfl);(omega))
    |((with_reducible apply FY);(rfl);(omega);(omega);(exact wA))
    |((with_reducible apply A2 10);rfl)
    |((with_reducible apply ob);(exact oT)))
   all_goals (conv=>whnf)
   all_goals (first|(exfalso;omega)|skip)
   exact nx (k + 1) [0,1] Cb (Bc rfl (by rw [Nat.zero_add,Int.toNat_natCast,← hms];exact eset _ _) (A6 _) (Bc rfl rfl (Af _) trivial)) rfl rfl (by omega) (by omega)
  ·repeat' (
    conv=>whnf
    first
    |refine Al (fun h=>?_) (fun h=>?_)
    |with_reducible refine Ap ?_
    |((with_reducible apply Co);(rfl);(rfl);(exact wA);(exact wA))
    |((with_reducible apply Gj);(rfl);(rfl);(exact wA);(exact wA))
    |((with_reducible apply EQ);(rfl);(rfl);(omega))
    |((with_reducible apply FY);(rfl);(omega);(omega);(exact wA))
    |((with_reducible refine Et (by omega) ?_);intro y hy;(try simp only [Int.toNat_natCast,Nat.zero_add] at hy);(try have hyr:=hR _ (List.mem_of_getElem? hy)))
    |((with_reducible refine GF (by omega) ?_);intro y hy;(try simp only [Int.toNat_natCast,Nat.zero_add] at hy);(try have hyr:=hR _ (List.mem_of_getElem? hy)))
    |((with_reducible apply A2 10);rfl)
    |((with_reducible apply ob);(exact oT)))
   all_goals (conv=>whnf)
   all_goals (first|(exfalso;omega)|skip)
   have hkg2 : k = g.length:=by omega
   subst hkg2
   refine nx (i + 1) [0,1] Cb (Bc rfl (by
    rw [List.take_add_one,hb]
    simp [Cy]) (A6 _) (Bc rfl rfl (Af _) trivial)) rfl rfl (by omega) (by omega)
 ·repeat' (
   conv=>whnf
   first
   |refine Al (fun h=>?_) (fun h=>?_)
   |((with_reducible refine Et (by omega) ?_);intro y hy;(try simp only [Int.toNat_natCast,Nat.zero_add] at hy);(try have hyr:=hR _ (List.mem_of_getElem? hy)))
   |((with_reducible apply ob);(exact oT)))
  all_goals (conv=>whnf)
  all_goals (first|(exfalso;omega)|skip)
  have hi2 : i = x.B.length:=by omega
  subst hi2
  have e : (x.B.take x.B.length).map (Cy · g) ++ o.drop x.B.length = x.B.map (Cy · g):=by
   rw [List.take_length,List.drop_eq_nil_of_le (by omega),List.append_nil]
  rw [e]
  have hs:=Pb (x.B.map (Cy · g)) (by simp;omega)
  rw [List.length_map] at hs
  refine UG (X:=[.row .leaf (Aa g)]) hs (by intro o ho;simp only [List.mem_cons,List.not_mem_nil,or_false] at ho;subst ho;exact B9 _ _ (A6 _)) (C1 _ _) rfl (by
   rintro r H' ⟨rfl,rfl⟩
   refine ⟨rfl,?_,rfl⟩
   intro o ho;simp only [List.mem_cons,List.not_mem_nil,or_false] at ho;subst ho;exact B9 _ _ (A6 _)) ?_
  rintro r H' ⟨rfl,rfl⟩
  all_goals (conv=>whnf)
  exact Ab ⟨[.row .leaf (Ae (Cl (x.B.map (Cy · g)))),.row .leaf (Aa g)],[],rfl,rfl,(by intro o ho;simp only [List.mem_cons,List.not_mem_nil,or_false] at ho;rcases ho with rfl|rfl <;> first|exact B9 _ _ (A6 _)|exact B9 _ _ (Af _)),rfl,rfl,rfl⟩
open Go
theorem Sp {P : Program} {g : Nat} {ds0 ds : List D} {Hc Y : List Ob} {Q0 Q : D → List Ob → Prop} (h : YC P g ds0 Hc Q0) (hg : g < Hc.length) (hin : ∀ o ∈ Hc,A3 Hc.length o = true) (hargs : LeDs (Hc ++ Y) ds0 ds) (hina : Di Hc.length ds0 = true)
  (hQ : ∀ r H',Q0 r H' → H'.length = Hc.length ∧ (∀ o ∈ H',A3 Hc.length o = true) ∧ B1 r = true ∧ Q r (H' ++ Y)) : YC P g ds (Hc ++ Y) Q:=by
 refine YC.frame (List.range Hc.length) h (IQ _ _ hg) hg (.refl _) ?_ (CG _) (fun x hx=>?_) (by rw [EJ _ _ hina];exact hargs) hina ?_
 ·exact EL Hc Y hin
 ·have:=List.mem_range.1 hx
  simp;omega
 ·intro r H' hq hl
  obtain ⟨h1,h2,h3,h4⟩:=hQ r H' hq
  rw [h1,Nat.sub_self]
  have e : C4 (List.range Hc.length) (Hc ++ Y).length 0 = List.range Hc.length:=by simp [C4]
  rw [e,G2 _ _ h3]
  have:=Jm Hc.length H' 0 (Hc ++ Y) (List.range Hc.length) (fun o ho=>En _ o (h2 o ho)) (by simp;omega)
  rw [h1] at this
  simp only [Nat.zero_add,List.take_zero,List.nil_append,List.map_id'] at this
  rw [this,List.drop_left]
  exact h4
theorem AcA {P : Program} {f : FuncId} {args : List D} {H H2 : List Ob} {Q : D → List Ob → Prop} (e : H = H2) (h : HC P f args H2 Q) : HC P f args H Q:=by rw [e];exact h
def C6 : List Int → Nat
 |[]=>0
 |p :: l=>1 <<< p.toNat ||| C6 l
theorem Pr (l : List Int) (p : Int) : C6 (l ++ [p]) = C6 l ||| 1 <<< p.toNat:=by
 induction l with
 |nil=>simp [C6]
 |cons a l ih=>simp only [List.cons_append,C6,ih,Nat.or_assoc]
theorem Mz : ∀ (l : List Int) (q : Nat),(∀ x ∈ l,0 ≤ x) → ((C6 l).testBit q = true ↔ ((q : Nat) : Int) ∈ l)
 |[],q,_=>by simp [C6]
 |p :: l,q,h=>by
  have hp:=h p List.mem_cons_self
  rw [C6,Nat.testBit_or,Bool.or_eq_true,Mz l q (fun x hx=>h x (List.mem_cons_of_mem _ hx)),Nat.one_shiftLeft,Nat.testBit_two_pow,decide_eq_true_eq,List.mem_cons]
  constructor
  ·rintro (e|e)
   ·exact .inl (by omega)
   ·exact .inr e
  ·rintro (e|e)
   ·exact .inl (by omega)
   ·exact .inr e
theorem OD : ∀ (l : List Int) (n : Nat),(∀ x ∈ l,0 ≤ x ∧ x < n) → C6 l < 2 ^ n
 |[],n,_=>Nat.two_pow_pos n
 |p :: l,n,h=>by
  have hp:=h p List.mem_cons_self
  refine Nat.or_lt_two_pow ?_ (OD l n fun x hx=>h x (List.mem_cons_of_mem _ hx))
  rw [Nat.one_shiftLeft]
  exact Nat.pow_lt_pow_right (by decide) (by omega)
def Aap (n : Nat) : D:=.func 124 [.ref .leaf (iD n),.ptr 9 [],.ptr 11 [],.ptr 12 []]
def QS (n : Nat) (l : List Int) : List Ob:=[.var (.yld 8),.row .leaf (Aa l),.var (.sl 10 0 n),.var (Aap n)]
theorem WH (n : Nat) (hn : n ≤ 7) (J : List (List Int) → List Ob → Prop) (hJ : ∀ d H,J d H → ∃ o0 o1 o2 o3 o4 o5 o6 o7 o8,H = [o0,o1,o2,o3,o4,o5,o6,o7,o8] ∧ ∀ o ∈ H,A3 9 o = true)
  (hyl : ∀ d H p,J d H → Pm p n → YC Tryz.prog 8 [.sl 10 0 n] (H ++ [.var (.yld 8),.row .leaf (Aa p)]) (fun r H'=>Bs (∃ H2,H' = H2 ++ [.var (.yld 8),.row .leaf (Aa p)] ∧ r = .bool true ∧ J (d ++ [p]) H2))) :
  ∀ (f : Nat) (pre l : List Int) (d : List (List Int)) (H : List Ob),pre.length + f = n → De pre n → l.length = n → l.take pre.length = pre → J d H →
  HC Tryz.prog 124 [iD pre.length,iD (C6 pre),.ref .leaf (iD n),.ptr 9 [],.ptr 11 [],.ptr 12 []] (H ++ QS n l) (fun r H'=>Bs (∃ H2 l2,H' = H2 ++ QS n l2 ∧ r = .bool true ∧ l2.length = n ∧ l2.take pre.length = pre ∧ J (d ++ Gy n f pre) H2))
 |f,pre,l,d,H,hf,hd,hl,htk,hj=>by
  have ih : ∀ f',f = f' + 1 → ∀ (p : Nat) (l : List Int) (d : List (List Int)) (H : List Ob),p < n → ((p : Nat) : Int) ∉ pre → l.length = n → l.take (pre.length + 1) = pre ++ [((p : Nat) : Int)] → J d H →
    HC Tryz.prog 124 [iD (pre.length + 1),iD (C6 pre ||| 1 <<< p),.ref .leaf (iD n),.ptr 9 [],.ptr 11 [],.ptr 12 []] (H ++ QS n l) (fun r H'=>Bs (∃ H2 l2,H' = H2 ++ QS n l2 ∧ r = .bool true ∧ l2.length = n ∧ l2.take (pre.length + 1) = pre ++ [((p : Nat) : Int)] ∧ J (d ++ Gy n f' (pre ++ [((p : Nat) : Int)])) H2)):=by
   intro f' hf' p l d H hp hnp hl htk hj
   subst hf'
   have:=WH n hn J hJ hyl f' (pre ++ [((p : Nat) : Int)]) l d H (by simp;omega) ⟨fun x hx=>by
    rcases List.mem_append.1 hx with h|h
    ·exact hd.1 x h
    ·rw [List.mem_singleton.1 h];omega,by
    rw [List.nodup_append]
    refine ⟨hd.2,by simp,fun a ha b hb=>?_⟩
    rw [List.mem_singleton.1 hb]
    rintro rfl;exact hnp ha⟩ hl (by simpa using htk) hj
   rw [Pr,List.length_append] at this
   exact this
  obtain ⟨o0,o1,o2,o3,o4,o5,o6,o7,o8,rfl,hin⟩:=hJ d H hj
  have hu:=OD pre n hd.1
  have hu2 : C6 pre < 128:=Nat.lt_of_lt_of_le hu (Nat.pow_le_pow_right (by decide) hn)
  clear hu
  have hl0:=Ar l
  have hpr:=fun q=>Mz pre q (fun x hx=>(hd.1 x hx).1)
  have hin11 : ∀ (l : List Int) (o : Ob),o ∈ [o0,o1,o2,o3,o4,o5,o6,o7,o8] ++ [Ob.var (.yld 8),.row .leaf (Aa l)] → A3 11 o = true:=by
   intro l o ho
   rcases List.mem_append.1 ho with h|h
   ·exact ET (by decide) o (hin o h)
   ·rcases List.mem_cons.1 h with rfl|h
    ·rfl
    ·rw [List.mem_singleton.1 h];exact B9 _ _ (Af _)
  refine Ad (okc Tryz.f124.ntmps 13) (fn:=Tryz.f124) (cd:=_) rfl rfl rfl rfl rfl rfl (fun hbd=>?_)
  repeat' (
   conv=>whnf
   first
   |refine Al (fun h=>?_) (fun h=>?_))
  all_goals (conv=>whnf)
  ·have hf0 : f = 0:=by omega
   subst hf0
   have hlp : l = pre:=by rw [← htk];rw [List.take_of_length_le (by omega)]
   subst hlp
   refine Sp (Hc:=[o0,o1,o2,o3,o4,o5,o6,o7,o8] ++ [Ob.var (.yld 8),.row .leaf (Aa l)]) (Y:=[.var (.sl 10 0 n),.var (Aap n)]) (hyl d _ l hj ⟨by omega,hd⟩) (show 8 < 11 by decide) (hin11 l) (C1 _ _) rfl ?_
   intro r H' hq
   obtain ⟨H2,rfl,rfl,hj2⟩:=Aw hq
   clear hin hj hin11
   obtain ⟨o0,o1,o2,o3,o4,o5,o6,o7,o8,rfl,hin⟩:=hJ _ _ hj2
   refine ⟨rfl,?_,rfl,?_⟩
   ·intro o ho
    rcases List.mem_append.1 ho with h|h
    ·exact ET (show 9 ≤ 11 by decide) o (hin o h)
    ·rcases List.mem_cons.1 h with rfl|h
     ·rfl
     ·rw [List.mem_singleton.1 h];exact B9 _ _ (Af _)
   ·all_goals (conv=>whnf)
    exact Ab ⟨[o0,o1,o2,o3,o4,o5,o6,o7,o8],l,rfl,rfl,hl,htk,hj2⟩
  ·obtain ⟨f',rfl⟩ : ∃ f',f = f' + 1:=⟨f - 1,by omega⟩
   refine Bq (X:=Nat × List Int × List Ob) (fun s=>[(0,iD pre.length),(1,iD (C6 pre)),(4,.ptr 11 []),(5,.ptr 12 []),(16,iD n),(17,iD s.1)]) (fun s=>s.2.2 ++ QS n s.2.1) (fun s=>(s.1 ≤ n ∧ s.2.1.length = n) ∧ s.2.1.take pre.length = pre ∧ J (d ++ GW n f' pre s.1) s.2.2) (fun s=>n - s.1)
    ⟨_,A0 (0,l,[o0,o1,o2,o3,o4,o5,o6,o7,o8]) Bl rfl (Nat.lt_succ_self _) ⟨⟨Nat.zero_le _,hl⟩,htk,by simpa [GW] using hj⟩⟩ ?_
   rintro ⟨k,l,Hc⟩ ⟨⟨hk,hl⟩,htk,hj⟩
   dsimp only at hk hl htk hj ⊢
   clear hin hin11
   obtain ⟨o0,o1,o2,o3,o4,o5,o6,o7,o8,rfl,hin⟩:=hJ _ _ hj
   have hl0:=Ar l
   have hpk:=hpr k
   have hsh : C6 pre >>> k ≤ C6 pre:=Nat.shiftRight_le _ _
   have hb1:=HR (C6 pre) k
   have hone : ∀ j,j < 8 → 1 <<< j < 256:=by decide
   rcases Nat.lt_or_ge k n with hkn|hkn
   ·have h1k:=hone k (by omega)
    by_cases hmem : ((k : Nat) : Int) ∈ pre
    ·rw [hpk.2 hmem] at hb1
     have hb2:=of_decide_eq_true hb1
     repeat' (
      conv=>whnf
      first
      |((with_reducible apply PU);(rfl);(rfl);(omega))
      |((with_reducible apply MP (b:=1));(rfl);(rfl);(omega);(decide))
      |refine Al (fun h=>?_) (fun h=>?_)
      |with_reducible refine Ap ?_
      |((with_reducible apply A2 7);rfl)
      |((with_reducible apply ob);(exact oT)))
     all_goals (conv=>whnf)
     all_goals (first|(exfalso;omega)|skip)
     exact A0 (k + 1,l,[o0,o1,o2,o3,o4,o5,o6,o7,o8]) Bl rfl (by dsimp only;omega) ⟨⟨hkn,hl⟩,htk,by rw [Pk hmem];exact hj⟩
    ·have hb2 : ¬ ((C6 pre >>> k &&& 1 : Nat) : Int) = 1:=by
      have : (C6 pre).testBit k = false:=by
       cases h : (C6 pre).testBit k with
       |false=>rfl
       |true=>exact absurd (hpk.1 h) hmem
      rw [this] at hb1
      exact of_decide_eq_false hb1
     repeat' (
      conv=>whnf
      first
      |((with_reducible apply PU);(rfl);(rfl);(omega))
      |((with_reducible apply MP (b:=1));(rfl);(rfl);(omega);(decide))
      |((with_reducible apply Xp (a:=1));(rfl);(rfl);(omega);(omega))
      |((with_reducible apply Aat);(rfl);(rfl);(omega);(omega))
      |refine Al (fun h=>?_) (fun h=>?_)
      |with_reducible refine Ap ?_
      |((with_reducible apply A2 7);rfl)
      |((with_reducible apply ob);(exact oT)))
     all_goals (conv=>whnf)
     all_goals (first|(exfalso;omega)|skip)
     have hlt : pre.length < l.length:=by omega
     have htk1 : (l.set pre.length ((k : Nat) : Int)).take (pre.length + 1) = pre ++ [((k : Nat) : Int)]:=by
      rw [List.take_add_one,List.take_set_of_le (Nat.le_refl _),htk]
      simp [hlt]
     have ih1:=ih f' rfl k (l.set pre.length ((k : Nat) : Int)) (d ++ GW n f' pre k) [o0,o1,o2,o3,o4,o5,o6,o7,o8] hkn hmem (by simp;omega) htk1 hj
     refine AcA (H2:=[o0,o1,o2,o3,o4,o5,o6,o7,o8] ++ QS n (l.set pre.length ((k : Nat) : Int))) ?_ (HC.mono ih1 ?_)
     ·have e : Aa (l.set pre.length ((k : Nat) : Int)) = (Aa l).set (0 + ((pre.length : Nat) : Int).toNat) (.int .i64 ((k : Nat) : Int)):=by
       simp [Aa,List.map_set]
      unfold QS
      rw [e];rfl
     ·intro r H' hq
      obtain ⟨H2,l2,rfl,rfl,hl2,htk2,hj2⟩:=Aw hq
      clear hin hj
      obtain ⟨o0,o1,o2,o3,o4,o5,o6,o7,o8,rfl,hin⟩:=hJ _ _ hj2
      have htk3 : l2.take pre.length = pre:=by
       have:=congrArg (List.take pre.length) htk2
       rw [List.take_take] at this
       simpa using this
      repeat' (
       conv=>whnf
       first
       |with_reducible refine Ap ?_)
      all_goals (conv=>whnf)
      exact A0 (k + 1,l2,[o0,o1,o2,o3,o4,o5,o6,o7,o8]) Bl rfl (by dsimp only;omega) ⟨⟨hkn,hl2⟩,htk3,by rw [PC hmem,← List.append_assoc];exact hj2⟩
   ·repeat' (
     conv=>whnf
     first
     |refine Al (fun h=>?_) (fun h=>?_)
     |((with_reducible apply ob);(exact oT)))
    all_goals (conv=>whnf)
    all_goals (first|(exfalso;omega)|skip)
    have : k = n:=by omega
    subst this
    exact Ab ⟨[o0,o1,o2,o3,o4,o5,o6,o7,o8],l,rfl,rfl,hl,htk,hj⟩
open Go
theorem X2 {P : Program} {g : Nat} {ds : List D} {H : List Ob} {Q : D → List Ob → Prop} (h : YC P g ds H (fun r H'=>Bs (∃ A Y,Frz H' (A ++ Y) ∧ A.length = H.length ∧ (∀ o ∈ A,A3 A.length o = true) ∧ B1 r = true ∧ Q r A))) : YC P g ds H (fun r H'=>Bs (Q r H')):=by
 refine YC.view h ?_
 intro r H' hq
 obtain ⟨A,Y,hz,hl,hin,hr,hq⟩:=Aw hq
 refine ⟨A ++ Y,r,A.length,hz,.refl _,by omega,by simp,JT _ _ hr,?_,?_⟩
 ·rw [List.take_left];exact hin
 ·rw [List.take_left];exact Ab hq
theorem Oj {H : List Ob} {g : Nat} {o : Ob} (h : H.getD g .dead = o) : H.set g o = H:=by
 refine List.ext_getElem? fun i=>?_
 rw [List.getElem?_set]
 by_cases e : g = i
 ·subst e
  rw [if_pos rfl]
  by_cases hlt : g < H.length
  ·simp only [List.getD,List.getElem?_eq_getElem hlt,Option.getD_some] at h
   rw [if_pos hlt,List.getElem?_eq_getElem hlt,h]
  ·rw [if_neg hlt,List.getElem?_eq_none (by omega)]
 ·rw [if_neg e]
theorem Ow {P : Program} {f : FuncId} {args0 args : List D} {sh1 sh2 : Sh} {ds1 ds1' ds2 : List D} {H : List Ob} {Q : D → List Ob → Prop} (g1 g2 : Nat) (hne : (Nat.beq g1 g2) = false) (h : HC P f args0 [.row sh1 ds1,.row sh2 ds2] (fun r H'=>Bs (r = .tuple [] ∧ H' = [.row sh1 ds1',.row sh2 ds2])))
  (hg1 : H.getD g1 .dead = .row sh1 ds1) (hg2 : H.getD g2 .dead = .row sh2 ds2) (hc1 : B3 ds1 = true) (hc1' : B3 ds1' = true) (hc2 : B3 ds2 = true)
  (hargs : BJ [g1,g2] args0 = args) (hin : Di 2 args0 = true) (hk : Q (.tuple []) (H.set g1 (.row sh1 ds1'))) : HC P f args H Q:=by
 have hl1:=Hh hg1 (by simp)
 have hl2:=Hh hg2 (by simp)
 refine HC.frame [g1,g2] h (.refl _) (Bc hg1 rfl hc1 (Bc hg2 rfl hc2 trivial)) (by simp [nodup,hne]) (by simp [hl1,hl2]) (by rw [hargs];exact C1 _ _) hin ?_
 intro r H0' hq _
 obtain ⟨rfl,rfl⟩:=Aw hq
 have e : (H.set g1 (.row sh1 ds1')).set g2 (.row sh2 ds2) = H.set g1 (.row sh1 ds1'):=by
  refine Oj ?_
  have : g1 ≠ g2:=fun e=>by rw [e] at hne;simp at hne
  simp only [List.getD] at hg2 ⊢
  rw [List.getElem?_set_ne this];exact hg2
 simpa [putB,BP,Dv _ _ hc1',Dv _ _ hc2,BL,BJ,e] using hk
theorem Xq (l : List Nat) (g : Nat) (hl : l.length ≤ 1000000) {H : List Ob} {Q : D → List Ob → Prop} (hg : H.getD g .dead = .row .leaf (Ae l)) (h0 : l = [] → Q .nils H) (hk : Q (.sl (H.length + 1) 0 l.length) (H ++ [.dead,.row .leaf (Ae l)])) :
  HC Tryz.prog 82 [.sl g 0 l.length] H Q:=by
 have hlt:=Hh hg (by simp)
 refine HC.frame [g] (Zz l hl) (.refl _) (Bc hg rfl (A6 _) trivial) rfl (by simpa using hlt) (C1 _ _) rfl ?_
 intro r H0' hq _
 have e:=Oj hg
 rcases Aw hq with ⟨rfl,rfl,rfl⟩|⟨rfl,rfl⟩
 ·have:=h0 rfl
  simpa [putB,BP,BL,BJ,e,Ae] using (show Q .nils (H.set g (.row .leaf (Ae []))) by rw [e];exact this)
 ·simpa [putB,BP,BL,BJ,Dv _ _ (A6 l),e,C4] using hk
theorem PO (l : List Int) (g : Nat) (hl : l.length ≤ 1000000) {H : List Ob} {Q : D → List Ob → Prop} (hg : H.getD g .dead = .row .leaf (Aa l)) (h0 : l = [] → Q .nils H) (hk : Q (.sl (H.length + 1) 0 l.length) (H ++ [.dead,.row .leaf (Aa l)])) :
  HC Tryz.prog 108 [.sl g 0 l.length] H Q:=by
 have hlt:=Hh hg (by simp)
 refine HC.frame [g] (Yl l hl) (.refl _) (Bc hg rfl (Af _) trivial) rfl (by simpa using hlt) (C1 _ _) rfl ?_
 intro r H0' hq _
 have e:=Oj hg
 rcases Aw hq with ⟨rfl,rfl,rfl⟩|⟨rfl,rfl⟩
 ·have:=h0 rfl
  simpa [putB,BP,BL,BJ,e,Aa] using (show Q .nils (H.set g (.row .leaf (Aa []))) by rw [e];exact this)
 ·simpa [putB,BP,BL,BJ,Dv _ _ (Af l),e,C4] using hk
theorem Aaa {P : Program} {f : FuncId} {l : List Nat} {n : Nat} {H : List Ob} {Q : D → List Ob → Prop} (g : Nat) {args : List D} (ha : args = [.sl g 0 n]) (hl : l.length = n) (h : HC P f [.sl g 0 l.length] H Q) : HC P f args H Q:=by rw [ha,← hl];exact h
theorem Abs (n : Nat) (hn : n ≤ 7) (J : List (List Int) → List Ob → Prop) (lp : Ob) (P0 : List Ob) {H0 : List Ob} (hH : H0 = P0 ++ [lp]) (Q : D → List Ob → Prop) (hJ : ∀ d P,J d P → P.length = 8 ∧ ∀ o ∈ P,A3 9 o = true) (hlp : A3 9 lp = true)
  (hyl : ∀ d P p,J d P → Pm p n → YC Tryz.prog 8 [.sl 10 0 n] ((P ++ [lp]) ++ [.var (.yld 8),.row .leaf (Aa p)]) (fun r H'=>Bs (∃ P2,H' = (P2 ++ [lp]) ++ [.var (.yld 8),.row .leaf (Aa p)] ∧ r = .bool true ∧ J (d ++ [p]) P2)))
  (hend : ∀ P,J (Gy n n []) P → Q (.tuple []) (P ++ [lp])) (h0 : J [] P0) : HC Tryz.prog 123 [.yld 8,.ref .leaf (iD n)] H0 Q:=by
 subst hH
 have hJ2 : ∀ d H,(∃ P,H = P ++ [lp] ∧ J d P) → H.length = 9 ∧ ∀ o ∈ H,A3 9 o = true:=by
  rintro d H ⟨P,rfl,hj⟩
  obtain ⟨h1,h2⟩:=hJ d P hj
  refine ⟨by simp;omega,fun o ho=>?_⟩
  rcases List.mem_append.1 ho with h|h
  ·exact h2 o h
  ·rw [List.mem_singleton.1 h];exact hlp
 have key:=WH n hn (fun d H=>∃ P,H = P ++ [lp] ∧ J d P) (fun d H h=>by
  obtain ⟨h1,h2⟩:=hJ2 d H h
  obtain ⟨o0,o1,o2,o3,o4,o5,o6,o7,o8,h3⟩:=Yy h1
  exact ⟨o0,o1,o2,o3,o4,o5,o6,o7,o8,h3,h2⟩) (fun d H p h hp=>by
  obtain ⟨P,rfl,hj⟩:=h
  refine YC.mono (hyl d P p hj hp) fun r H' hq=>?_
  obtain ⟨P2,rfl,rfl,hj2⟩:=Aw hq
  exact Ab ⟨_,rfl,rfl,P2,rfl,hj2⟩) n [] (List.replicate n 0) [] (P0 ++ [lp]) (by simp) ⟨fun x hx=>(by cases hx),List.nodup_nil⟩ (by simp) rfl ⟨P0,rfl,h0⟩
 have hz : Aa (List.replicate n 0) = List.replicate n (.int .i64 0):=by simp [Aa]
 obtain ⟨h1,h2⟩:=hJ2 [] (P0 ++ [lp]) ⟨P0,rfl,h0⟩
 obtain ⟨o0,o1,o2,o3,o4,o5,o6,o7,o8,h3⟩:=Yy h1
 rw [h3] at key h2 ⊢
 refine HC.view (Q0:=fun r H'=>Bs (∃ P Y,H' = (P ++ [lp]) ++ Y ∧ r = .tuple [] ∧ J (Gy n n []) P)) ?_ ?_
 ·refine Ad (okc Tryz.f123.ntmps 9) (fn:=Tryz.f123) (cd:=_) rfl rfl rfl rfl rfl rfl (fun hbd=>?_)
  repeat' (
   conv=>whnf
   first
   |((with_reducible apply ob);(exact oT)))
  all_goals (conv=>whnf)
  unfold QS at key
  rw [hz] at key
  refine HC.mono key ?_
  intro r H' hq
  obtain ⟨H2,l2,rfl,rfl,_,_,P,rfl,hj⟩:=Aw hq
  all_goals (conv=>whnf)
  exact Ab ⟨P,_,rfl,rfl,hj⟩
 ·intro r H' hq
  obtain ⟨P,Y,rfl,rfl,hj⟩:=Aw hq
  obtain ⟨h4,h5⟩:=hJ2 _ _ ⟨P,rfl,hj⟩
  refine ⟨(P ++ [lp]) ++ Y,.tuple [],9,.refl _,.refl _,Nat.le_refl _,by rw [List.length_append,h4];omega,rfl,?_,?_⟩
  ·rw [← h4,List.take_left];rw [h4];exact h5
  ·rw [← h4,List.take_left];exact hend P hj
theorem UX (n : Nat) : Ah Tryz.prog 97 [iD n] (fun r=>r = .func 123 [.ref .leaf (iD n)]):=by
 refine Ah.ofV ?_
 refine Ad (okc Tryz.f97.ntmps 0) (fn:=Tryz.f97) (cd:=_) rfl rfl rfl rfl rfl rfl (fun hbd=>?_)
 all_goals (conv=>whnf)
 refine Ab ⟨_,.func 123 [.ref .leaf (iD n)],.fvar 0 _ rfl rfl (.refl _),.func _ _ _ (.cons _ _ _ _ (.fvar 0 (iD n) rfl) .nil),rfl,rfl⟩
def Ahm : D:=.agg [.agg [.func 154 []],.agg [.func 155 []]]
def fmB : Option (List Nat × List Int) → D
 |none=>.nils
 |some (b,_)=>Av b
def fmA : Option (List Nat × List Int) → D
 |none=>.nils
 |some (_,a)=>Ai a
def HB (x : Inc) (st : Option (List Nat × List Int)) (now : List Nat) : List Ob:=[.var (iD 1),.var x.D,.var (.agg [iD 0,.nils]),.var Ahm,.var (fmB st),.var (fmA st),.row .leaf (Ae now),.var (.sl 6 0 x.B.length)]
theorem KH {P : Program} {f : FuncId} {l : List Int} {n : Nat} {H : List Ob} {Q : D → List Ob → Prop} (g : Nat) {args : List D} (ha : args = [.sl g 0 n]) (hl : l.length = n) (h : HC P f [.sl g 0 l.length] H Q) : HC P f args H Q:=by rw [ha,← hl];exact h
theorem M5 (x : Inc) (st : Option (List Nat × List Int)) (now : List Nat) (lp : Ob) (p : List Int) (hlp : A3 11 lp = true) : ∀ o ∈ (HB x st now ++ [lp]) ++ [Ob.var (.yld 8),.row .leaf (Aa p)],A3 11 o = true:=by
 intro o ho
 simp only [HB,List.cons_append,List.nil_append,List.mem_cons,List.not_mem_nil,or_false] at ho
 rcases ho with rfl|rfl|rfl|rfl|rfl|rfl|rfl|rfl|rfl|rfl|rfl <;> first|rfl|exact hlp|exact B9 _ _ (A6 _)|exact B9 _ _ (Af _)|(cases st <;> rfl)
theorem Nv (x : Inc) (g : List Int) : (BG x g).length = x.B.length:=by
 unfold BG
 rw [(Ca _).length_eq,List.length_map]
theorem V4 {x : Inc} {d : List (List Int)} {b : List Nat} {a : List Int} (h : II x d = some (b,a)) : b.length = x.B.length ∧ a ∈ d:=by
 by_cases hd : d = []
 ·subst hd;cases h
 ·obtain ⟨b',a',e,⟨g,hg,hb,ha⟩,_⟩:=SA x hd
  rw [e] at h;cases h
  exact ⟨by rw [hb,Nv],ha ▸ hg⟩
theorem Ac6 (x : Inc) (hB : Ws x.B) (hv : Ff x.V x.B) (h7 : x.V ≤ 7) (h12 : x.B.length ≤ 12) : Ah Tryz.prog 110 [iD 1,x.D] (fun r=>r = .tuple [(Ak x).D,Ai (atI x),iD 0]):=by
 have hv1:=JP x.V x.B hB (by have:=hv.1.2.2;omega)
 rw [decide_eq_true hv] at hv1
 have hl0:=Ax x.B
 have hl64:=hv.1.2.2
 have hV1 : 1 ≤ x.V:=by have:=hv.1.1;omega
 have hrep : Ae (List.replicate x.B.length 0) = List.replicate x.B.length (.int .u64 0):=by simp [Ae,sD]
 refine Ah.ofV ?_
 refine Ad (okc Tryz.f110.ntmps 0) (fn:=Tryz.f110) (cd:=_) rfl rfl rfl rfl rfl rfl (fun hbd=>?_)
 repeat' (
  conv=>whnf
  first
  |((with_reducible refine Ao ?_);refine Au hv1 ?_)
  |refine Al (fun h=>?_) (fun h=>?_)
  |((with_reducible refine Ao ?_);refine Au AaB ?_)
  |((with_reducible refine Ao ?_);refine Au (UX _) ?_)
  |((with_reducible apply ob);(exact oT)))
 all_goals (conv=>whnf)
 all_goals (first|(exfalso;omega)|skip)
 let J : List (List Int) → List Ob → Prop:=fun d P=>(∀ g ∈ d,Pm g x.V) ∧ ∃ now,now.length = x.B.length ∧ P = HB x (II x d) now
 refine Abs x.V h7 J ?lp (HB x none (List.replicate x.B.length 0)) ?hH _ ?_ ?_ ?_ ?_ ?_
 case hH =>
  unfold HB
  rw [hl0,hrep]
  exact rfl
 ·rintro d P ⟨hd,now,hn,rfl⟩
  refine ⟨rfl,?_⟩
  intro o ho
  simp only [HB,List.mem_cons,List.not_mem_nil,or_false] at ho
  rcases ho with rfl|rfl|rfl|rfl|rfl|rfl|rfl|rfl <;> first|rfl|exact B9 _ _ (A6 _)|(cases II x d <;> rfl)
 ·rfl
 ·rintro d P p ⟨hd,now,hn,rfl⟩ hp
  have hd' : ∀ g ∈ d ++ [p],Pm g x.V:=fun g hg=>by
   rcases List.mem_append.1 hg with h|h
   ·exact hd g h
   ·rw [List.mem_singleton.1 h];exact hp
  have hsn:=RZ x d p
  have hmv:=UW x now p hB hn (by omega) (fun q hq=>by have:=hp.2.1 q hq;omega) (by rw [hp.1];omega)
  rw [hp.1] at hmv
  have hil:=Nv x p
  have hpl:=Ar p
  have hpv:=hp.1
  refine X2 ?_
  cases hst : II x d with
  |none =>
   rw [hst] at hsn
   refine Bd (okc Tryz.f110.ntmps 11) rfl rfl rfl rfl rfl ?_
   all_goals (conv=>whnf)
   refine Ow 6 10 rfl hmv rfl rfl (A6 _) (A6 _) (Af _) rfl rfl ?_
   repeat' (
    conv=>whnf
    first
    |((with_reducible apply A2 10);rfl))
   all_goals (conv=>whnf)
   refine Aaa (l:=BG x p) 6 rfl hil (Xq (BG x p) 6 (by omega) rfl (fun h0=>?_) ?_)
   ·all_goals (conv=>whnf)
    refine KH (l:=p) 10 rfl hpv (PO p 10 (by omega) rfl (fun h0=>?_) ?_)
    ·exfalso;rw [h0] at hpv;simp at hpv;omega
    ·all_goals (conv=>whnf)
     exact Ab ⟨(HB x (some (BG x p,p)) (BG x p) ++ [_]) ++ [.var (.yld 8),.row .leaf (Aa p)],[.dead,.frz .leaf (Aa p)],.step 12 .leaf (Aa p) rfl (Af _) (.var 4 (Av (BG x p)) _ rfl (by rw [h0];exact .nils _) rfl rfl (.var 5 (Ai p) _ rfl (A9 rfl hpl) rfl rfl (.refl _))),rfl,M5 _ _ _ _ _ rfl,rfl,HB x (some (BG x p,p)) (BG x p),rfl,rfl,hd',BG x p,hil,by rw [hsn];rfl⟩
   ·all_goals (conv=>whnf)
    refine KH (l:=p) 10 rfl hpv (PO p 10 (by omega) rfl (fun h0=>?_) ?_)
    ·exfalso;rw [h0] at hpv;simp at hpv;omega
    ·all_goals (conv=>whnf)
     exact Ab ⟨(HB x (some (BG x p,p)) (BG x p) ++ [_]) ++ [.var (.yld 8),.row .leaf (Aa p)],[.dead,.frz .leaf (Ae (BG x p)),.dead,.frz .leaf (Aa p)],.step 12 .leaf (Ae (BG x p)) rfl (A6 _) (.step 14 .leaf (Aa p) rfl (Af _) (.var 4 (Av (BG x p)) _ rfl (A9 rfl (Ax _)) rfl rfl (.var 5 (Ai p) _ rfl (A9 rfl hpl) rfl rfl (.refl _)))),rfl,M5 _ _ _ _ _ rfl,rfl,HB x (some (BG x p,p)) (BG x p),rfl,rfl,hd',BG x p,hil,by rw [hsn];rfl⟩
  |some ba =>
   obtain ⟨b,a⟩:=ba
   rw [hst] at hsn
   obtain ⟨hbl,ham⟩:=V4 hst
   have hap:=hd a ham
   have hane : Aa a ≠ []:=fun e=>by
    have:=congrArg List.length e
    rw [Ar,hap.1] at this
    simp at this;omega
   have hbf:=Yt (BG x p) b (by omega) (by omega)
   refine Bd (okc Tryz.f110.ntmps 11) rfl rfl rfl rfl rfl ?_
   all_goals (conv=>whnf)
   refine Ow 6 10 rfl hmv rfl rfl (A6 _) (A6 _) (Af _) rfl rfl ?_
   repeat' (
    conv=>whnf
    first
    |((with_reducible refine Ao ?_);refine HC.borrow hbf (.step 6 .leaf (Ae (BG x p)) rfl (A6 _) (.refl _)) (.cons _ _ _ _ (A9 rfl (by rw [Ax];exact hil)) (.cons _ _ _ _ (.refl _) .nil)) rfl ?_;rintro r H0 ⟨-,-,rfl⟩;refine ⟨rfl,?_⟩)
    |refine Al (fun h=>?_) (fun h=>?_)
    |with_reducible refine Ap ?_
    |((with_reducible apply A2 10);rfl)
    |((with_reducible apply ob);(exact oT)))
   all_goals (conv=>whnf)
   ·skip
    refine Aaa (l:=BG x p) 6 rfl hil (Xq (BG x p) 6 (by omega) rfl (fun h0=>?_) ?_)
    ·all_goals (conv=>whnf)
     refine KH (l:=p) 10 rfl hpv (PO p 10 (by omega) rfl (fun h0=>?_) ?_)
     ·exfalso;rw [h0] at hpv;simp at hpv;omega
     ·all_goals (conv=>whnf)
      exact Ab ⟨(HB x (some (BG x p,p)) (BG x p) ++ [_]) ++ [.var (.yld 8),.row .leaf (Aa p)],[.dead,.frz .leaf (Aa p)],.step 12 .leaf (Aa p) rfl (Af _) (.var 4 (Av (BG x p)) _ rfl (by rw [h0];exact .nils _) rfl rfl (.var 5 (Ai p) _ rfl (A9 rfl hpl) rfl rfl (.refl _))),rfl,M5 _ _ _ _ _ rfl,rfl,HB x (some (BG x p,p)) (BG x p),rfl,rfl,hd',BG x p,hil,by rw [hsn];exact congrArg (fun st=>HB x st (BG x p)) (if_pos h).symm⟩
    ·all_goals (conv=>whnf)
     refine KH (l:=p) 10 rfl hpv (PO p 10 (by omega) rfl (fun h0=>?_) ?_)
     ·exfalso;rw [h0] at hpv;simp at hpv;omega
     ·all_goals (conv=>whnf)
      exact Ab ⟨(HB x (some (BG x p,p)) (BG x p) ++ [_]) ++ [.var (.yld 8),.row .leaf (Aa p)],[.dead,.frz .leaf (Ae (BG x p)),.dead,.frz .leaf (Aa p)],.step 12 .leaf (Ae (BG x p)) rfl (A6 _) (.step 14 .leaf (Aa p) rfl (Af _) (.var 4 (Av (BG x p)) _ rfl (A9 rfl (Ax _)) rfl rfl (.var 5 (Ai p) _ rfl (A9 rfl hpl) rfl rfl (.refl _)))),rfl,M5 _ _ _ _ _ rfl,rfl,HB x (some (BG x p,p)) (BG x p),rfl,rfl,hd',BG x p,hil,by rw [hsn];exact congrArg (fun st=>HB x st (BG x p)) (if_pos h).symm⟩
   ·skip
    exact Ab ⟨(HB x (some (b,a)) (BG x p) ++ [_]) ++ [.var (.yld 8),.row .leaf (Aa p)],[],.refl _,rfl,M5 _ _ _ _ _ rfl,rfl,HB x (some (b,a)) (BG x p),rfl,rfl,hd',BG x p,hil,by rw [hsn];exact congrArg (fun st=>HB x st (BG x p)) (if_neg h).symm⟩
 ·rintro P ⟨hd,now,hn,rfl⟩
  rw [AaY]
  repeat' (
   conv=>whnf
   first
   |((with_reducible apply drR 5);rfl)
   |with_reducible refine Jh ?_ ?_
   |with_reducible refine KF ?_ ?_
   |((with_reducible apply ob);(exact oT))
   |exact trivial)
  all_goals (conv=>whnf)
  exact fC rfl rfl
 ·exact ⟨fun g hg=>(by cases hg),List.replicate x.B.length 0,by simp,rfl⟩
open Go
theorem UV {H : List Ob} : ∀ {a a' b b' : List D},LeDs H a a' → LeDs H b b' → LeDs H (a ++ b) (a' ++ b')
 |_,_,_,_,.nil,h=>h
 |_,_,_,_,.cons _ _ _ _ h1 h2,h=>.cons _ _ _ _ h1 (UV h2 h)
theorem Ma : ∀ (a b : List D),A4 (a ++ b) = A4 a ++ A4 b
 |[],_=>rfl
 |d :: a,b=>by simp only [List.cons_append,A4,Ma a b]
theorem WP : ∀ (l : List (List Int)),BY (C7 l) = true
 |[]=>rfl
 |a :: l=>WP l
theorem Uv {H H' : List Ob} (g : Nat) {es0 : List D} (L : List (List Int)) (r : List Int) (d : D) (h : H.getD g .dead = .row .leaf es0) (he : es0 = C7 L ++ [d]) (hd : LeD H (Ai r) d) (hs : An d = .leaf) (hn : Frz (H.set g (.row .leaf (C7 (L ++ [r])))) H') : Frz H H':=by
 subst he
 have e : C7 (L ++ [r]) = C7 L ++ [Ai r]:=by simp [C7]
 refine .row g .leaf (C7 (L ++ [r])) _ h ?_ ?_ (WP _) hn
 ·rw [e];exact UV (C1 _ _) (.cons _ _ _ _ hd .nil)
 ·rw [e,Ma,Ma];simp [A4,hs];rfl
theorem QU (l : List Int) (i : Nat) (hi : i < l.length) (hl : l.length ≤ 1000000) : Ah Tryz.prog 153 [Ai l,iD i] (fun r=>r = Ai (l.take i ++ l.drop (i + 1))):=by
 have hl0:=Ar l
 rcases Nat.eq_zero_or_pos i with h0|h0
 ·rcases Nat.lt_or_ge (i + 1) l.length with h1|h1
  ·refine Ah.ofV ?_
   refine Ad (okc Tryz.f153.ntmps 0) (fn:=Tryz.f153) (cd:=_) rfl rfl rfl rfl rfl rfl (fun hbd=>?_)
   repeat' (
    conv=>whnf
    first
    |with_reducible refine Ap ?_
    |((with_reducible apply A2 9);rfl)
    |((with_reducible apply U6);(exact oT))
    |((with_reducible apply ob);(exact oT)))
   all_goals (conv=>whnf)
   all_goals
    apply IH (Aa (l.take i ++ l.drop (i + 1)))
    case hg=>rfl
    case hc=>exact Af _
    case h=>rfl
    all_goals first|(simp [Aa,List.take_of_length_le];done)|(simp [Aa,List.take_of_length_le];omega)|(simp [Aa,List.take_of_length_le,List.drop_eq_nil_of_le (show l.length ≤ i + 1 by omega)];done)|(simp [Aa,List.take_of_length_le,List.drop_eq_nil_of_le (show l.length ≤ i + 1 by omega)];omega)
  ·subst h0
   obtain ⟨p,rfl⟩ : ∃ p,l = [p]:=by
    match l,hi,h1 with
    |[p],_,_=>exact ⟨p,rfl⟩
    |[],h,_=>simp at h
    |_ :: _ :: _,_,h=>simp at h
   refine Ah.ofV ?_
   refine Ad (okc Tryz.f153.ntmps 0) (fn:=Tryz.f153) (cd:=_) rfl rfl rfl rfl rfl rfl (fun hbd=>?_)
   repeat' (
    conv=>whnf
    first
    |((with_reducible apply A2 10);rfl)
    |with_reducible refine Ap ?_
    |((with_reducible apply U6);(exact oT))
    |((with_reducible apply ob);(exact oT)))
   all_goals (conv=>whnf)
   all_goals exact Ab ⟨_,Ai [],.refl _,.full true _ _,rfl,rfl⟩
 ·rcases Nat.lt_or_ge (i + 1) l.length with h1|h1
  ·refine Ah.ofV ?_
   refine Ad (okc Tryz.f153.ntmps 0) (fn:=Tryz.f153) (cd:=_) rfl rfl rfl rfl rfl rfl (fun hbd=>?_)
   repeat' (
    conv=>whnf
    first
    |with_reducible refine Ap ?_
    |((with_reducible apply A2 9);rfl)
    |((with_reducible apply LW);(exact oT);(exact oT))
    |((with_reducible apply ob);(exact oT)))
   all_goals (conv=>whnf)
   all_goals
    apply IH (Aa (l.take i ++ l.drop (i + 1)))
    case hg=>rfl
    case hc=>exact Af _
    case h=>rfl
    all_goals first|(simp [Aa,List.take_of_length_le];done)|(simp [Aa,List.take_of_length_le];omega)|(simp [Aa,List.take_of_length_le,List.drop_eq_nil_of_le (show l.length ≤ i + 1 by omega)];done)|(simp [Aa,List.take_of_length_le,List.drop_eq_nil_of_le (show l.length ≤ i + 1 by omega)];omega)
  ·refine Ah.ofV ?_
   refine Ad (okc Tryz.f153.ntmps 0) (fn:=Tryz.f153) (cd:=_) rfl rfl rfl rfl rfl rfl (fun hbd=>?_)
   repeat' (
    conv=>whnf
    first
    |with_reducible refine Ap ?_
    |((with_reducible apply A2 9);rfl)
    |((with_reducible apply LW);(exact oT);(exact oT))
    |((with_reducible apply ob);(exact oT)))
   all_goals (conv=>whnf)
   all_goals
    apply IH (Aa (l.take i ++ l.drop (i + 1)))
    case hg=>rfl
    case hc=>exact Af _
    case h=>rfl
    all_goals first|(simp [Aa,List.take_of_length_le];done)|(simp [Aa,List.take_of_length_le];omega)|(simp [Aa,List.take_of_length_le,List.drop_eq_nil_of_le (show l.length ≤ i + 1 by omega)];done)|(simp [Aa,List.take_of_length_le,List.drop_eq_nil_of_le (show l.length ≤ i + 1 by omega)];omega)
theorem UJ (a b : List Nat) (hab : a.length = b.length) (ha : a.length ≤ 1000000) : Ah Tryz.prog 101 [Av a,Av b] (fun r=>r = .bool (Bu a b)):=by
 have ha0:=Ax a
 have hb0:=Ax b
 refine Ah.ofV ?_
 refine Ad (okc Tryz.f101.ntmps 0) (fn:=Tryz.f101) (cd:=_) rfl rfl rfl rfl rfl rfl (fun hbd=>?_)
 all_goals (conv=>whnf)
 refine Bq (X:=Nat) (fun k=>[(0,Av a),(1,Av b),(5,iD k)]) (fun _=>[]) (fun k=>k ≤ a.length ∧ Bu a b = Bu (a.drop k) (b.drop k)) (fun k=>a.length - k)
  ⟨_,A0 0 Bl rfl (Nat.lt_succ_self _) ⟨Nat.zero_le _,rfl⟩⟩ ?_
 rintro k ⟨hka,he⟩
 rcases Nat.lt_or_ge k a.length with h1|h1
 ·obtain ⟨x,hx⟩:=Bp h1
  have hx1 : (Ae a)[((k : Nat) : Int).toNat]? = some (sD x):=by simp [Ae,hx]
  have ea : a.drop k = x :: a.drop (k + 1):=by rw [List.drop_eq_getElem_cons h1,(List.getElem?_eq_some_iff.1 hx).2]
  have h2 : k < b.length:=by omega
  obtain ⟨y,hy⟩:=Bp h2
  have hy1 : (Ae b)[((k : Nat) : Int).toNat]? = some (sD y):=by simp [Ae,hy]
  have eb : b.drop k = y :: b.drop (k + 1):=by rw [List.drop_eq_getElem_cons h2,(List.getElem?_eq_some_iff.1 hy).2]
  rw [ea,eb,Bu] at he
  repeat' (
   conv=>whnf
   first
   |(with_reducible refine ⟨_,hx1,?_⟩)
   |(with_reducible refine ⟨_,hy1,?_⟩)
   |refine Al (fun h=>?_) (fun h=>?_)
   |refine Cs (fun h=>?_) (fun h=>?_)
   |with_reducible refine Ap ?_
   |((with_reducible apply A2 8);rfl)
   |((with_reducible apply ob);(exact oT)))
  all_goals (conv=>whnf)
  all_goals (first|(exfalso;omega)|skip)
  ·refine fC rfl ?_
   rw [he]
   by_cases h3 : x < y
   ·rw [if_pos h3]
    exact congrArg D.bool (decide_eq_true (by omega))
   ·rw [if_neg h3,if_pos (by omega)]
    exact congrArg D.bool (decide_eq_false (by omega))
  ·rw [if_neg (by omega),if_neg (by omega)] at he
   exact A0 (k + 1) Bl rfl (by omega) ⟨by omega,he⟩
 ·repeat' (
   conv=>whnf
   first
   |refine Al (fun h=>?_) (fun h=>?_)
   |refine Cs (fun h=>?_) (fun h=>?_)
   |with_reducible refine Ap ?_
   |((with_reducible refine Et (by omega) ?_);intro y hy;(try simp only [Int.toNat_natCast,Nat.zero_add] at hy);(try have hyr:=hR _ (List.mem_of_getElem? hy)))
   |((with_reducible apply A2 8);rfl)
   |((with_reducible apply ob);(exact oT)))
  all_goals (conv=>whnf)
  all_goals (first|(exfalso;omega)|skip)
  refine fC rfl ?_
  rw [he,List.drop_eq_nil_of_le h1,List.drop_eq_nil_of_le (by omega)];rfl
def Hz (m : Nat) (l : List Int) (i : Nat) : List (List Int):=(List.range i).flatMap fun i=>(Gz m (l.take i ++ l.drop (i + 1))).map (l.getD i 0 :: ·)
theorem Rl (m : Nat) (l : List Int) (i : Nat) : Hz m l (i + 1) = Hz m l i ++ (Gz m (l.take i ++ l.drop (i + 1))).map (l.getD i 0 :: ·):=by
 unfold Hz
 rw [List.range_succ,List.flatMap_append];simp
theorem TM : ∀ (m : Nat) (l : List Int),(Gz m l).length = By m:=fun m l=>by
 rw [← Q3];simp
theorem SP (m : Nat) (l : List Int) : ∀ i,(Hz m l i).length = i * By m
 |0=>by simp [Hz]
 |i + 1=>by rw [Rl,List.length_append,SP m l i,List.length_map,TM,Nat.succ_mul]
theorem Pn : ∀ (m : Nat) (l : List Int),m ≤ 7 → l.length = m → Ah Tryz.prog 125 [Ai l] (fun r=>r = G6 (Gz m l))
 |0,l,_,hl=>by
  obtain rfl : l = []:=List.length_eq_zero_iff.1 hl
  refine Ah.ofV ?_
  refine Ad (okc Tryz.f125.ntmps 0) (fn:=Tryz.f125) (cd:=_) rfl rfl rfl rfl rfl rfl (fun hbd=>?_)
  all_goals (conv=>whnf)
  refine Ab ⟨_,G6 [[]],.step 0 .leaf [] rfl rfl (Uv 1 [] [] (.sl 0 0 0) rfl rfl (A9 rfl rfl) rfl (.step 1 .leaf (C7 [[]]) rfl rfl (.refl _))),A9 rfl rfl,rfl,rfl⟩
 |m + 1,l,hm,hl=>by
  have hl0:=Ar l
  have hfac : ∀ k,k ≤ 7 → By k ≤ 5040:=by decide
  refine Ah.ofV ?_
  refine Ad (okc Tryz.f125.ntmps 0) (fn:=Tryz.f125) (cd:=_) rfl rfl rfl rfl rfl rfl (fun hbd=>?_)
  repeat' (
   conv=>whnf
   first
   |refine Al (fun h=>?_) (fun h=>?_))
  all_goals (conv=>whnf)
  all_goals (first|(exfalso;omega)|skip)
  refine Bq (X:=Nat) (fun i=>[(0,Ai l),(3,.sl 0 0 (Hz m l i).length),(4,iD i)]) (fun i=>[.row .leaf (C7 (Hz m l i))]) (fun i=>i ≤ l.length) (fun i=>l.length - i)
   ⟨_,nx (ρ:=[0]) 0 Cb (Bc rfl rfl (KA _) trivial) rfl rfl (Nat.lt_succ_self _) (Nat.zero_le _)⟩ ?_
  intro i hi
  rcases Nat.lt_or_ge i l.length with hil|hil
  ·obtain ⟨p,hp⟩:=Bp hil
   have hp1 : (Aa l)[((i : Nat) : Int).toNat]? = some (.int .i64 p):=by simp [Aa,hp]
   have hrl : (l.take i ++ l.drop (i + 1)).length = m:=by simp;omega
   have harr:=Pn m (l.take i ++ l.drop (i + 1)) (by omega) hrl
   have hlen:=TM m (l.take i ++ l.drop (i + 1))
   have hfm:=hfac m (by omega)
   have hnext:=Rl m l i
   rw [Bt hp] at hnext
   have hwo:=QU l i hil (by omega)
   generalize hR : Gz m (l.take i ++ l.drop (i + 1)) = R at harr hlen hnext
   have hR0 : (C7 R).length = R.length:=by simp [C7]
   repeat' (
    conv=>whnf
    first
    |((with_reducible refine Ao ?_);refine Au hwo ?_)
    |((with_reducible refine Ao ?_);refine Au harr ?_)
    |refine Al (fun h=>?_) (fun h=>?_))
   all_goals (conv=>whnf)
   all_goals (first|(exfalso;omega)|skip)
   have hak:=SP m l i
   have hak2 : i * By m ≤ 7 * 5040:=Nat.mul_le_mul (by omega) hfm
   refine Bq (X:=Nat) (fun k=>[(0,Ai l),(3,.sl 0 0 ((Hz m l i).length + k)),(4,iD i),(5,G6 R),(6,iD k)]) (fun k=>[.row .leaf (C7 (Hz m l i ++ (R.take k).map (p :: ·)))]) (fun k=>k ≤ R.length) (fun k=>R.length - k)
    ⟨_,nx (ρ:=[0]) 0 Cb (Bc rfl (by simp) (KA _) trivial) rfl rfl (Nat.lt_succ_self _) (Nat.zero_le _)⟩ ?_
   intro k hk
   rcases Nat.lt_or_ge k R.length with hkl|hkl
   ·obtain ⟨g,hg⟩:=Bp hkl
    have hg1 : (C7 R)[((k : Nat) : Int).toNat]? = some (Ai g):=by simp [C7,hg]
    have hg0:=Ar g
    have hgl : g.length = m:=by
     have h1 : g ∈ Gz m (l.take i ++ l.drop (i + 1)):=by rw [hR];exact List.mem_of_getElem? hg
     rw [((Lu m _ g hrl).1 h1).length_eq,hrl]
    repeat' (
     conv=>whnf
     first
     |(with_reducible refine ⟨_,hp1,?_⟩)
     |(with_reducible refine ⟨_,hg1,?_⟩)
     |refine Al (fun h=>?_) (fun h=>?_)
     |with_reducible refine Ap ?_
     |((with_reducible apply A2 10);rfl)
     |((with_reducible apply ob);(exact oT)))
    all_goals (conv=>whnf)
    all_goals (first|(exfalso;omega)|exact Cq (by unfold Bx;omega)|exact Cq (by show (Hz m l i).length + k + 1 ≤ Bx;unfold Bx;omega)|skip)
    refine NS (k + 1) [4] (.step 2 .leaf (Aa (p :: g)) rfl (Af _) (Uv 4 (Hz m l i ++ (R.take k).map (p :: ·)) (p :: g) (.sl 2 0 (1 + (Aa g).length)) rfl ?_ (A9 rfl (by simp;omega)) rfl (.refl _))) Cb (Bc rfl (by rw [List.take_add_one,hg];simp) (KA _) trivial) rfl rfl (by omega) hkl
    show List.take _ (C7 _) ++ [_] = _
    rw [List.take_of_length_le (by simp [C7];omega)]
   ·repeat' (
     conv=>whnf
     first
     |refine Al (fun h=>?_) (fun h=>?_)
     |with_reducible refine Ap ?_
     |((with_reducible refine GF (by omega) ?_);intro y hy;(try simp only [Int.toNat_natCast,Nat.zero_add] at hy);(try have hyr:=hR _ (List.mem_of_getElem? hy)))
     |((with_reducible apply A2 10);rfl)
     |((with_reducible apply ob);(exact oT)))
    all_goals (conv=>whnf)
    all_goals (first|(exfalso;omega)|skip)
    have : k = R.length:=by omega
    subst this
    exact nx (i + 1) [0] (by repeat (first|exact trivial|refine Az rfl rfl ?_|refine Az (congrArg (D.sl 0 0) (by rw [hnext];simp)) rfl ?_)) (Bc rfl (by rw [hnext];simp) (KA _) trivial) rfl rfl (by omega) hil
  ·repeat' (
    conv=>whnf
    first
    |refine Al (fun h=>?_) (fun h=>?_)
    |((with_reducible refine Ao ?_);refine Au (QU _ _ (by omega) (by omega)) ?_))
   all_goals (conv=>whnf)
   all_goals (first|(exfalso;omega)|skip)
   have : i = l.length:=by omega
   subst this
   have e : Hz m l l.length = Gz (m + 1) l:=by
    unfold Hz
    rw [hl];rfl
   rw [← e]
   apply IH (C7 (Hz m l l.length))
   case hg=>rfl
   case he=>rfl
   case hl=>simp [C7]
   case hc=>exact KA _
   case h=>rfl
open Go
theorem Ju (v k l : Int) : Ah Tryz.prog 12 [BO v k l] (fun r=>r = .int .i64 (if FC v k l then 0 else 1)):=by
 refine Ah.ofV ?_
 refine Ad (okc Tryz.f12.ntmps 0) (fn:=Tryz.f12) (cd:=_) rfl rfl rfl rfl rfl rfl (fun hbd=>?_)
 repeat' (
  conv=>whnf
  first
  |refine Al (fun h=>?_) (fun h=>?_))
 all_goals (conv=>whnf)
 all_goals first|exact fC rfl (by rw [if_neg (by omega)];rfl)|exact fC rfl (by rw [if_pos (by omega)];rfl)|(exfalso;omega)
theorem Zv {b V : Nat} : b >>> V = 0 ↔ b < 2 ^ V:=by
 rw [Nat.shiftRight_eq_div_pow,Nat.div_eq_zero_iff]
 constructor
 ·rintro (h|h)
  ·have:=Nat.two_pow_pos V;omega
  ·exact h
 ·exact .inr
theorem Rd {l : List Nat} {i x : Nat} (h : HK (l.take i)) (hx : l[i]? = some x) (hle : ∀ y,l[i - 1]? = some y → 0 < i → y ≤ x) : HK (l.take (i + 1)):=by
 rw [List.take_add_one,hx]
 refine List.pairwise_append.2 ⟨h,by simp,fun a ha b hb=>?_⟩
 rw [show b = x by simpa using hb]
 obtain ⟨j,hj⟩:=List.getElem?_of_mem ha
 have hj1 : j < i:=by
  rcases Nat.lt_or_ge j i with h1|h1
  ·exact h1
  ·rw [List.getElem?_take,if_neg (by omega)] at hj;cases hj
 have hi0 : i - 1 < l.length:=by have:=(List.getElem?_eq_some_iff.1 hx).1;omega
 have hy:=hle l[i - 1] (List.getElem?_eq_getElem hi0) (by omega)
 rcases Nat.lt_or_ge j (i - 1) with h1|h1
 ·have hp:=List.pairwise_iff_getElem.1 h j (i - 1) (by rw [List.length_take];omega) (by rw [List.length_take];omega) h1
  rw [List.getElem_take,List.getElem_take] at hp
  rw [List.getElem?_take,if_pos hj1] at hj
  have:=(List.getElem?_eq_some_iff.1 hj).2
  omega
 ·have : j = i - 1:=by omega
  subst this
  rw [List.getElem?_take,if_pos hj1] at hj
  have:=(List.getElem?_eq_some_iff.1 hj).2
  omega
theorem Zd {l : List Nat} (h : HK l) {i j x y : Nat} (hx : l[i]? = some x) (hy : l[j]? = some y) (hij : i < j) : x ≤ y:=by
 obtain ⟨h1,h2⟩:=List.getElem?_eq_some_iff.1 hx
 obtain ⟨h3,h4⟩:=List.getElem?_eq_some_iff.1 hy
 have:=List.pairwise_iff_getElem.1 h i j h1 h3 hij
 rw [h2,h4] at this;exact this
theorem Tz (v : Int) (B : List Nat) (hB : Ws B) (hl : B.length ≤ 1000000) : Ah Tryz.prog 61 [.agg [.int .i64 v,Av B]] (fun r=>r = .bool (decide (Ff v B))):=by
 have hl0:=Ax B
 refine Ah.ofV ?_
 refine Ad (okc Tryz.f61.ntmps 0) (fn:=Tryz.f61) (cd:=_) rfl rfl rfl rfl rfl rfl (fun hbd=>?_)
 repeat' (
  conv=>whnf
  first
  |refine Al (fun h=>?_) (fun h=>?_))
 all_goals (conv=>whnf)
 all_goals (first|exact fF (fun e=>by have:=e.1;omega)|skip)
 obtain ⟨V,rfl⟩ : ∃ V : Nat,v = (V : Int):=⟨v.toNat,by omega⟩
 refine Bq (X:=Nat) (fun i=>[(1,.ptr 0 []),(3,iD i)]) (fun _=>[.var (.agg [iD V,Av B])]) (fun i=>i ≤ B.length ∧ HK (B.take i) ∧ ∀ b ∈ B.take i,b < 2 ^ V) (fun i=>B.length - i)
  ⟨_,A0 0 Bl rfl (Nat.lt_succ_self _) ⟨Nat.zero_le _,by simp,by simp⟩⟩ ?_
 rintro i ⟨hi,hs,hlt⟩
 rcases Nat.lt_or_ge i B.length with h1|h1
 ·obtain ⟨x,hx⟩:=Bp h1
  have hxw:=Ws.get hx hB
  have hx1 : (Ae B)[((i : Nat) : Int).toNat]? = some (sD x):=by simp [Ae,hx]
  have hz:=Zv (b:=x) (V:=V)
  have hxm : x ∈ B.take (i + 1):=by rw [List.take_add_one,hx];simp
  have hlt' : x < 2 ^ V → ∀ b ∈ B.take (i + 1),b < 2 ^ V:=fun h b hb=>by
   rw [List.take_add_one,hx] at hb
   rcases List.mem_append.1 hb with hb|hb
   ·exact hlt b hb
   ·rw [show b = x by simpa using hb];exact h
  rcases Nat.eq_zero_or_pos i with h0|h0
  ·subst h0
   repeat' (
    conv=>whnf
    first
    |(with_reducible refine ⟨_,hx1,?_⟩)
    |refine Al (fun h=>?_) (fun h=>?_)
    |refine Cs (fun h=>?_) (fun h=>?_)
    |with_reducible refine Ap ?_
    |((with_reducible apply EQ);(rfl);(rfl);(omega))
    |((with_reducible apply IF);(rfl);(exact wA))
    |((with_reducible apply A2 25);rfl)
    |((with_reducible apply ob);(exact oT)))
   all_goals (conv=>whnf)
   all_goals (first|(exfalso;omega)|skip)
   ·exact fF (fun e=>by have h3:=e.2.2 x (List.mem_of_getElem? hx);rw [Int.toNat_natCast] at h3;have h4:=hz.2 h3;omega)
   ·exact A0 (0 + 1) Bl rfl (by omega) ⟨by omega,Rd hs hx (fun y hy h=>absurd h (by omega)),hlt' (hz.1 (by omega))⟩
  ·obtain ⟨y,hy⟩:=Bp (l:=B) (i:=i - 1) (by omega)
   have hy1 : (Ae B)[(((i : Nat) : Int) - 1).toNat]? = some (sD y):=by rw [show (((i : Nat) : Int) - 1).toNat = i - 1 by omega];simp [Ae,hy]
   repeat' (
    conv=>whnf
    first
    |(with_reducible refine ⟨_,hx1,?_⟩)
    |(with_reducible refine ⟨_,hy1,?_⟩)
    |refine Al (fun h=>?_) (fun h=>?_)
    |refine Cs (fun h=>?_) (fun h=>?_)
    |with_reducible refine Ap ?_
    |((with_reducible apply EQ);(rfl);(rfl);(omega))
    |((with_reducible apply IF);(rfl);(exact wA))
    |((with_reducible apply A2 25);rfl)
    |((with_reducible apply ob);(exact oT)))
   all_goals (conv=>whnf)
   all_goals (first|(exfalso;omega)|skip)
   ·exact fF (fun e=>by have h3:=e.2.2 x (List.mem_of_getElem? hx);rw [Int.toNat_natCast] at h3;have h4:=hz.2 h3;omega)
   ·exact fF (fun e=>by have h3:=Zd e.2.1 hy hx (by omega);omega)
   ·exact A0 (i + 1) Bl rfl (by omega) ⟨by omega,Rd hs hx (fun z hz h=>by rw [hy] at hz;cases hz;omega),hlt' (hz.1 (by omega))⟩
 ·have hi2 : i = B.length:=by omega
  subst hi2
  rw [List.take_length] at hs hlt
  repeat' (
   conv=>whnf
   first
   |refine Al (fun h=>?_) (fun h=>?_)
   |refine Cs (fun h=>?_) (fun h=>?_)
   |with_reducible refine Ap ?_
   |((with_reducible apply EQ);(rfl);(rfl);(omega))
   |((with_reducible apply IF);(rfl);(exact wA))
   |((with_reducible refine Et (by omega) ?_);intro y hy;(try simp only [Int.toNat_natCast,Nat.zero_add] at hy);(try have hyr:=hR _ (List.mem_of_getElem? hy)))
   |((with_reducible apply A2 25);rfl)
   |((with_reducible apply ob);(exact oT)))
  all_goals (conv=>whnf)
  all_goals (first|(exfalso;omega)|skip)
  exact fT ⟨⟨by omega,by omega,by omega⟩,hs,by simpa using hlt⟩
end Go.Proofs.YtbpifoakbkmblaaGreatDoor.Pw
